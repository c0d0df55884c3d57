import Derived.Test.YtkkcidhcfkmbjaaGreatDoorLawF
set_option linter.unusedVariables false
set_option linter.unusedSimpArgs false
set_option linter.unusedSectionVars false
namespace Go.Proofs.YtkkcidhcfkmbjaaGreatDoor
namespace GV
set_option maxRecDepth 100000
section
variable {N : Nat} {m f : Mach}
theorem zpy{w:List Int}(a:MOk m)(f:400≤N)(g:WOk m.inputs w)(l:w.length≤100):r9 N m 0 w=some (bq m 0 w,0):=by
 have i:=a.r1
 have c:=zkl (s:=0) a (by omega)
 have b:z0n w m.inputs=0:=by
  have d:=a.i1;have e:=a.i2
  refine zh6 (by omega) ?_
  rintro(h|h)
  ·omega
  ·rw [(z5u (z5d m.inputs) w).2 fun k j=>by
    have:=g k j
    unfold z5d
    rw [decide_eq_false (by omega),decide_eq_false (by omega)];rfl] at h
   cases h
 have d: ¬z2s m 0≠0:=fun h=>h c
 have e: ¬z0n w m.inputs≠0:=fun h=>h b
 rw [zqq a.small f (by omega) (by omega)]
 unfold zqu zqr
 rw [if_neg d,if_neg e,if_neg d,b]
theorem zlk(d:MOk m)(g:FilOf m f){w:List Int}(h:zdb m f w):0<w.length∧(bq m 0 w).getD (w.length-1) default= -1∧ ∀ k,k<w.length-1→(bq m 0 w).getD k default≠ -1:=by
 obtain⟨i,a⟩:=(z4p d g).1 h.1
 have b:w≠[]:=fun e=>by rw [e] at a;simp [bq] at a
 have j:0<w.length:=List.length_pos_iff.2 b
 have hnot:(-1:Int)∉bq m 0 (w.take (w.length-1)):=fun l=>by
  have:=zhi (h.2 _ ((z4p d g).2 ⟨zh1 i _,l⟩))
  rw [List.length_take] at this;omega
 have hlen:=lm m 0 w
 have c:(bq m 0 (w.take (w.length-1))).length=w.length-1:=by rw [lm,List.length_take];omega
 have hsplit:bq m 0 w=bq m 0 (w.take (w.length-1))++[(ut m (aftL m 0 (w.take (w.length-1))) (w.getD (w.length-1) default)).out]:=by
  have:=ze8 m 0 w (w.length-1) (by omega)
  rw [show w.length-1+1=w.length by omega,List.take_length] at this;exact this
 rw [hsplit] at a
 have hlast:=(List.mem_append.1 a).resolve_left hnot
 rw [List.mem_singleton] at hlast
 refine⟨j,?_,fun k n=>?_⟩
 ·rw [hsplit,List.getD_eq_getElem?_getD,List.getElem?_append_right (by omega),c,Nat.sub_self]
  exact hlast.symm
 ·rw [hsplit,List.getD_eq_getElem?_getD,List.getElem?_append_left (by omega),←List.getD_eq_getElem?_getD]
  intro e
  exact hnot (by rw [←e];exact z0x (by omega))
theorem zri(g:MOk m)(u:FilOf m f)(i:zp6 m)(C:m.inputs≤16){w:List Int}(h:zdb m f w)(D:300≤N){l:List Int}{q r:Int}{b:Bool}{s:Nat}(d:s<m.rows.length):
 u6 N (m,l,q) (w,b,r) (au m.rows.length (rch m 0),o8 m.rows.length (rch m 0),0) (s:Int) N 0=some (Ex.go ()):=by
 have hi1:=g.i1;have hrow:=g.row s d
 obtain⟨v,x,y⟩:=zah g i d
 refine o7 (σ:=Unit) (fun F k _=>u6 N (m,l,q) (w,b,r) (au m.rows.length (rch m 0),o8 m.rows.length (rch m 0),0) (s:Int) F (k:Int)) m.inputs.toNat (fun _ _=>True) _ (fun F k _ t _=> .inr ⟨(),trivial,?_⟩) (fun F _ _=>?_) N 0 () (Nat.zero_le _) (by omega) trivial
 ·simp only [u6]
  rw [zm (fun _=>jc (by rw [ay];exact d))]
  rw [ct (show ((decide ((k:Int)<m.inputs))&&(ix (o8 m.rows.length (rch m 0)) (s:Int)))=true by rw [decide_eq_true (by omega),bi,z2l d,i s d];rfl)]
  rw [zm (jc (by rw [bn];exact d)),bi,z0k d,q9 (zpk (by omega) (by simp) (by omega)),zm (jc d),zm (show okI (ix m.rows (s:Int)) (k:Int) from jc (by rw [bi];omega))]
  obtain⟨c,z,j⟩:=zpg (N:=N) (a:=wdOf (rch m 0) s++[(k:Int)]) (b:=w) (by rw [List.length_append];simp;omega) (by rw [List.length_append];simp;omega)
  rw [zcb (fun _=>z)]
  have n:(ix (ix m.rows (s:Int)) (k:Int)).to=(eg m s k).to:=rfl
  rw [n]
  refine(cf ?_).trans ?_
  ·by_cases e:(eg m s k).to= -1
   ·have A:(eg m s k).out= -1:=by
     rcases ze5 g d t with h'|h'
     ·exact h'.2
     ·omega
    have B:=(z4p g u).2 (zbw g i d t A)
    have o:=zot (h.2 _ B)
    have p: ¬c<0:=fun h'=>o (j h')
    rw [decide_eq_true e]
    show (true&&decide (c<0))=false
    rw [decide_eq_false p];rfl
   ·rw [decide_eq_false e];rfl
  ·rw [zm (jm (by omega))];rfl
 ·simp only [u6]
  rw [zm (fun _=>jc (by rw [ay];exact d))]
  rw [cf (show ((decide (((m.inputs.toNat:Nat):Int)<m.inputs))&&(ix (o8 m.rows.length (rch m 0)) (s:Int)))=false by rw [decide_eq_false (by omega)];rfl)]
theorem znj{x:MDat}{way out:Int}(O:5000≤N)(r:MDOk x)(B:0≤way∧way≤255)(C:0≤out∧out≤255):cz N x way out=some true:=by
 have j:=zre r
 have P:=zsw r
 have D:=zrd (N:=N) r (by omega)
 have et:=zpm (N:=N) j (by omega)
 obtain⟨p,a,E⟩:=zkz j
 have G:(l6 (mOf x) (z2c (mOf x).rows.length (rch (mOf x) 0))).inputs=(mOf x).inputs:=rfl
 have t:(l6 (mOf x) (z2c (mOf x).rows.length (rch (mOf x) 0))).outputs=(mOf x).outputs:=rfl
 generalize l6 (mOf x) (z2c (mOf x).rows.length (rch (mOf x) 0))=m at*
 generalize z3y (z2c (mOf x).rows.length (rch (mOf x) 0))=l at*
 have H:=a.o1
 have u:=a.r1;have hi1:=a.i1;have hi2:=a.i2
 have hway:way%2=0∨way%2=1:=by omega
 have hout:0≤out%(mOf x).outputs∧out%(mOf x).outputs<m.outputs:=by
  rw [t];exact⟨Int.emod_nonneg _ (by omega),Int.emod_lt_of_pos _ (by omega)⟩
 obtain⟨f,ef,d⟩:=zoy (N:=N) a (by omega) (by omega) (by omega) hway hout
 have ec:yl N m=some (z2w m,0):=by rw [zb5 a.small (by omega),(lc m).2 a]
 have v:m.rows.length*f.rows.length≤64:=Nat.le_trans (Nat.mul_le_mul (show m.rows.length≤6 by omega) (show f.rows.length≤7 by have:=d.r2;omega)) (by decide)
 unfold cz
 rw [q9 D,q9 (show z16 N (⟨(mOf x).inputs,(mOf x).outputs,(mOf x).rows⟩:Mach)=some (m,l,0) from et),zm ⟨B.1,by decide⟩,zm (jm (by omega)),zm ⟨C.1,by omega⟩]
 rw [q9 (show z1c N (⟨m.inputs,m.outputs,m.rows⟩:Mach) (way%2) (out%(mOf x).outputs)=some (f,0) from ef),q9 (show yl N (⟨m.inputs,m.outputs,m.rows⟩:Mach)=some (z2w m,0) from ec)]
 have hlive:mo N=some true:=rfl
 rcases zkw (N:=N) a d.ok d.i.symm v (by omega) with⟨w,ed',q⟩|⟨ed',y⟩
 ·obtain⟨n,z⟩:=(z4p a d).1 q.1
  have c:z2w m=false:=by
   cases e:z2w m with
   |false=>rfl
   |true=>exact absurd z (zdg a ((z7y a).1 e) w 0 u n)
  have A: ¬zjl m:=fun h=>by rw [(z7y a).2 h] at c;cases c
  obtain⟨s,i,g,hi,o⟩: ∃ s i,s<m.rows.length∧i<m.inputs.toNat∧(eg m s i).out= -1:=by
   refine Classical.byContradiction fun I=>A fun s i g hi o=>I ⟨s,i,g,hi,o.2⟩
  have J:w.length≤70:=by
   have K:=zhi (q.2 _ ((z4p a d).2 (zbw a p g hi o)))
   have Q:=(zah a p g).2.2
   rw [List.length_append,List.length_singleton] at K;omega
  obtain⟨L,hlast,hfirst⟩:=zlk a d q
  have hlen:=lm m 0 w
  rw [q9 (show pq N (⟨m.inputs,m.outputs,m.rows⟩:Mach) (⟨f.inputs,f.outputs,f.rows⟩:Mach)=some (w,true,0) from ed')]
  refine(cf (by rw [c];rfl)).trans ((cf rfl).trans ?_)
  rw [q9 (show r9 N (⟨m.inputs,m.outputs,m.rows⟩:Mach) 0 w=some (bq m 0 w,0) from zpy a (by omega) n (by omega))]
  have b:((bq m 0 w).length:Int)-1=((w.length-1:Nat):Int):=by omega
  rw [zm (fun _=>by rw [b];exact jm (by omega)),zm (fun _=>by rw [b];exact jc (by show _<(bq m 0 w).length;omega))]
  refine(cf ?_).trans ?_
  ·dsimp only
   rw [b,bi,hlast,decide_eq_false (show¬((bq m 0 w).length:Int)=0 by omega)]
   rfl
  rw [q9 (show kz N (bq m 0 w,0) N 0=some (Ex.go ()) by
   refine o7 (σ:=Unit) (fun F k _=>kz N (bq m 0 w,0) F (k:Int)) (w.length-1) (fun _ _=>True) _ (fun F k _ M _=> .inr ⟨(),trivial,?_⟩) (fun F _ _=>?_) N 0 () (Nat.zero_le _) (by omega) trivial
   ·simp only [kz]
    rw [zm (by rw [b];exact jm (by omega)),b,gz (by omega),zm (jc (by omega)),bi,xz (hfirst k M),zm (jm (by omega))];rfl
   ·simp only [kz]
    rw [zm (by rw [b];exact jm (by omega)),b,xz (by omega)]),z9u]
  rw [q9 (show z04 N (⟨m.inputs,m.outputs,m.rows⟩:Mach)=some (au m.rows.length (rch m 0),o8 m.rows.length (rch m 0),0) from zk6 a (by omega))]
  rw [q9 (show ky N (m,l,0) (w,true,0) (au m.rows.length (rch m 0),o8 m.rows.length (rch m 0),0) N 0=some (Ex.go ()) by
   refine o7 (σ:=Unit) (fun F s _=>ky N (m,l,0) (w,true,0) (au m.rows.length (rch m 0),o8 m.rows.length (rch m 0),0) F (s:Int)) m.rows.length (fun _ _=>True) _ (fun F s _ g _=> .inr ⟨(),trivial,?_⟩) (fun F _ _=>?_) N 0 () (Nat.zero_le _) (by omega) trivial
   ·simp only [ky]
    rw [gz (by rw [bn];omega),q9 (zri a d p hi2 q (by omega) g),z9u,zm (jm (by omega))];rfl
   ·simp only [ky]
    rw [xz (by rw [bn];omega)]),z9u]
  rw [zcb (fun _=>hlive)]
  rfl
 ·have c:z2w m=true:=by
   refine(z7y a).2 fun s i g hi o=>?_
   exact y _ ((z4p a d).2 (zbw a p g hi o.2))
  rw [q9 (show pq N (⟨m.inputs,m.outputs,m.rows⟩:Mach) (⟨f.inputs,f.outputs,f.rows⟩:Mach)=some ([],false,0) from ed')]
  refine(cf (by rw [c];rfl)).trans ((ct rfl).trans ?_)
  rw [hlive];rfl
end
end GV
end Go.Proofs.YtkkcidhcfkmbjaaGreatDoor
