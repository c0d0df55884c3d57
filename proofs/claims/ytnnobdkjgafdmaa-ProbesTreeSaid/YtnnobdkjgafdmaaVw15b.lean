import Derived.Test.YtnnobdkjgafdmaaVw15a
set_option linter.unusedVariables false
set_option linter.unusedSimpArgs false
set_option linter.unusedSectionVars false
namespace Go.Proofs.Ytnnobdkjgafdmaa
namespace GV
set_option maxRecDepth 100000
def z4w(m:Mach)(i a t:Nat):Bool:=decide ((edI m (t:Int) (i:Int)).out=(edI m (a:Int) (i:Int)).out)
def zcu(m:Mach)(c:Int)(i s a:Nat)(X:Int)(t:Nat):Bool:=((tb X t&&z4w m i a t)&&(decide (tgt m t i=tgt m a i)&&decide (t≠a)))&&tb c s
section
variable {m : Mach} (hm : PM m) {c : Int} (hc : Cnt m c) {i : Nat} (hi : i < nIn m)
include hm hc hi
theorem zn7{f:Nat→Int}{s a:Nat}{X:Int}(E:s<m.rows.length)(y:a<m.rows.length)(G:0≤X∧X<((2^m.rows.length:Nat):Int))(l:f s=pkn a X)(Y:Arr 6 Int):
 ∀ F t,t≤m.rows.length→m.rows.length-t<F→ ∃ r,z15 5000 m (mkA 6 f) (i:Int) c (s:Int) Y F (bmk (zct m X i (z4w m i a) t) m.rows.length) (t:Int)=some r∧
  ((r=Ex.rt (Ex.rt (Y,false))∧ ∃ t',t'<m.rows.length∧zcu m c i s a X t'=true)∨(r=Ex.go (zg7 m X i (z4w m i a))∧ ∀ t',t≤t'→t'<m.rows.length→zcu m c i s a X t'=false))
 |0,t,_,h=>by omega
 |F+1,t,Q,hF=>by
  have H:=hm.r6
  have hc':=hc.le hm
  have k:0≤X∧X<256:=by
   have:(2:Nat)^m.rows.length≤2^6:=Nat.pow_le_pow_right (by decide) H
   omega
  unfold z15
  by_cases e:t=m.rows.length
  ·subst e
   rw [um (by omega)]
   exact⟨_,rfl,.inr ⟨rfl,fun t' v d=>by omega⟩⟩
  ·have ht':t<m.rows.length:=by omega
   have z:InS m (t:Int):=⟨by omega,by omega⟩
   have J:InS m (a:Int):=⟨by omega,by omega⟩
   have R:=hm.toCM.nin
   obtain⟨K,L⟩:=hm.toCM.tgt ht' hi
   obtain⟨S,M⟩:=hm.toCM.tgt y hi
   have o:=q1b (a:=a) (b:=X) (by omega) k
   have A:ow (f s) 8=(a:Int):=by rw [l];exact zts (by omega) k
   have B:tb (f s) t=tb X t:=by rw [l];exact q9y (by omega) k (by omega)
   have u:=zfp (x:=f s) (by rw [l];exact o) t
   have g:=zfp hc' s
   rw [wu (by omega),ze (qy ht'),ze (hm.toCM.okr z (by omega) (by omega)),ze (z4x (by omega)),zew (show s<6 by omega),ze ⟨by omega,by show (t:Int)≤16;omega⟩,ze ⟨⟨u.1,u.2⟩,by decide,by decide⟩,zq5 (by rw [l];exact o.1),B,A]
   have N:decide ((edI m (t:Int) (i:Int)).out≠(edI m (a:Int) (i:Int)).out)= !z4w m i a t:=by
    unfold z4w
    by_cases h:(edI m (t:Int) (i:Int)).out=(edI m (a:Int) (i:Int)).out
    ·rw [decide_eq_false (fun h'=>h' h),decide_eq_true h];rfl
    ·rw [decide_eq_true h,decide_eq_false h];rfl
   have O:(ix (ix m.rows (t:Int)) (i:Int)).to=(tgt m t i:Int):=L
   have P:(ix (ix m.rows (a:Int)) (i:Int)).to=(tgt m a i:Int):=M
   have q1':decide ((ix (ix m.rows (t:Int)) (i:Int)).out≠(ix (ix m.rows (a:Int)) (i:Int)).out)= !z4w m i a t:=N
   have j:=zrz (x:=X) (q:=z4w m i a) (n:=m.rows.length) K (by omega)
   rw [q1',O,P]
   cases hb:(tb X t&&z4w m i a t) with
   |false=>
    have w:(!tb X t|| !z4w m i a t)=true:=by rw [←Bool.not_and,hb];rfl
    rw [if_neg (by rw [hb];decide)] at j
    obtain⟨r,v,d⟩:=zn7 E y G l Y F (t+1) (by omega) (by omega)
    refine⟨r,?_,?_⟩
    ·rw [show (bd (bif (!tb X t|| !z4w m i a t) then(some (Ex.go (bmk (zct m X i (z4w m i a) t) m.rows.length)):Option (Ex Int (Ex Int (Ex (Arr 6 Int) (Arr 6 Int×Bool))))) else _) _)=_ from qc (ct w),zgl,ze (qm (by omega)),kz,j]
     exact v
    ·rcases d with d|⟨d,C⟩
     ·exact .inl d
     ·refine .inr ⟨d,fun t' ha' hb'=>?_⟩
      by_cases et:t'=t
      ·subst et;unfold zcu;rw [hb];rfl
      ·exact C t' (by omega) hb'
   |true=>
    have w:(!tb X t|| !z4w m i a t)=false:=by rw [←Bool.not_and,hb];rfl
    rw [if_pos hb] at j
    have I:zcu m c i s a X t=((decide ((tgt m t i:Int)=(tgt m a i:Int))&&decide ((t:Int)≠(a:Int)))&&decide (z2t (ow c (s:Int)) 1=1)):=by
     unfold zcu
     rw [hb,Bool.true_and,zq2 hc'.1]
     congr 2
     ·exact decide_eq_decide.2 ⟨fun h=>by omega,fun h=>by omega⟩
     ·exact decide_eq_decide.2 ⟨fun h=>by omega,fun h=>by omega⟩
    have D:=ziv (p:=zct m X i (z4w m i a) t) H
    have T:=zij (t:=tgt m t i) (by omega)
    cases hlo:zcu m c i s a X t with
    |true=>
     refine⟨_,?_,.inl ⟨rfl,t,ht',hlo⟩⟩
     refine(qc ((cf w).trans ?_)).trans (q94 (b:=Ex.rt (Ex.rt (Y,false))))
     rw [ze (fun _=>z4x (by omega)),ze (fun _=>by decide),ze (fun _=>qm (by omega)),ze (fun _=>⟨by omega,by show (s:Int)≤16;omega⟩),ze (fun _=>⟨⟨g.1,g.2⟩,by decide,by decide⟩)]
     exact ct (I.symm.trans hlo)
    |false=>
     obtain⟨r,v,d⟩:=zn7 E y G l Y F (t+1) (by omega) (by omega)
     refine⟨r,?_,?_⟩
     ·refine(qc (x:=Ex.go (bmk (zct m X i (z4w m i a) (t+1)) m.rows.length)) ((cf w).trans ?_)).trans ?_
      ·rw [ze (fun _=>z4x (by omega)),ze (fun _=>by decide),ze (fun _=>qm (by omega)),ze (fun _=>⟨by omega,by show (s:Int)≤16;omega⟩),ze (fun _=>⟨⟨g.1,g.2⟩,by decide,by decide⟩)]
       refine(cf (I.symm.trans hlo)).trans ?_
       rw [ze ⟨by omega,by show (tgt m t i:Int)≤16;omega⟩,←j,zcq (by omega),ze ⟨⟨D.1,by show _≤(65535:Int);omega⟩,by omega,by show _≤(65535:Int);omega⟩]
      ·rw [zgl,ze (qm (by omega)),kz];exact v
     ·rcases d with d|⟨d,C⟩
      ·exact .inl d
      ·refine .inr ⟨d,fun t' ha' hb'=>?_⟩
       by_cases et:t'=t
       ·subst et;exact hlo
       ·exact C t' (by omega) hb'
theorem q44{cu:Nat→Nat}{X:Nat→Int}{f:Nat→Int}(l: ∀ s,s<m.rows.length→cu s<m.rows.length)(y: ∀ s,s<m.rows.length→0≤X s∧X s<((2^m.rows.length:Nat):Int))(z: ∀ s,s<m.rows.length→f s=pkn (cu s) (X s)):
 ∃ r,z3y 5000 m (mkA 6 f) (i:Int) c=some r∧((r.2=false∧ ∃ s t,s<m.rows.length∧t<m.rows.length∧zcu m c i s (cu s) (X s) t=true)∨
  (r=(mkA 6 (fun s=>if s<m.rows.length then pkn (tgt m (cu s) i) (zg7 m (X s) i (z4w m i (cu s))) else f s),true)∧ ∀ s t,s<m.rows.length→t<m.rows.length→zcu m c i s (cu s) (X s) t=false)):=by
 have A:=hm.r6
 have N:=hm.toCM.nin
 have key: ∀ F s,s≤m.rows.length→m.rows.length-s<F→ ∃ r,z16 5000 m (mkA 6 f) (i:Int) c F (s:Int) (mkA 6 fun u=>if u<s then pkn (tgt m (cu u) i) (zg7 m (X u) i (z4w m i (cu u))) else f u)=some r∧
  (((∃ Y,r=Ex.rt (Y,false))∧ ∃ s t,s<m.rows.length∧t<m.rows.length∧zcu m c i s (cu s) (X s) t=true)∨
  (r=Ex.go (mkA 6 (fun u=>if u<m.rows.length then pkn (tgt m (cu u) i) (zg7 m (X u) i (z4w m i (cu u))) else f u))∧ ∀ u t,s≤u→u<m.rows.length→t<m.rows.length→zcu m c i u (cu u) (X u) t=false)):=by
  intro F
  induction F with
  |zero=>intro s _ h;omega
  |succ F ih=>
   intro s O hF
   unfold z16
   by_cases e:s=m.rows.length
   ·subst e
    rw [um (by omega)]
    exact⟨_,rfl,.inr ⟨rfl,fun u t d g=>by omega⟩⟩
   ·have hs':s<m.rows.length:=by omega
    have n:0≤X s∧X s<256:=by
     have:(2:Nat)^m.rows.length≤2^6:=Nat.pow_le_pow_right (by decide) A
     have:=y s hs'
     omega
    have j:=l s hs'
    have o:ow (f s) 8=(cu s:Int):=by rw [z s hs'];exact zts (by omega) n
    obtain⟨P,G⟩:=hm.toCM.tgt j hi
    have H:(ix (ix m.rows (cu s:Int)) (i:Int)).to=(tgt m (cu s) i:Int):=G
    have q:=ziv (p:=zct m (X s) i (z4w m i (cu s)) m.rows.length) A
    have hib':0≤zg7 m (X s) i (z4w m i (cu s))∧zg7 m (X s) i (z4w m i (cu s))<256:=q
    rw [wu (by omega),ze (z4x (by omega)),ze (by decide),zew (show s<6 by omega),o,ze (qy j),ze (hm.toCM.okr ⟨by omega,by omega⟩ (by omega) (by omega)),H]
    have I:bmk (zct m (X s) i (z4w m i (cu s)) 0) m.rows.length=0:=by
     refine(zar (Int.le_refl 0) (by have:(0:Nat)<2^m.rows.length:=Nat.two_pow_pos _;omega) fun t B=>?_).symm
     rw [zcx];rfl
    obtain⟨r,d,g⟩:=zn7 hm hc hi hs' j (y s hs') (z s hs') (mkA 6 fun u=>if u<s then pkn (tgt m (cu u) i) (zg7 m (X u) i (z4w m i (cu u))) else f u) 5000 0 (Nat.zero_le _) (by omega)
    rw [I] at d
    rw [qc (show z15 5000 m (mkA 6 f) (i:Int) c (s:Int) _ 5000 0 0=some r from d)]
    rcases g with⟨rfl,t,B,v⟩|⟨rfl,w⟩
    ·exact⟨_,rfl,.inl ⟨⟨_,rfl⟩,s,t,hs',B,v⟩⟩
    ·obtain⟨J,K,k⟩:=ih (s+1) (by omega) (by omega)
     refine⟨J,?_,?_⟩
     ·rw [zgl,ze (by decide)]
      have C:IntKind.u16.wrap (tgt m (cu s) i:Int)=(tgt m (cu s) i:Int):=z6o _ (by omega) (by show (tgt m (cu s) i:Int)≤65535;omega)
      have D:lh .u16 (tgt m (cu s) i:Int) 8=((256*tgt m (cu s) i:Nat):Int):=by
       unfold lh
       rw [show (2:Int)^(8:Int).toNat=256 from rfl,z6o _ (by omega) (by show (tgt m (cu s) i:Int)*256≤65535;omega)]
       omega
      rw [ze ⟨⟨by rw [C,D];omega,by rw [C,D];show _≤(65535:Int);omega⟩,hib'.1,by show _≤(65535:Int);omega⟩,q2r (by omega) hib',ze (z4x (by omega)),ze (qm (by omega)),zif,kz,←K]
      congr 1
      refine iq fun u Q=>?_
      by_cases d:u=s
      ·subst d;rw [if_pos rfl,if_pos (by omega)]
      ·rw [if_neg d]
       by_cases g:u<s
       ·rw [if_pos g,if_pos (by omega)]
       ·rw [if_neg g,if_neg (by omega)]
     ·rcases k with k|⟨k,L⟩
      ·exact .inl k
      ·refine .inr ⟨k,fun u t R M E=>?_⟩
       by_cases eu:u=s
       ·subst eu;exact w t (Nat.zero_le _) E
       ·exact L u t (by omega) M E
 obtain⟨r,d,g⟩:=key 5000 0 (Nat.zero_le _) (by omega)
 rw [show (mkA 6 fun u=>if u<0 then pkn (tgt m (cu u) i) (zg7 m (X u) i (z4w m i (cu u))) else f u)=mkA 6 f from iq fun u _=>if_neg (by omega)] at d
 unfold z3y
 rw [qc (show z16 5000 m (mkA 6 f) (i:Int) c 5000 0 (mkA 6 f)=some r from d)]
 rcases g with⟨⟨Y,rfl⟩,x⟩|⟨rfl,x⟩
 ·exact⟨_,rfl,.inl ⟨rfl,x⟩⟩
 ·exact⟨_,rfl,.inr ⟨rfl,fun s t a b=>x s t (Nat.zero_le _) a b⟩⟩
end
end GV
end Go.Proofs.Ytnnobdkjgafdmaa
