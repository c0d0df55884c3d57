import Derived.Test.YtnnobdkjgafdmaaVw15a
set_option linter.unusedVariables false
set_option linter.unusedSimpArgs false
set_option linter.unusedSectionVars false
namespace Go.Proofs.Ytnnobdkjgafdmaa
namespace GV
set_option maxRecDepth 100000
def rz(m:Mach)(s i:Nat):Nat:=(edI m (s:Int) (i:Int)).out.toNat
def qO(m:Mach)(i o:Nat)(s:Nat):Bool:=decide (rz m s i=o)
def zq9(m:Mach)(x i s:Nat):Bool:=tb (x:Int) s&&zct m (x:Int) i (qO m i (rz m s i)) s (tgt m s i)
def z2d(m:Mach)(x i:Nat):Bool:=(List.range m.rows.length).all fun s=> !zq9 m x i s
def prI(m:Mach)(x i o:Nat):Int:=zg7 m (x:Int) i (qO m i o)
def prN(m:Mach)(x i o:Nat):Nat:=(prI m x i o).toNat
def zfz(m:Mach)(P:Nat→Bool)(x:Nat):Bool:=(List.range (nIn m)).any fun i=>z2d m x i&&(List.range 16).all fun o=>P (prN m x i o)
def LV(m:Mach):Nat→Nat→Int
 |0,x=>if pcB (x:Int)<2 then 0 else-1
 |k+1,x=>if LV m k x<0∧zfz m (fun z=>decide (0≤LV m k z)) x=true then(k:Int)+1 else LV m k x
theorem zk7{m:Mach}: ∀ {k x:Nat},-1≤LV m k x∧LV m k x≤k
 |0,x=>by unfold LV;split<;>omega
 |k+1,x=>by
  have:=zk7 (m:=m) (k:=k) (x:=x)
  unfold LV;split<;>omega
theorem zl1{m:Mach}{k x:Nat}(h:0≤LV m k x):LV m (k+1) x=LV m k x:=by
 show (if _ then _ else _)=_
 rw [if_neg (fun a=>by omega)]
theorem zuf{m:Mach}{k x:Nat}(h:0≤LV m k x): ∀ j,LV m (k+j) x=LV m k x
 |0=>rfl
 |j+1=>by
  have:=zuf h j
  rw [←this]
  exact zl1 (k:=k+j) (by rw [this];exact h)
theorem zc5{m:Mach}{x:Nat}(h:pcB (x:Int)<2)(k:Nat):LV m k x=0:=by
 have a:LV m 0 x=0:=if_pos h
 have:=zuf (m:=m) (k:=0) (x:=x) (by omega) k
 rw [Nat.zero_add] at this;omega
theorem zqv{m:Mach}{x:Nat}(h: ¬pcB (x:Int)<2): ∀ k:Nat,LV m k x≠0
 |0=>by unfold LV;rw [if_neg h];omega
 |k+1=>by
  have:=zqv (m:=m) h k
  unfold LV;split<;>omega
theorem zgc{m:Mach}{x i o:Nat}:prN m x i o<2^m.rows.length∧prI m x i o=(prN m x i o:Int):=by
 obtain⟨a,b⟩:=zxa m (x:Int) i (qO m i o)
 unfold prN
 have e:prI m x i o=zg7 m (x:Int) i (qO m i o):=rfl
 rw [e]
 omega
theorem zv0(p:Nat→Bool)(k:Nat):(List.range (k+1)).any p=((List.range k).any p||p k):=by rw [List.range_succ,List.any_append];simp
section
variable {m : Mach} (hm : PM m) {i : Nat} (hi : i < nIn m)
include hm
theorem z4z:2^m.rows.length≤64:=Nat.le_trans (Nat.pow_le_pow_right (by decide) hm.r6) (by decide)
include hi
theorem zas{s:Nat}(c:s<m.rows.length):(edI m (s:Int) (i:Int)).out=(rz m s i:Int)∧rz m s i<16∧(rz m s i:Int)<m.outputs:=by
 have d:=hm.toCM.nin
 have e:=hm.ok.o2
 obtain⟨_,a,b⟩:=hm.toCM.edge (s:=(s:Int)) (i:=(i:Int)) ⟨by omega,by omega⟩ (by omega) (by omega)
 unfold rz
 omega
def zjs(m:Mach)(x i k o:Nat):Int:=bmk (zct m (x:Int) i (qO m i o) k) m.rows.length
theorem q4u{x:Nat}(K:x<2^m.rows.length): ∃ Y b,z88 5000 m (x:Int) (i:Int)=some (Y,b)∧b=z2d m x i∧(b=true→Y=mkA 16 fun o=>prI m x i o):=by
 have C:=hm.r6
 have L:=hm.toCM.nin
 have D:=z4z hm
 have key: ∀ F k,k≤m.rows.length→m.rows.length-k<F→(∀ s,s<k→zq9 m x i s=false)→ ∃ r,z18 5000 m (x:Int) (i:Int) F (k:Int) (mkA 16 (zjs m x i k))=some r∧((r=Ex.go (mkA 16 fun o=>prI m x i o)∧z2d m x i=true)∨((∃ Y,r=Ex.rt (Y,false))∧z2d m x i=false)):=by
  intro F
  induction F with
  |zero=>intro k _ h;omega
  |succ F ih=>
   intro k M hF u
   unfold z18
   by_cases e:k=m.rows.length
   ·subst e
    rw [um (by omega)]
    refine⟨_,rfl,.inl ⟨rfl,?_⟩⟩
    unfold z2d
    rw [List.all_eq_true]
    intro s l
    rw [u s (List.mem_range.1 l)];rfl
   ·have hk':k<m.rows.length:=by omega
    have f:InS m (k:Int):=⟨by omega,by omega⟩
    obtain⟨E,N,O⟩:=zas hm hi hk'
    obtain⟨y,G⟩:=hm.toCM.tgt hk' hi
    have z:(ix (ix m.rows (k:Int)) (i:Int)).out=(rz m k i:Int):=E
    have A:(ix (ix m.rows (k:Int)) (i:Int)).to=(tgt m k i:Int):=G
    have g:=zfp (x:=(x:Int)) ⟨by omega,by omega⟩ k
    rw [wu (by omega),ze ⟨by omega,by show (k:Int)≤16;omega⟩,ze ⟨⟨g.1,g.2⟩,by decide,by decide⟩,zq5 (by omega)]
    cases hb:tb (x:Int) k with
    |false=>
     obtain⟨r,d,j⟩:=ih (k+1) (by omega) (by omega) fun s l=>by
      by_cases es:s=k
      ·subst es;unfold zq9;rw [hb];rfl
      ·exact u s (by omega)
     refine⟨r,?_,j⟩
     have:mkA 16 (zjs m x i (k+1))=mkA 16 (zjs m x i k):=iq fun o B=>zcd fun t H=>by
      rw [zjl,hb,Bool.false_and,Bool.false_and,Bool.or_false]
     rw [this] at d
     refine(qc (ct rfl)).trans ?_
     rw [zgl,ze (qm (by omega)),kz];exact d
    |true=>
     have v:=ziv (p:=zct m (x:Int) i (qO m i (rz m k i)) k) C
     have a:=zfp (x:=zjs m x i k (rz m k i)) ⟨v.1,by show bmk _ _≤_;omega⟩ (tgt m k i)
     have I:=zij (t:=tgt m k i) (by omega)
     have hdup:zq9 m x i k=decide (z2t (ow (zjs m x i k (rz m k i)) (tgt m k i:Int)) 1=1):=by
      rw [zq2 (x:=zjs m x i k (rz m k i)) v.1 (tgt m k i)]
      unfold zq9 zjs
      rw [hb,Bool.true_and,z8h,decide_eq_true y,Bool.true_and]
     cases hdd:zq9 m x i k with
     |true=>
      refine⟨Ex.rt (mkA 16 (zjs m x i k),false),?_,.inr ⟨⟨mkA 16 (zjs m x i k),rfl⟩,?_⟩⟩
      ·refine(qc (x:=Ex.rt (Ex.rt (mkA 16 (zjs m x i k),false))) ((cf rfl).trans ?_)).trans q94
       rw [ze (qy hk'),ze (hm.toCM.okr f (by omega) (by omega)),z,A,ze (z4x (by omega)),ze ⟨by omega,by show (tgt m k i:Int)≤16;omega⟩,zew (by omega),ze ⟨⟨a.1,a.2⟩,by decide,by decide⟩,←hdup,hdd];rfl
      ·cases hok:z2d m x i with
       |false=>rfl
       |true=>
        unfold z2d at hok
        have:=List.all_eq_true.1 hok k (List.mem_range.2 hk')
        rw [hdd] at this;cases this
     |false=>
      obtain⟨r,d,j⟩:=ih (k+1) (by omega) (by omega) fun s l=>by
       by_cases es:s=k
       ·subst es;exact hdd
       ·exact u s (by omega)
      refine⟨r,?_,j⟩
      refine(qc (x:=Ex.go (mkA 16 (zjs m x i (k+1)))) ((cf rfl).trans ?_)).trans ?_
      ·rw [ze (qy hk'),ze (hm.toCM.okr f (by omega) (by omega)),z,A,ze (z4x (by omega)),ze ⟨by omega,by show (tgt m k i:Int)≤16;omega⟩,zew (by omega),ze ⟨⟨a.1,a.2⟩,by decide,by decide⟩,←hdup,hdd]
       refine(cf rfl).trans ?_
       rw [ze (z4x (by omega)),ze ⟨by omega,by show (tgt m k i:Int)≤16;omega⟩,zcq (by omega),ze ⟨⟨v.1,by show bmk _ _≤(65535:Int);omega⟩,by omega,by show _≤(65535:Int);omega⟩,ze (z4x (by omega)),zif]
       congr 2
       refine iq fun o B=>?_
       have c:=zrz (x:=(x:Int)) (i:=i) (k:=k) (q:=qO m i o) (n:=m.rows.length) y (by omega)
       by_cases eo:o=rz m k i
       ·subst eo
        rw [if_pos rfl]
        rw [if_pos (by rw [hb];exact decide_eq_true rfl),zcq (by omega)] at c
        exact c
       ·rw [if_neg eo]
        rw [if_neg (by rw [hb];unfold qO;rw [decide_eq_false (fun h=>eo h.symm)];decide)] at c
        exact c
      ·rw [zgl,ze (qm (by omega)),kz];exact d
 have J:lq 16 (List.replicate 16 (0:Int))=mkA 16 (zjs m x i 0):=by
  rw [zmr]
  refine iq fun o B=>zar (Int.le_refl 0) (by have:(0:Nat)<2^m.rows.length:=Nat.two_pow_pos _;omega) fun t H=>?_
  rw [zcx];rfl
 obtain⟨r,d,j⟩:=key 5000 0 (Nat.zero_le _) (by omega) fun s l=>by omega
 unfold z88
 rw [J,qc (show z18 5000 m (x:Int) (i:Int) 5000 0 (mkA 16 (zjs m x i 0))=some r from d)]
 rcases j with⟨rfl,w⟩|⟨⟨Y,rfl⟩,w⟩
 ·exact⟨_,_,rfl,w.symm,fun _=>rfl⟩
 ·exact⟨_,_,rfl,w.symm,fun h=>(nomatch h)⟩
end
def hasB(T:Nat→Int)(h:Int)(x:Nat):Bool:=decide ((pcB (x:Int):Int)<2)||(decide (0<T x)&&decide (T x<h))
theorem has_eq{T:Nat→Int}{h:Int}{x:Nat}(a:x<64):l7 5000 (mkA 64 T) (x:Int) h=some (hasB T h x):=by
 unfold l7 hasB
 rw [qc (zou (x:=(x:Int)) ⟨by omega,by omega⟩),ze (fun _=>z4x a),ze (fun _=>z4x a),zew a]
section
variable {m : Mach} (hm : PM m)
include hm
def q35(m:Mach)(T:Nat→Int)(h:Int)(x i:Nat):Bool:=z2d m x i&&(List.range 16).all fun o=>hasB T h (prN m x i o)
theorem lower_eq{T:Nat→Int}{h:Int}{x i:Nat}(hi:i<nIn m)(d:x<2^m.rows.length):l5 5000 (mkA 64 T) m (x:Int) (i:Int) h=some (q35 m T h x i):=by
 have e:=z4z hm
 obtain⟨Y,b,f,rfl,g⟩:=q4u hm hi d
 unfold l5
 rw [qc f]
 have:w9 5000 (mkA 64 T) h (Y,z2d m x i) 5000 (z2d m x i&&(List.range 0).all fun o=>hasB T h (prN m x i o)) ((0:Nat):Int)=some (q35 m T h x i):=by
  refine z2k (fun F k z=>w9 5000 (mkA 64 T) h (Y,z2d m x i) F z (k:Int)) 16 (fun k=>z2d m x i&&(List.range k).all fun o=>hasB T h (prN m x i o)) _ (fun F k j=>?_) (fun F=>?_) (by omega)
  ·show w9 5000 (mkA 64 T) h (Y,z2d m x i) (F+1) _ (k:Int)=w9 5000 (mkA 64 T) h (Y,z2d m x i) F _ ((k+1:Nat):Int)
   rw [w9,wu (by omega),ze (qy (by rw [Y.2];exact j))]
   have c:(List.range (k+1)).all (fun o=>hasB T h (prN m x i o))=((List.range k).all (fun o=>hasB T h (prN m x i o))&&hasB T h (prN m x i k)):=by rw [List.range_succ,List.all_append];simp
   cases hb:(z2d m x i&&(List.range k).all fun o=>hasB T h (prN m x i o)) with
   |false=>
    refine(qc (zta rfl)).trans ?_
    rw [ze (qm (by omega)),kz,Bool.false_and,c,←Bool.and_assoc,hb,Bool.false_and]
   |true=>
    have a:z2d m x i=true:=(Bool.and_eq_true _ _▸hb).1
    have l:=g a
    refine(qc (zjx rfl (show l7 5000 (mkA 64 T) (ix Y.1 (k:Int)) h=some (hasB T h (prN m x i k)) from ?_))).trans ?_
    ·rw [l,zew (by omega),zgc.2]
     exact has_eq (by have:=zgc (m:=m) (x:=x) (i:=i) (o:=k);omega)
    ·rw [ze (qm (by omega)),kz,Bool.true_and,c,←Bool.and_assoc,hb,Bool.true_and];rfl
  ·show w9 5000 (mkA 64 T) h (Y,z2d m x i) (F+1) _ ((16:Nat):Int)=_
   rw [w9,um (by omega)];rfl
 rw [show (z2d m x i&&(List.range 0).all fun o=>hasB T h (prN m x i o))=z2d m x i from Bool.and_true _] at this
 exact qc this
/-! ### the table-/
def TV(m:Mach)(k x:Nat):Int:=if LV m k x<0 then 0 else LV m k x
theorem q9q{k x:Nat}:hasB (TV m k) ((k:Int)+1) x=decide (0≤LV m k x):=by
 unfold hasB TV
 have a:=zk7 (m:=m) (k:=k) (x:=x)
 by_cases h2:pcB (x:Int)<2
 ·rw [decide_eq_true (show (pcB (x:Int):Int)<2 by omega),Bool.true_or,zc5 h2];rfl
 ·have b:=zqv (m:=m) h2 k
  rw [decide_eq_false (show¬(pcB (x:Int):Int)<2 by omega),Bool.false_or]
  by_cases h:LV m k x<0
  ·rw [if_pos h,decide_eq_false (show¬(0:Int)<0 by omega),Bool.false_and,decide_eq_false (by omega)]
  ·rw [if_neg h,decide_eq_true (show 0<LV m k x by omega),decide_eq_true (show LV m k x<(k:Int)+1 by omega),decide_eq_true (by omega)];rfl
def z5f(m:Mach)(k x:Nat):Bool:=decide (LV m k x<0)&&zfz m (fun z=>decide (0≤LV m k z)) x
theorem zpr{k x:Nat}:TV m (k+1) x=if z5f m k x=true then(k:Int)+1 else TV m k x:=by
 unfold TV z5f
 have b:=zk7 (m:=m) (k:=k) (x:=x)
 by_cases h:LV m k x<0∧zfz m (fun z=>decide (0≤LV m k z)) x=true
 ·have a:(decide (LV m k x<0)&&zfz m (fun z=>decide (0≤LV m k z)) x)=true:=by rw [Bool.and_eq_true,decide_eq_true_iff];exact h
  rw [if_pos a,show LV m (k+1) x=(k:Int)+1 from if_pos h,if_neg (by omega)]
 ·have a: ¬(decide (LV m k x<0)&&zfz m (fun z=>decide (0≤LV m k z)) x)=true:=by rw [Bool.and_eq_true,decide_eq_true_iff];exact h
  rw [if_neg a,show LV m (k+1) x=LV m k x from if_neg h]
def TW(m:Mach)(k x:Nat):Int:=if x<2^m.rows.length then TV m k x else 0
theorem q4a{k x:Nat}(a:x<2^m.rows.length):hasB (TW m k) ((k:Int)+1) x=decide (0≤LV m k x):=by
 rw [←q9q hm]
 unfold hasB TW
 rw [if_pos a]
theorem zwb{k x:Nat}{b:Bool}{Z:Arr 64 Int}(d:x<2^m.rows.length):z01 5000 m ((k:Int)+1) (mkA 64 (TW m k)) b (x:Int) Z 5000 0=some (if zfz m (fun z=>decide (0≤LV m k z)) x=true then(true,z0g Z (x:Int) ((k:Int)+1)) else(b,Z)):=by
 have l:=hm.toCM.nin
 have f:=hm.ok.i2
 have g:=z4z hm
 have hlow: ∀ i,i<nIn m→l5 5000 (mkA 64 (TW m k)) m (x:Int) (i:Int) ((k:Int)+1)=some (z2d m x i&&(List.range 16).all fun o=>decide (0≤LV m k (prN m x i o))):=fun i hi=>by
  rw [lower_eq hm hi d]
  unfold q35
  congr 2
  exact congrArg _ (funext fun o=>q4a hm zgc.1)
 have key: ∀ F i,i≤nIn m→nIn m-i<F→(∀ j,j<i→(z2d m x j&&(List.range 16).all fun o=>decide (0≤LV m k (prN m x j o)))=false)→z01 5000 m ((k:Int)+1) (mkA 64 (TW m k)) b (x:Int) Z F (i:Int)=some (if zfz m (fun z=>decide (0≤LV m k z)) x=true then(true,z0g Z (x:Int) ((k:Int)+1)) else(b,Z)):=by
  intro F
  induction F with
  |zero=>intro i _ h;omega
  |succ F ih=>
   intro i hi hF a
   unfold z01
   by_cases e:i=nIn m
   ·subst e
    rw [um (by omega),if_neg]
    intro h
    obtain⟨j,c,h⟩:=List.any_eq_true.1 h
    rw [a j (List.mem_range.1 c)] at h;cases h
   ·rw [wu (by omega),qc (hlow i (by omega))]
    cases hb:(z2d m x i&&(List.range 16).all fun o=>decide (0≤LV m k (prN m x i o))) with
    |true=>
     rw [if_pos (show zfz m (fun z=>decide (0≤LV m k z)) x=true from List.any_eq_true.2 ⟨i,List.mem_range.2 (by omega),hb⟩)]
     refine(ct rfl).trans ?_
     rw [ze (qy (by rw [Z.2];omega))]
    |false=>
     refine(cf rfl).trans ?_
     rw [ze (qm (by omega)),kz]
     exact ih (i+1) (by omega) (by omega) fun j c=>by
      by_cases ej:j=i
      ·subst ej;exact hb
      ·exact a j (by omega)
 exact key 5000 0 (Nat.zero_le _) (by omega) fun j c=>by omega
theorem znd{k:Nat}:gp 5000 m ((k:Int)+1) (mkA 64 (TW m k)) 5000 false 0 (mkA 64 (TW m k))=some ((List.range (2^m.rows.length)).any (z5f m k),mkA 64 fun y=>if y<2^m.rows.length then TV m (k+1) y else TW m k y):=by
 have f:=hm.r6
 have d:=z4z hm
 have b:lh .u16 (1:Int) (m.rows.length:Int)=((2^m.rows.length:Nat):Int):=zcq (by omega)
 have:=z2k (fun F y (z:Bool×Arr 64 Int)=>gp 5000 m ((k:Int)+1) (mkA 64 (TW m k)) F z.1 (y:Int) z.2) (2^m.rows.length) (fun y=>((List.range y).any (z5f m k),mkA 64 fun z=>if z<y then TV m (k+1) z else TW m k z)) ((List.range (2^m.rows.length)).any (z5f m k),mkA 64 fun y=>if y<2^m.rows.length then TV m (k+1) y else TW m k y) (fun F y a=>?_) (fun F=>?_) (F:=5000) (by omega)
 ·rw [show (mkA 64 (TW m k))=mkA 64 (fun z=>if z<0 then TV m (k+1) z else TW m k z) from iq fun z _=>(if_neg (by omega)).symm] at this⊢
  exact this
 ·show gp 5000 m ((k:Int)+1) (mkA 64 (TW m k)) (F+1) _ (y:Int) _=_
  have e:IntKind.u16.wrap ((y:Int)+1)=((y+1:Nat):Int):=by
   rw [z6o _ (by omega) (by show (y:Int)+1≤65535;omega)];rfl
  rw [gp,b,wu (by omega),qc (has_eq (by omega)),q4a hm a,e]
  have TWy:TW m k y=TV m k y:=if_pos a
  have hany:(List.range (y+1)).any (z5f m k)=((List.range y).any (z5f m k)||z5f m k y):=zv0 ..
  by_cases h0:0≤LV m k y
  ·have hnew:z5f m k y=false:=by unfold z5f;rw [decide_eq_false (by omega)];rfl
   rw [decide_eq_true h0]
   refine(qc (ct rfl)).trans ?_
   dsimp only
   rw [hany,hnew,Bool.or_false]
   congr 1
   refine iq fun z c=>?_
   by_cases ez:z=y
   ·subst ez;rw [if_neg (by omega),if_pos (by omega),zpr hm,hnew,TWy];rfl
   ·by_cases h2:z<y
    ·rw [if_pos h2,if_pos (by omega)]
    ·rw [if_neg h2,if_neg (by omega)]
  ·rw [decide_eq_false h0]
   refine(qc ((cf rfl).trans (zwb hm a))).trans ?_
   cases hcan:zfz m (fun z=>decide (0≤LV m k z)) y with
   |true=>
    have hnew:z5f m k y=true:=by unfold z5f;rw [hcan,decide_eq_true (by omega)];rfl
    rw [if_pos rfl]
    dsimp only
    rw [hany,hnew,Bool.or_true,zif]
    congr 1
    refine iq fun z c=>?_
    by_cases ez:z=y
    ·subst ez;rw [if_pos rfl,if_pos (by omega),zpr hm,hnew];rfl
    ·rw [if_neg ez]
     by_cases h2:z<y
     ·rw [if_pos h2,if_pos (by omega)]
     ·rw [if_neg h2,if_neg (by omega)]
   |false=>
    have hnew:z5f m k y=false:=by unfold z5f;rw [hcan,Bool.and_false]
    rw [if_neg (by decide)]
    dsimp only
    rw [hany,hnew,Bool.or_false]
    congr 1
    refine iq fun z c=>?_
    by_cases ez:z=y
    ·subst ez;rw [if_neg (by omega),if_pos (by omega),zpr hm,hnew,TWy];rfl
    ·by_cases h2:z<y
     ·rw [if_pos h2,if_pos (by omega)]
     ·rw [if_neg h2,if_neg (by omega)]
 ·show gp 5000 m ((k:Int)+1) (mkA 64 (TW m k)) (F+1) _ ((2^m.rows.length:Nat):Int) _=_
  rw [gp,b,um (by omega)]
/-! ### the rounds-/
theorem zkd{p q:Nat→Bool}: ∀ {l:List Nat},(∀ y∈l,q y=true→p y=true)→l.countP q≤l.countP p∧((∃ y∈l,p y=true∧q y=false)→l.countP q<l.countP p)
 | [],_=>⟨Nat.le_refl _,fun⟨y,b,_⟩=>absurd b List.not_mem_nil⟩
 |a::l,h=>by
  obtain⟨g,e⟩:=zkd (l:=l) fun y b=>h y (List.mem_cons_of_mem _ b)
  have f:=h a (List.mem_cons_self ..)
  rw [List.countP_cons,List.countP_cons]
  cases hq:q a with
  |true=>
   rw [f hq,if_pos rfl]
   refine⟨by omega,fun⟨y,b,d,c⟩=>?_⟩
   rcases List.mem_cons.1 b with rfl|b
   ·rw [hq] at c;cases c
   ·have:=e ⟨y,b,d,c⟩;omega
  |false=>
   rw [if_neg (show¬false=true by decide)]
   refine⟨by split<;>omega,fun⟨y,b,d,c⟩=>?_⟩
   rcases List.mem_cons.1 b with rfl|b
   ·rw [if_pos d];omega
   ·have:=e ⟨y,b,d,c⟩
    split<;>omega
def zs2(m:Mach)(k:Nat):Nat:=(List.range (2^m.rows.length)).countP fun y=>decide (LV m k y<0)
def Stb(m:Mach)(k:Nat):Prop:= ∀ y,y<2^m.rows.length→z5f m k y=false
theorem zsr{k:Nat}(h:(List.range (2^m.rows.length)).any (z5f m k)=true):zs2 m (k+1)<zs2 m k:=by
 obtain⟨y,c,a⟩:=List.any_eq_true.1 h
 refine(zkd hm fun z _ b=>?_).2 ⟨y,c,?_,?_⟩
 ·rw [decide_eq_true_iff] at b⊢
  by_cases h0:0≤LV m k z
  ·rw [zl1 h0] at b;exact b
  ·omega
 ·unfold z5f at a
  exact(Bool.and_eq_true _ _▸a).1
 ·unfold z5f at a
  rw [Bool.and_eq_true,decide_eq_true_iff] at a
  rw [decide_eq_false_iff_not,show LV m (k+1) y=(k:Int)+1 from if_pos a]
  omega
theorem q48:zs2 m 0+1≤2^m.rows.length:=by
 have a:=List.length_eq_countP_add_countP (fun y=>decide (LV m 0 y<0)) (l:=List.range (2^m.rows.length))
 rw [List.length_range] at a
 have b:0<(List.range (2^m.rows.length)).countP fun y=> ¬(decide (LV m 0 y<0))=true:=by
  rw [List.countP_pos_iff]
  refine⟨0,List.mem_range.2 (Nat.two_pow_pos _),?_⟩
  have:LV m 0 0=0:=if_pos (by decide)
  rw [this];decide
 unfold zs2
 omega
theorem zvq{k:Nat}(h:Stb m k): ∀ j,Stb m (k+j)∧ ∀ y,y<2^m.rows.length→LV m (k+j) y=LV m k y
 |0=>⟨h,fun _ _=>rfl⟩
 |j+1=>by
  obtain⟨d,e⟩:=zvq h j
  have f: ∀ y,y<2^m.rows.length→LV m (k+j+1) y=LV m (k+j) y:=fun y a=>by
   have:=d y a
   unfold z5f at this
   exact if_neg fun c=>by rw [decide_eq_true c.1,c.2] at this;cases this
  have b: ∀ y,y<2^m.rows.length→LV m (k+(j+1)) y=LV m k y:=fun y a=>(f y a).trans (e y a)
  refine⟨fun y a=>?_,b⟩
  rw [←h y a]
  unfold z5f zfz
  rw [b y a]
  congr 2
  funext i
  congr 1
  congr 1
  funext o
  show decide (0≤LV m (k+(j+1)) (prN m y i o))=decide (0≤LV m k (prN m y i o))
  rw [b _ zgc.1]
theorem zum{k:Nat}(h:Stb m k)(b:k≤64){y:Nat}(a:y<2^m.rows.length):LV m 64 y=LV m k y:=by
 have:=(zvq hm h (64-k)).2 y a
 rw [←this]
 congr 1;omega
theorem zyk{k:Nat}:(mkA 64 fun y=>if y<2^m.rows.length then TV m (k+1) y else TW m k y)=mkA 64 (TW m (k+1)):=iq fun y a=>by
 unfold TW
 by_cases h:y<2^m.rows.length
 ·rw [if_pos h,if_pos h]
 ·rw [if_neg h,if_neg h,if_neg h]
theorem zh1: ∀ F k,zs2 m k+2<F→k+zs2 m k≤63→ ∃ K,K≤63∧Stb m K∧fe 5000 m F ((k:Int)+1) true (mkA 64 (TW m k))=some (mkA 64 (TW m K))
 |0,k,h,_=>by omega
 |F+1,k,hF,g=>by
  have i:=hm.r6
  unfold fe
  cases hany:(List.range (2^m.rows.length)).any (z5f m k) with
  |true=>
   have j:=zsr hm hany
   obtain⟨K,c,d,e⟩:=zh1 F (k+1) (by omega) (by omega)
   refine⟨K,c,d,?_⟩
   refine(ct rfl).trans ?_
   rw [qc (show gd (okSh .u16 (m.rows.length:Int)) (gp 5000 m ((k:Int)+1) (mkA 64 (TW m k)) 5000 false 0 (mkA 64 (TW m k)))=some (true,mkA 64 (TW m (k+1))) from by
    rw [ze ⟨by omega,by show (m.rows.length:Int)≤16;omega⟩,znd hm,hany,zyk hm]),ze (qm (by omega))]
   exact e
  |false=>
   have a:Stb m k:=fun y b=>by
    cases h:z5f m k y with
    |false=>rfl
    |true=>rw [List.any_eq_true.2 ⟨y,List.mem_range.2 b,h⟩] at hany;cases hany
   refine⟨k,by omega,a,?_⟩
   refine(ct rfl).trans ?_
   rw [qc (show gd (okSh .u16 (m.rows.length:Int)) (gp 5000 m ((k:Int)+1) (mkA 64 (TW m k)) 5000 false 0 (mkA 64 (TW m k)))=some (false,mkA 64 (TW m (k+1))) from by
    rw [ze ⟨by omega,by show (m.rows.length:Int)≤16;omega⟩,znd hm,hany,zyk hm]),ze (qm (by omega))]
   have f:mkA 64 (TW m (k+1))=mkA 64 (TW m k):=iq fun y b=>by
    unfold TW
    by_cases h:y<2^m.rows.length
    ·rw [if_pos h,if_pos h,zpr hm,a y h];rfl
    ·rw [if_neg h,if_neg h]
   rw [f]
   cases F with
   |zero=>omega
   |succ F=>
    unfold fe
    exact cf rfl
def FT(m:Mach)(x:Nat):Int:=LV m 64 x
theorem zej{x:Nat}(a:x<2^m.rows.length): -1≤FT m x∧FT m x≤63:=by
 have b:=z4z hm
 have d:=q48 hm
 obtain⟨K,e,c,_⟩:=zh1 hm 5000 0 (by omega) (by omega)
 have:=zum hm c (by omega) a
 have:=zk7 (m:=m) (k:=K) (x:=x)
 unfold FT
 omega
def FW(m:Mach)(x:Nat):Int:=if x<2^m.rows.length then(if FT m x<0 then 0 else FT m x) else 0
theorem zvb:z5z 5000 m=some (mkA 64 (FW m)):=by
 have a:=z4z hm
 have g:=q48 hm
 obtain⟨K,i,b,c⟩:=zh1 hm 5000 0 (by omega) (by omega)
 have d:lq 64 (List.replicate 64 (0:Int))=mkA 64 (TW m 0):=by
  rw [zmr]
  refine iq fun y e=>?_
  unfold TW TV LV
  repeat' split
  all_goals first|rfl|omega
 have f:mkA 64 (TW m K)=mkA 64 (FW m):=iq fun y e=>by
  unfold TW FW TV FT
  by_cases h:y<2^m.rows.length
  ·rw [if_pos h,if_pos h,zum hm b (by omega) h]
  ·rw [if_neg h,if_neg h]
 unfold z5z
 rw [d,qc (show fe 5000 m 5000 1 true (mkA 64 (TW m 0))=some (mkA 64 (TW m K)) from c),f]
theorem q2s{x:Nat}(a:x<2^m.rows.length){h:Int}(b:0<h):hasB (FW m) h x=(decide (0≤FT m x)&&decide (FT m x<h)):=by
 unfold hasB FW
 rw [if_pos a]
 by_cases h2:pcB (x:Int)<2
 ·have:FT m x=0:=zc5 h2 64
  rw [decide_eq_true (show (pcB (x:Int):Int)<2 by omega),Bool.true_or,this,decide_eq_true (Int.le_refl 0),decide_eq_true b];rfl
 ·have c:FT m x≠0:=zqv (m:=m) h2 64
  have d:=(zej hm a).1
  rw [decide_eq_false (show¬(pcB (x:Int):Int)<2 by omega),Bool.false_or]
  by_cases hlt:FT m x<0
  ·rw [if_pos hlt,decide_eq_false (show¬(0:Int)<0 by omega),decide_eq_false (show¬0≤FT m x by omega),Bool.false_and,Bool.false_and]
  ·rw [if_neg hlt,decide_eq_true (show 0<FT m x by omega),decide_eq_true (show 0≤FT m x by omega)]
end
end GV
end Go.Proofs.Ytnnobdkjgafdmaa
