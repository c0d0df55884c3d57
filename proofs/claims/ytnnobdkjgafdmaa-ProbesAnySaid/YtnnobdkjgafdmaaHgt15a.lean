import Derived.Test.YtnnobdkjgafdmaaVw15a
set_option linter.unusedVariables false
set_option linter.unusedSimpArgs false
set_option linter.unusedSectionVars false
namespace Go.Proofs.Ytnnobdkjgafdmaa
namespace GV
set_option maxRecDepth 100000
def z1t(m:Mach)(s i:Nat):Nat:=(edI m (s:Int) (i:Int)).out.toNat
def qO(m:Mach)(i o:Nat)(s:Nat):Bool:=decide (z1t m s i=o)
def zkw(m:Mach)(x i s:Nat):Bool:=tb (x:Int) s&&z9d m (x:Int) i (qO m i (z1t m s i)) s (tgt m s i)
def z1n(m:Mach)(x i:Nat):Bool:=(List.range m.rows.length).all fun s=> !zkw m x i s
def prI(m:Mach)(x i o:Nat):Int:=zbk m (x:Int) i (qO m i o)
def prN(m:Mach)(x i o:Nat):Nat:=(prI m x i o).toNat
def zio(m:Mach)(P:Nat→Bool)(x:Nat):Bool:=(List.range (nIn m)).any fun i=>z1n m x i&&(List.range 16).all fun o=>P (prN m x i o)
def LV(m:Mach):Nat→Nat→Int
 |0,x=>if pcB (x:Int)<2 then 0 else-1
 |k+1,x=>if LV m k x<0∧zio m (fun z=>decide (0≤LV m k z)) x=true then(k:Int)+1 else LV m k x
theorem zml{m:Mach}: ∀ {k x:Nat},-1≤LV m k x∧LV m k x≤k
 |0,x=>by unfold LV;split<;>omega
 |k+1,x=>by
  have:=zml (m:=m) (k:=k) (x:=x)
  unfold LV;split<;>omega
theorem zqb{m:Mach}{k x:Nat}(h:0≤LV m k x):LV m (k+1) x=LV m k x:=by
 show (if _ then _ else _)=_
 rw [if_neg (fun a=>by omega)]
theorem ztp{m:Mach}{k x:Nat}(h:0≤LV m k x): ∀ j,LV m (k+j) x=LV m k x
 |0=>rfl
 |j+1=>by
  have:=ztp h j
  rw [←this]
  exact zqb (k:=k+j) (by rw [this];exact h)
theorem zi7{m:Mach}{x:Nat}(h:pcB (x:Int)<2)(k:Nat):LV m k x=0:=by
 have a:LV m 0 x=0:=if_pos h
 have:=ztp (m:=m) (k:=0) (x:=x) (by omega) k
 rw [Nat.zero_add] at this;omega
theorem zlf{m:Mach}{x:Nat}(h: ¬pcB (x:Int)<2): ∀ k:Nat,LV m k x≠0
 |0=>by unfold LV;rw [if_neg h];omega
 |k+1=>by
  have:=zlf (m:=m) h k
  unfold LV;split<;>omega
theorem zez{m:Mach}{x i o:Nat}:prN m x i o<2^m.rows.length∧prI m x i o=(prN m x i o:Int):=by
 obtain⟨a,b⟩:=zqf m (x:Int) i (qO m i o)
 unfold prN
 have e:prI m x i o=zbk m (x:Int) i (qO m i o):=rfl
 rw [e]
 omega
theorem zol(p:Nat→Bool)(k:Nat):(List.range (k+1)).any p=((List.range k).any p||p k):=by rw [List.range_succ,List.any_append];simp
section
variable {m : Mach} (hm : PM m) {i : Nat} (hi : i < nIn m)
include hm
theorem z8j:2^m.rows.length≤64:=Nat.le_trans (Nat.pow_le_pow_right (by decide) hm.r6) (by decide)
include hi
theorem zw5{s:Nat}(c:s<m.rows.length):(edI m (s:Int) (i:Int)).out=(z1t m s i:Int)∧z1t m s i<16∧(z1t m s i:Int)<m.outputs:=by
 have d:=hm.toCM.nin
 have e:=hm.ok.o2
 obtain⟨_,a,b⟩:=hm.toCM.edge (s:=(s:Int)) (i:=(i:Int)) ⟨by omega,by omega⟩ (by omega) (by omega)
 unfold z1t
 omega
def zf7(m:Mach)(x i k o:Nat):Int:=bmk (z9d m (x:Int) i (qO m i o) k) m.rows.length
theorem zx3{x:Nat}(K:x<2^m.rows.length): ∃ Y b,z4i 5000 m (x:Int) (i:Int)=some (Y,b)∧b=z1n m x i∧(b=true→Y=mkA 16 fun o=>prI m x i o):=by
 have C:=hm.r6
 have L:=hm.toCM.nin
 have D:=z8j hm
 have key: ∀ F k,k≤m.rows.length→m.rows.length-k<F→(∀ s,s<k→zkw m x i s=false)→ ∃ r,sw 5000 m (x:Int) (i:Int) F (k:Int) (mkA 16 (zf7 m x i k))=some r∧((r=Ex.go (mkA 16 fun o=>prI m x i o)∧z1n m x i=true)∨((∃ Y,r=Ex.rt (Y,false))∧z1n m x i=false)):=by
  intro F
  induction F with
  |zero=>intro k _ h;omega
  |succ F ih=>
   intro k M N u
   unfold sw
   by_cases e:k=m.rows.length
   ·subst e
    rw [yo (by omega)]
    refine⟨_,rfl,.inl ⟨rfl,?_⟩⟩
    unfold z1n
    rw [List.all_eq_true]
    intro s l
    rw [u s (List.mem_range.1 l)];rfl
   ·have hk':k<m.rows.length:=by omega
    have f:InS m (k:Int):=⟨by omega,by omega⟩
    obtain⟨E,O,P⟩:=zw5 hm hi hk'
    obtain⟨y,G⟩:=hm.toCM.tgt hk' hi
    have z:(ix (ix m.rows (k:Int)) (i:Int)).out=(z1t m k i:Int):=E
    have A:(ix (ix m.rows (k:Int)) (i:Int)).to=(tgt m k i:Int):=G
    have g:=zbi (x:=(x:Int)) ⟨by omega,by omega⟩ k
    rw [xu (by omega),zl ⟨by omega,by show (k:Int)≤16;omega⟩,zl ⟨⟨g.1,g.2⟩,by decide,by decide⟩,zl9 (by omega)]
    cases hb:tb (x:Int) k with
    |false=>
     obtain⟨r,d,j⟩:=ih (k+1) (by omega) (by omega) fun s l=>by
      by_cases es:s=k
      ·subst es;unfold zkw;rw [hb];rfl
      ·exact u s (by omega)
     refine⟨r,?_,j⟩
     have:mkA 16 (zf7 m x i (k+1))=mkA 16 (zf7 m x i k):=dn fun o B=>z94 fun t H=>by
      rw [zem,hb,Bool.false_and,Bool.false_and,Bool.or_false]
     rw [this] at d
     refine(qc (ct rfl)).trans ?_
     rw [zgk,zl (jb (by omega)),yt];exact d
    |true=>
     have v:=zcw (p:=z9d m (x:Int) i (qO m i (z1t m k i)) k) C
     have a:=zbi (x:=zf7 m x i k (z1t m k i)) ⟨v.1,by show bmk _ _≤_;omega⟩ (tgt m k i)
     have I:=zd7 (t:=tgt m k i) (by omega)
     have hdup:zkw m x i k=decide (z0j (p9 (zf7 m x i k (z1t m k i)) (tgt m k i:Int)) 1=1):=by
      rw [zl7 (x:=zf7 m x i k (z1t m k i)) v.1 (tgt m k i)]
      unfold zkw zf7
      rw [hb,Bool.true_and,z4s,decide_eq_true y,Bool.true_and]
     cases hdd:zkw m x i k with
     |true=>
      refine⟨Ex.rt (mkA 16 (zf7 m x i k),false),?_,.inr ⟨⟨mkA 16 (zf7 m x i k),rfl⟩,?_⟩⟩
      ·refine(qc (x:=Ex.rt (Ex.rt (mkA 16 (zf7 m x i k),false))) ((cf rfl).trans ?_)).trans zzl
       rw [zl (jk hk'),zl (hm.toCM.okr f (by omega) (by omega)),z,A,zl (z1v (by omega)),zl ⟨by omega,by show (tgt m k i:Int)≤16;omega⟩,zam (by omega),zl ⟨⟨a.1,a.2⟩,by decide,by decide⟩,←hdup,hdd];rfl
      ·cases hok:z1n m x i with
       |false=>rfl
       |true=>
        unfold z1n at hok
        have:=List.all_eq_true.1 hok k (List.mem_range.2 hk')
        rw [hdd] at this;cases this
     |false=>
      obtain⟨r,d,j⟩:=ih (k+1) (by omega) (by omega) fun s l=>by
       by_cases es:s=k
       ·subst es;exact hdd
       ·exact u s (by omega)
      refine⟨r,?_,j⟩
      refine(qc (x:=Ex.go (mkA 16 (zf7 m x i (k+1)))) ((cf rfl).trans ?_)).trans ?_
      ·rw [zl (jk hk'),zl (hm.toCM.okr f (by omega) (by omega)),z,A,zl (z1v (by omega)),zl ⟨by omega,by show (tgt m k i:Int)≤16;omega⟩,zam (by omega),zl ⟨⟨a.1,a.2⟩,by decide,by decide⟩,←hdup,hdd]
       refine(cf rfl).trans ?_
       rw [zl (z1v (by omega)),zl ⟨by omega,by show (tgt m k i:Int)≤16;omega⟩,z6y (by omega),zl ⟨⟨v.1,by show bmk _ _≤(65535:Int);omega⟩,by omega,by show _≤(65535:Int);omega⟩,zl (z1v (by omega)),zcp]
       congr 2
       refine dn fun o B=>?_
       have c:=zlu (x:=(x:Int)) (i:=i) (k:=k) (q:=qO m i o) (n:=m.rows.length) y (by omega)
       by_cases eo:o=z1t m k i
       ·subst eo
        rw [if_pos rfl]
        rw [if_pos (by rw [hb];exact decide_eq_true rfl),z6y (by omega)] at c
        exact c
       ·rw [if_neg eo]
        rw [if_neg (by rw [hb];unfold qO;rw [decide_eq_false (fun h=>eo h.symm)];decide)] at c
        exact c
      ·rw [zgk,zl (jb (by omega)),yt];exact d
 have J:mr 16 (List.replicate 16 (0:Int))=mkA 16 (zf7 m x i 0):=by
  rw [zh8]
  refine dn fun o B=>zet (Int.le_refl 0) (by have:(0:Nat)<2^m.rows.length:=Nat.two_pow_pos _;omega) fun t H=>?_
  rw [zg9];rfl
 obtain⟨r,d,j⟩:=key 5000 0 (Nat.zero_le _) (by omega) fun s l=>by omega
 unfold z4i
 rw [J,qc (show sw 5000 m (x:Int) (i:Int) 5000 0 (mkA 16 (zf7 m x i 0))=some r from d)]
 rcases j with⟨rfl,w⟩|⟨⟨Y,rfl⟩,w⟩
 ·exact⟨_,_,rfl,w.symm,fun _=>rfl⟩
 ·exact⟨_,_,rfl,w.symm,fun h=>(nomatch h)⟩
end
def hasB(T:Nat→Int)(h:Int)(x:Nat):Bool:=decide ((pcB (x:Int):Int)<2)||(decide (0<T x)&&decide (T x<h))
theorem has_eq{T:Nat→Int}{h:Int}{x:Nat}(a:x<64):mh 5000 (mkA 64 T) (x:Int) h=some (hasB T h x):=by
 unfold mh hasB
 rw [qc (zk8 (x:=(x:Int)) ⟨by omega,by omega⟩),zl (fun _=>z1v a),zl (fun _=>z1v a),zam a]
section
variable {m : Mach} (hm : PM m)
include hm
def zu4(m:Mach)(T:Nat→Int)(h:Int)(x i:Nat):Bool:=z1n m x i&&(List.range 16).all fun o=>hasB T h (prN m x i o)
theorem lower_eq{T:Nat→Int}{h:Int}{x i:Nat}(hi:i<nIn m)(d:x<2^m.rows.length):mg 5000 (mkA 64 T) m (x:Int) (i:Int) h=some (zu4 m T h x i):=by
 have e:=z8j hm
 obtain⟨Y,b,f,rfl,g⟩:=zx3 hm hi d
 unfold mg
 rw [qc f]
 have:u6 5000 (mkA 64 T) h (Y,z1n m x i) 5000 (z1n m x i&&(List.range 0).all fun o=>hasB T h (prN m x i o)) ((0:Nat):Int)=some (zu4 m T h x i):=by
  refine z6s (fun F k z=>u6 5000 (mkA 64 T) h (Y,z1n m x i) F z (k:Int)) 16 (fun k=>z1n m x i&&(List.range k).all fun o=>hasB T h (prN m x i o)) _ (fun F k j=>?_) (fun F=>?_) (by omega)
  ·show u6 5000 (mkA 64 T) h (Y,z1n m x i) (F+1) _ (k:Int)=u6 5000 (mkA 64 T) h (Y,z1n m x i) F _ ((k+1:Nat):Int)
   rw [u6,xu (by omega),zl (jk (by rw [Y.2];exact j))]
   have c:(List.range (k+1)).all (fun o=>hasB T h (prN m x i o))=((List.range k).all (fun o=>hasB T h (prN m x i o))&&hasB T h (prN m x i k)):=by rw [List.range_succ,List.all_append];simp
   cases hb:(z1n m x i&&(List.range k).all fun o=>hasB T h (prN m x i o)) with
   |false=>
    refine(qc (zjs rfl)).trans ?_
    rw [zl (jb (by omega)),yt,Bool.false_and,c,←Bool.and_assoc,hb,Bool.false_and]
   |true=>
    have a:z1n m x i=true:=(Bool.and_eq_true _ _▸hb).1
    have l:=g a
    refine(qc (zd9 rfl (show mh 5000 (mkA 64 T) (ix Y.1 (k:Int)) h=some (hasB T h (prN m x i k)) from ?_))).trans ?_
    ·rw [l,zam (by omega),zez.2]
     exact has_eq (by have:=zez (m:=m) (x:=x) (i:=i) (o:=k);omega)
    ·rw [zl (jb (by omega)),yt,Bool.true_and,c,←Bool.and_assoc,hb,Bool.true_and];rfl
  ·show u6 5000 (mkA 64 T) h (Y,z1n m x i) (F+1) _ ((16:Nat):Int)=_
   rw [u6,yo (by omega)];rfl
 rw [show (z1n m x i&&(List.range 0).all fun o=>hasB T h (prN m x i o))=z1n m x i from Bool.and_true _] at this
 exact qc this
/-! ### the table-/
def TV(m:Mach)(k x:Nat):Int:=if LV m k x<0 then 0 else LV m k x
theorem q0e{k x:Nat}:hasB (TV m k) ((k:Int)+1) x=decide (0≤LV m k x):=by
 unfold hasB TV
 have a:=zml (m:=m) (k:=k) (x:=x)
 by_cases h2:pcB (x:Int)<2
 ·rw [decide_eq_true (show (pcB (x:Int):Int)<2 by omega),Bool.true_or,zi7 h2];rfl
 ·have b:=zlf (m:=m) h2 k
  rw [decide_eq_false (show¬(pcB (x:Int):Int)<2 by omega),Bool.false_or]
  by_cases h:LV m k x<0
  ·rw [if_pos h,decide_eq_false (show¬(0:Int)<0 by omega),Bool.false_and,decide_eq_false (by omega)]
  ·rw [if_neg h,decide_eq_true (show 0<LV m k x by omega),decide_eq_true (show LV m k x<(k:Int)+1 by omega),decide_eq_true (by omega)];rfl
def z7r(m:Mach)(k x:Nat):Bool:=decide (LV m k x<0)&&zio m (fun z=>decide (0≤LV m k z)) x
theorem zl6{k x:Nat}:TV m (k+1) x=if z7r m k x=true then(k:Int)+1 else TV m k x:=by
 unfold TV z7r
 have b:=zml (m:=m) (k:=k) (x:=x)
 by_cases h:LV m k x<0∧zio m (fun z=>decide (0≤LV m k z)) x=true
 ·have a:(decide (LV m k x<0)&&zio m (fun z=>decide (0≤LV m k z)) x)=true:=by rw [Bool.and_eq_true,decide_eq_true_iff];exact h
  rw [if_pos a,show LV m (k+1) x=(k:Int)+1 from if_pos h,if_neg (by omega)]
 ·have a: ¬(decide (LV m k x<0)&&zio m (fun z=>decide (0≤LV m k z)) x)=true:=by rw [Bool.and_eq_true,decide_eq_true_iff];exact h
  rw [if_neg a,show LV m (k+1) x=LV m k x from if_neg h]
def TW(m:Mach)(k x:Nat):Int:=if x<2^m.rows.length then TV m k x else 0
theorem zwr{k x:Nat}(a:x<2^m.rows.length):hasB (TW m k) ((k:Int)+1) x=decide (0≤LV m k x):=by
 rw [←q0e hm]
 unfold hasB TW
 rw [if_pos a]
theorem zo8{k x:Nat}{b:Bool}{Z:Arr 64 Int}(d:x<2^m.rows.length):o9 5000 m ((k:Int)+1) (mkA 64 (TW m k)) b (x:Int) Z 5000 0=some (if zio m (fun z=>decide (0≤LV m k z)) x=true then(true,ah Z (x:Int) ((k:Int)+1)) else(b,Z)):=by
 have l:=hm.toCM.nin
 have f:=hm.ok.i2
 have g:=z8j hm
 have hlow: ∀ i,i<nIn m→mg 5000 (mkA 64 (TW m k)) m (x:Int) (i:Int) ((k:Int)+1)=some (z1n m x i&&(List.range 16).all fun o=>decide (0≤LV m k (prN m x i o))):=fun i hi=>by
  rw [lower_eq hm hi d]
  unfold zu4
  congr 2
  exact congrArg _ (funext fun o=>zwr hm zez.1)
 have key: ∀ F i,i≤nIn m→nIn m-i<F→(∀ j,j<i→(z1n m x j&&(List.range 16).all fun o=>decide (0≤LV m k (prN m x j o)))=false)→o9 5000 m ((k:Int)+1) (mkA 64 (TW m k)) b (x:Int) Z F (i:Int)=some (if zio m (fun z=>decide (0≤LV m k z)) x=true then(true,ah Z (x:Int) ((k:Int)+1)) else(b,Z)):=by
  intro F
  induction F with
  |zero=>intro i _ h;omega
  |succ F ih=>
   intro i hi n a
   unfold o9
   by_cases e:i=nIn m
   ·subst e
    rw [yo (by omega),if_neg]
    intro h
    obtain⟨j,c,h⟩:=List.any_eq_true.1 h
    rw [a j (List.mem_range.1 c)] at h;cases h
   ·rw [xu (by omega),qc (hlow i (by omega))]
    cases hb:(z1n m x i&&(List.range 16).all fun o=>decide (0≤LV m k (prN m x i o))) with
    |true=>
     rw [if_pos (show zio m (fun z=>decide (0≤LV m k z)) x=true from List.any_eq_true.2 ⟨i,List.mem_range.2 (by omega),hb⟩)]
     refine(ct rfl).trans ?_
     rw [zl (jk (by rw [Z.2];omega))]
    |false=>
     refine(cf rfl).trans ?_
     rw [zl (jb (by omega)),yt]
     exact ih (i+1) (by omega) (by omega) fun j c=>by
      by_cases ej:j=i
      ·subst ej;exact hb
      ·exact a j (by omega)
 exact key 5000 0 (Nat.zero_le _) (by omega) fun j c=>by omega
theorem zh3{k:Nat}:yc 5000 m ((k:Int)+1) (mkA 64 (TW m k)) 5000 false 0 (mkA 64 (TW m k))=some ((List.range (2^m.rows.length)).any (z7r m k),mkA 64 fun y=>if y<2^m.rows.length then TV m (k+1) y else TW m k y):=by
 have f:=hm.r6
 have d:=z8j hm
 have b:su .u16 (1:Int) (m.rows.length:Int)=((2^m.rows.length:Nat):Int):=z6y (by omega)
 have:=z6s (fun F y (z:Bool×Arr 64 Int)=>yc 5000 m ((k:Int)+1) (mkA 64 (TW m k)) F z.1 (y:Int) z.2) (2^m.rows.length) (fun y=>((List.range y).any (z7r m k),mkA 64 fun z=>if z<y then TV m (k+1) z else TW m k z)) ((List.range (2^m.rows.length)).any (z7r m k),mkA 64 fun y=>if y<2^m.rows.length then TV m (k+1) y else TW m k y) (fun F y a=>?_) (fun F=>?_) (F:=5000) (by omega)
 ·rw [show (mkA 64 (TW m k))=mkA 64 (fun z=>if z<0 then TV m (k+1) z else TW m k z) from dn fun z _=>(if_neg (by omega)).symm] at this⊢
  exact this
 ·show yc 5000 m ((k:Int)+1) (mkA 64 (TW m k)) (F+1) _ (y:Int) _=_
  have e:IntKind.u16.wrap ((y:Int)+1)=((y+1:Nat):Int):=by
   rw [z4h _ (by omega) (by show (y:Int)+1≤65535;omega)];rfl
  rw [yc,b,xu (by omega),qc (has_eq (by omega)),zwr hm a,e]
  have TWy:TW m k y=TV m k y:=if_pos a
  have hany:(List.range (y+1)).any (z7r m k)=((List.range y).any (z7r m k)||z7r m k y):=zol ..
  by_cases h0:0≤LV m k y
  ·have hnew:z7r m k y=false:=by unfold z7r;rw [decide_eq_false (by omega)];rfl
   rw [decide_eq_true h0]
   refine(qc (ct rfl)).trans ?_
   dsimp only
   rw [hany,hnew,Bool.or_false]
   congr 1
   refine dn fun z c=>?_
   by_cases ez:z=y
   ·subst ez;rw [if_neg (by omega),if_pos (by omega),zl6 hm,hnew,TWy];rfl
   ·by_cases h2:z<y
    ·rw [if_pos h2,if_pos (by omega)]
    ·rw [if_neg h2,if_neg (by omega)]
  ·rw [decide_eq_false h0]
   refine(qc ((cf rfl).trans (zo8 hm a))).trans ?_
   cases hcan:zio m (fun z=>decide (0≤LV m k z)) y with
   |true=>
    have hnew:z7r m k y=true:=by unfold z7r;rw [hcan,decide_eq_true (by omega)];rfl
    rw [if_pos rfl]
    dsimp only
    rw [hany,hnew,Bool.or_true,zcp]
    congr 1
    refine dn fun z c=>?_
    by_cases ez:z=y
    ·subst ez;rw [if_pos rfl,if_pos (by omega),zl6 hm,hnew];rfl
    ·rw [if_neg ez]
     by_cases h2:z<y
     ·rw [if_pos h2,if_pos (by omega)]
     ·rw [if_neg h2,if_neg (by omega)]
   |false=>
    have hnew:z7r m k y=false:=by unfold z7r;rw [hcan,Bool.and_false]
    rw [if_neg (by decide)]
    dsimp only
    rw [hany,hnew,Bool.or_false]
    congr 1
    refine dn fun z c=>?_
    by_cases ez:z=y
    ·subst ez;rw [if_neg (by omega),if_pos (by omega),zl6 hm,hnew,TWy];rfl
    ·by_cases h2:z<y
     ·rw [if_pos h2,if_pos (by omega)]
     ·rw [if_neg h2,if_neg (by omega)]
 ·show yc 5000 m ((k:Int)+1) (mkA 64 (TW m k)) (F+1) _ ((2^m.rows.length:Nat):Int) _=_
  rw [yc,b,yo (by omega)]
/-! ### the rounds-/
theorem zfs{p q:Nat→Bool}: ∀ {l:List Nat},(∀ y∈l,q y=true→p y=true)→l.countP q≤l.countP p∧((∃ y∈l,p y=true∧q y=false)→l.countP q<l.countP p)
 | [],_=>⟨Nat.le_refl _,fun⟨y,b,_⟩=>absurd b List.not_mem_nil⟩
 |a::l,h=>by
  obtain⟨g,e⟩:=zfs (l:=l) fun y b=>h y (List.mem_cons_of_mem _ b)
  have f:=h a (List.mem_cons_self ..)
  rw [List.countP_cons,List.countP_cons]
  cases hq:q a with
  |true=>
   rw [f hq,if_pos rfl]
   refine⟨by omega,fun⟨y,b,d,c⟩=>?_⟩
   rcases List.mem_cons.1 b with rfl|b
   ·rw [hq] at c;cases c
   ·have:=e ⟨y,b,d,c⟩;omega
  |false=>
   rw [if_neg (show¬false=true by decide)]
   refine⟨by split<;>omega,fun⟨y,b,d,c⟩=>?_⟩
   rcases List.mem_cons.1 b with rfl|b
   ·rw [if_pos d];omega
   ·have:=e ⟨y,b,d,c⟩
    split<;>omega
def ztl(m:Mach)(k:Nat):Nat:=(List.range (2^m.rows.length)).countP fun y=>decide (LV m k y<0)
def Stb(m:Mach)(k:Nat):Prop:= ∀ y,y<2^m.rows.length→z7r m k y=false
theorem zwx{k:Nat}(h:(List.range (2^m.rows.length)).any (z7r m k)=true):ztl m (k+1)<ztl m k:=by
 obtain⟨y,c,a⟩:=List.any_eq_true.1 h
 refine(zfs hm fun z _ b=>?_).2 ⟨y,c,?_,?_⟩
 ·rw [decide_eq_true_iff] at b⊢
  by_cases h0:0≤LV m k z
  ·rw [zqb h0] at b;exact b
  ·omega
 ·unfold z7r at a
  exact(Bool.and_eq_true _ _▸a).1
 ·unfold z7r at a
  rw [Bool.and_eq_true,decide_eq_true_iff] at a
  rw [decide_eq_false_iff_not,show LV m (k+1) y=(k:Int)+1 from if_pos a]
  omega
theorem zzb:ztl m 0+1≤2^m.rows.length:=by
 have a:=List.length_eq_countP_add_countP (fun y=>decide (LV m 0 y<0)) (l:=List.range (2^m.rows.length))
 rw [List.length_range] at a
 have b:0<(List.range (2^m.rows.length)).countP fun y=> ¬(decide (LV m 0 y<0))=true:=by
  rw [List.countP_pos_iff]
  refine⟨0,List.mem_range.2 (Nat.two_pow_pos _),?_⟩
  have:LV m 0 0=0:=if_pos (by decide)
  rw [this];decide
 unfold ztl
 omega
theorem zvx{k:Nat}(h:Stb m k): ∀ j,Stb m (k+j)∧ ∀ y,y<2^m.rows.length→LV m (k+j) y=LV m k y
 |0=>⟨h,fun _ _=>rfl⟩
 |j+1=>by
  obtain⟨d,e⟩:=zvx h j
  have f: ∀ y,y<2^m.rows.length→LV m (k+j+1) y=LV m (k+j) y:=fun y a=>by
   have:=d y a
   unfold z7r at this
   exact if_neg fun c=>by rw [decide_eq_true c.1,c.2] at this;cases this
  have b: ∀ y,y<2^m.rows.length→LV m (k+(j+1)) y=LV m k y:=fun y a=>(f y a).trans (e y a)
  refine⟨fun y a=>?_,b⟩
  rw [←h y a]
  unfold z7r zio
  rw [b y a]
  congr 2
  funext i
  congr 1
  congr 1
  funext o
  show decide (0≤LV m (k+(j+1)) (prN m y i o))=decide (0≤LV m k (prN m y i o))
  rw [b _ zez.1]
theorem zvl{k:Nat}(h:Stb m k)(b:k≤64){y:Nat}(a:y<2^m.rows.length):LV m 64 y=LV m k y:=by
 have:=(zvx hm h (64-k)).2 y a
 rw [←this]
 congr 1;omega
theorem zqc{k:Nat}:(mkA 64 fun y=>if y<2^m.rows.length then TV m (k+1) y else TW m k y)=mkA 64 (TW m (k+1)):=dn fun y a=>by
 unfold TW
 by_cases h:y<2^m.rows.length
 ·rw [if_pos h,if_pos h]
 ·rw [if_neg h,if_neg h,if_neg h]
theorem zcm: ∀ F k,ztl m k+2<F→k+ztl m k≤63→ ∃ K,K≤63∧Stb m K∧nu 5000 m F ((k:Int)+1) true (mkA 64 (TW m k))=some (mkA 64 (TW m K))
 |0,k,h,_=>by omega
 |F+1,k,g,i=>by
  have j:=hm.r6
  unfold nu
  cases hany:(List.range (2^m.rows.length)).any (z7r m k) with
  |true=>
   have l:=zwx hm hany
   obtain⟨K,c,d,e⟩:=zcm F (k+1) (by omega) (by omega)
   refine⟨K,c,d,?_⟩
   refine(ct rfl).trans ?_
   rw [qc (show gd (okSh .u16 (m.rows.length:Int)) (yc 5000 m ((k:Int)+1) (mkA 64 (TW m k)) 5000 false 0 (mkA 64 (TW m k)))=some (true,mkA 64 (TW m (k+1))) from by
    rw [zl ⟨by omega,by show (m.rows.length:Int)≤16;omega⟩,zh3 hm,hany,zqc hm]),zl (jb (by omega))]
   exact e
  |false=>
   have a:Stb m k:=fun y b=>by
    cases h:z7r m k y with
    |false=>rfl
    |true=>rw [List.any_eq_true.2 ⟨y,List.mem_range.2 b,h⟩] at hany;cases hany
   refine⟨k,by omega,a,?_⟩
   refine(ct rfl).trans ?_
   rw [qc (show gd (okSh .u16 (m.rows.length:Int)) (yc 5000 m ((k:Int)+1) (mkA 64 (TW m k)) 5000 false 0 (mkA 64 (TW m k)))=some (false,mkA 64 (TW m (k+1))) from by
    rw [zl ⟨by omega,by show (m.rows.length:Int)≤16;omega⟩,zh3 hm,hany,zqc hm]),zl (jb (by omega))]
   have f:mkA 64 (TW m (k+1))=mkA 64 (TW m k):=dn fun y b=>by
    unfold TW
    by_cases h:y<2^m.rows.length
    ·rw [if_pos h,if_pos h,zl6 hm,a y h];rfl
    ·rw [if_neg h,if_neg h]
   rw [f]
   cases F with
   |zero=>omega
   |succ F=>
    unfold nu
    exact cf rfl
def FT(m:Mach)(x:Nat):Int:=LV m 64 x
theorem zu7{x:Nat}(a:x<2^m.rows.length): -1≤FT m x∧FT m x≤63:=by
 have b:=z8j hm
 have d:=zzb hm
 obtain⟨K,e,c,_⟩:=zcm hm 5000 0 (by omega) (by omega)
 have:=zvl hm c (by omega) a
 have:=zml (m:=m) (k:=K) (x:=x)
 unfold FT
 omega
def FW(m:Mach)(x:Nat):Int:=if x<2^m.rows.length then(if FT m x<0 then 0 else FT m x) else 0
theorem zoo:z2s 5000 m=some (mkA 64 (FW m)):=by
 have a:=z8j hm
 have g:=zzb hm
 obtain⟨K,i,b,c⟩:=zcm hm 5000 0 (by omega) (by omega)
 have d:mr 64 (List.replicate 64 (0:Int))=mkA 64 (TW m 0):=by
  rw [zh8]
  refine dn fun y e=>?_
  unfold TW TV LV
  repeat' split
  all_goals first|rfl|omega
 have f:mkA 64 (TW m K)=mkA 64 (FW m):=dn fun y e=>by
  unfold TW FW TV FT
  by_cases h:y<2^m.rows.length
  ·rw [if_pos h,if_pos h,zvl hm b (by omega) h]
  ·rw [if_neg h,if_neg h]
 unfold z2s
 rw [d,qc (show nu 5000 m 5000 1 true (mkA 64 (TW m 0))=some (mkA 64 (TW m K)) from c),f]
theorem zup{x:Nat}(a:x<2^m.rows.length){h:Int}(b:0<h):hasB (FW m) h x=(decide (0≤FT m x)&&decide (FT m x<h)):=by
 unfold hasB FW
 rw [if_pos a]
 by_cases h2:pcB (x:Int)<2
 ·have:FT m x=0:=zi7 h2 64
  rw [decide_eq_true (show (pcB (x:Int):Int)<2 by omega),Bool.true_or,this,decide_eq_true (Int.le_refl 0),decide_eq_true b];rfl
 ·have c:FT m x≠0:=zlf (m:=m) h2 64
  have d:=(zu7 hm a).1
  rw [decide_eq_false (show¬(pcB (x:Int):Int)<2 by omega),Bool.false_or]
  by_cases hlt:FT m x<0
  ·rw [if_pos hlt,decide_eq_false (show¬(0:Int)<0 by omega),decide_eq_false (show¬0≤FT m x by omega),Bool.false_and,Bool.false_and]
  ·rw [if_neg hlt,decide_eq_true (show 0<FT m x by omega),decide_eq_true (show 0≤FT m x by omega)]
end
end GV
end Go.Proofs.Ytnnobdkjgafdmaa
