import Derived.Test.YtkkcidhcfkmbjaaGreatDoorDifp
import Derived.Test.YtkkcidhcfkmbjaaGreatDoorTab
import Derived.Test.YtkkcidhcfkmbjaaGreatDoorPktu
set_option linter.unusedVariables false
set_option linter.unusedSimpArgs false
set_option linter.unusedSectionVars false
namespace Go.Proofs.YtkkcidhcfkmbjaaGreatDoor
namespace GV
set_option maxRecDepth 100000
structure DOk (x:Sd):Prop where
 m:MDOk x.fE
 y:MDOk x.fH
 sw:(0≤x.fA.1∧x.fA.1≤255)∧0≤x.fA.2∧x.fA.2≤255
 pl:(0≤x.fD.1∧x.fD.1≤255)∧0≤x.fD.2∧x.fD.2≤255
structure RowsOk (n:Nat) (I O:Int) (X:List (List Edge)):Prop where
 len:X.length=n
 row: ∀ s,s<n→((X.getD s default).length:Int)=I
 edge: ∀ s i,s<n→i<(X.getD s default).length→((X.getD s default).getD i default).to= -1∧((X.getD s default).getD i default).out= -1∨
  (0≤((X.getD s default).getD i default).to∧((X.getD s default).getD i default).to<n∧0≤((X.getD s default).getD i default).out∧((X.getD s default).getD i default).out<O)
theorem zwg{m:Mach}(a:MOk m):RowsOk m.rows.length m.inputs m.outputs m.rows:=⟨rfl,a.row,a.edge⟩
theorem ztp{m:Mach}(a:MOk m){X:List (List Edge)}(h:RowsOk m.rows.length m.inputs m.outputs X):MOk ⟨m.inputs,m.outputs,X⟩:=
 ⟨a.i1,a.i2,a.o1,a.o2,by show 1≤X.length;rw [h.len];exact a.r1,by show X.length≤64;rw [h.len];exact a.r2,fun s b=>h.row s (by rw [←h.len];exact b),
  fun s i b hi=>by
   have:=h.edge s i (by rw [←h.len];exact b) hi
   unfold eOk
   rw [show ((⟨m.inputs,m.outputs,X⟩:Mach).rows.length:Int)=m.rows.length by show (X.length:Int)=_;rw [h.len]]
   exact this⟩
theorem zl8{n:Nat}{I O:Int}{X:List (List Edge)}(h:RowsOk n I O X){r i:Nat}{e:Edge}(d:r<n)(f:e.to= -1∧e.out= -1∨(0≤e.to∧e.to<n∧0≤e.out∧e.out<O)):RowsOk n I O (X.set r ((X.getD r default).set i e)):=by
 have c: ∀ s,s<n→(X.set r ((X.getD r default).set i e)).getD s default=if r=s then(X.getD r default).set i e else X.getD s default:=fun s a=>by
  rw [List.getD_eq_getElem?_getD,List.getElem?_set]
  by_cases e:r=s
  ·subst e;rw [if_pos rfl,if_pos (by rw [h.len];exact d),if_pos rfl];rfl
  ·rw [if_neg e,if_neg e,←List.getD_eq_getElem?_getD]
 refine⟨by rw [List.length_set];exact h.len,fun s a=>?_,fun s j a b=>?_⟩
 ·rw [c s a]
  by_cases e:r=s
  ·subst e;rw [if_pos rfl,List.length_set];exact h.row r a
  ·rw [if_neg e];exact h.row s a
 ·rw [c s a] at b⊢
  by_cases e:r=s
  ·subst e
   rw [if_pos rfl] at b⊢
   rw [List.length_set] at b
   rw [List.getD_eq_getElem?_getD,List.getElem?_set]
   by_cases e2:i=j
   ·subst e2
    rw [if_pos rfl,if_pos b];exact f
   ·rw [if_neg e2,←List.getD_eq_getElem?_getD];exact h.edge r j a b
  ·rw [if_neg e] at b⊢;exact h.edge s j a b
section
variable {N : Nat} {x : Sd}
theorem zpf{y:MDat}(h:MDOk y):1≤(mOf y).rows.length∧(mOf y).rows.length≤6:=by
 have a:=h.st
 have:(mOf y).rows.length=y.n.toNat:=by simp [mOf]
 unfold MDat.n at this
 omega
def zgz(n:Nat)(l:List Int):Prop:=l.length=n∧ ∀ k,k<n→0≤l.getD k default∧l.getD k default<n
theorem zt8{n:Nat}{l:List Int}(h:zgz n l){k:Nat}{v:Int}(b:0≤v∧v<n):zgz n (l.set k v):=by
 refine⟨by rw [List.length_set];exact h.1,fun j a=>?_⟩
 rw [List.getD_eq_getElem?_getD,List.getElem?_set]
 by_cases e:k=j
 ·subst e;rw [if_pos rfl,if_pos (by rw [h.1];exact a)];exact b
 ·rw [if_neg e,←List.getD_eq_getElem?_getD];exact h.2 j a
theorem zpd{n:Nat}{l:List Int}(h:zgz n l){k v:Int}(a:0≤v∧v<n):zgz n (up l k v):=zt8 h a
theorem zf0{n:Nat}{l:List Int}(h:zgz n l){k:Int}(a:0≤k∧k<n):okI l k∧0≤ix l k∧ix l k<n:=
 ⟨⟨a.1,by rw [h.1];exact a.2⟩,h.2 k.toNat (by omega)⟩
theorem zv6{m:Mach}(g:200≤N)(h:m.rows.length≤64): ∃ l,yl N m N [] 0=some l∧zgz m.rows.length l:=by
 have key: ∀ F k l,k≤m.rows.length→m.rows.length-k<F→l.length=k→(∀ j,j<k→0≤l.getD j default∧l.getD j default<(m.rows.length:Int))→ ∃ l',yl N m F l (k:Int)=some l'∧zgz m.rows.length l':=by
  intro F
  induction F with
  |zero=>intro k l c d;omega
  |succ F ih=>
   intro k l c d f a
   simp only [yl]
   by_cases e:k=m.rows.length
   ·rw [yz (by omega)]
    exact⟨l,rfl,by omega,fun j b=>a j (by omega)⟩
   ·rw [bq (by omega),zi ⟨by simp;omega,by simp;omega⟩,zi (ja (by omega))]
    refine ih (k+1) (l++[(k:Int)]) (by omega) (by omega) (by simp [f]) fun j b=>?_
    by_cases e2:j<k
    ·rw [z18 (by omega)];exact a j e2
    ·rw [z5j (by omega)];omega
 exact key N 0 [] (Nat.zero_le _) (by omega) rfl fun j b=>by omega
theorem zvt{m:Mach}(d:MOk m)(z:200≤N){l:List Int}(g:zgz m.rows.length l){s:Nat}(f:s<m.rows.length): ∀ F i X,i≤m.inputs.toNat→m.inputs.toNat-i<F→RowsOk m.rows.length m.inputs m.outputs X→
 ∃ X',yj N m l (s:Int) F (i:Int) X=some X'∧RowsOk m.rows.length m.inputs m.outputs X':=by
 have hi2:=d.i2
 intro F
 induction F with
 |zero=>intro i X p q;omega
 |succ F ih=>
  intro i X p q b
  have hrow:=d.row s f
  simp only [yj]
  rw [show ix m.rows (s:Int)=m.rows.getD s default from rfl,pg]
  by_cases e:i=m.inputs.toNat
  ·rw [yz (by omega)];exact⟨X,rfl,b⟩
  ·have c:i<(m.rows.getD s default).length:=by omega
   have j:=d.edge s i f c
   rw [bq (by omega),zi (j3 f),zi (j3 c)]
   obtain⟨n,t,A⟩:=zf0 g (k:=(s:Int)) (by omega)
   obtain⟨r,o⟩:=Int.eq_ofNat_of_zero_le t
   have a:r<m.rows.length:=by omega
   have u:=b.row r a
   have v:=b.len
   by_cases h0:0≤((m.rows.getD s default).getD i default).to
   ·have he':=j.resolve_left (fun h=>by omega)
    obtain⟨w,x,y⟩:=zf0 g (k:=((m.rows.getD s default).getD i default).to) ⟨h0,he'.2.1⟩
    refine exists_congr (fun X'=>and_congr_left fun _=>?_)|>.2 (ih (i+1) (X.set r ((X.getD r default).set i ⟨ix l ((m.rows.getD s default).getD i default).to,((m.rows.getD s default).getD i default).out⟩)) (by omega) (by omega) (zl8 b a (.inr ⟨x,y,he'.2.2⟩)))
    rw [zu (show (bif decide (0≤((m.rows.getD s default).getD i default).to) then gd (okI l ((m.rows.getD s default).getD i default).to) (some (ix l ((m.rows.getD s default).getD i default).to)) else some ((m.rows.getD s default).getD i default).to)=some (ix l ((m.rows.getD s default).getD i default).to) by rw [bq h0,zi w]),
     zi n,o,zi (j3 (by omega)),pg,zi (j3 (by omega)),zi (ja (by omega)),zmk,z1p,z1p]
   ·refine exists_congr (fun X'=>and_congr_left fun _=>?_)|>.2 (ih (i+1) (X.set r ((X.getD r default).set i ⟨((m.rows.getD s default).getD i default).to,((m.rows.getD s default).getD i default).out⟩)) (by omega) (by omega) (zl8 b a j))
    rw [zu (show (bif decide (0≤((m.rows.getD s default).getD i default).to) then gd (okI l ((m.rows.getD s default).getD i default).to) (some (ix l ((m.rows.getD s default).getD i default).to)) else some ((m.rows.getD s default).getD i default).to)=some ((m.rows.getD s default).getD i default).to by rw [yz h0]),
     zi n,o,zi (j3 (by omega)),pg,zi (j3 (by omega)),zi (ja (by omega)),zmk,z1p,z1p]
theorem zvn{m:Mach}(a:MOk m)(c:200≤N){l:List Int}(d:zgz m.rows.length l): ∀ F s X,s≤m.rows.length→m.rows.length-s<F→RowsOk m.rows.length m.inputs m.outputs X→
 ∃ X',yn N m l F (s:Int) X=some X'∧RowsOk m.rows.length m.inputs m.outputs X':=by
 have f:=a.r2;have hi2:=a.i2
 intro F
 induction F with
 |zero=>intro s X g h;omega
 |succ F ih=>
  intro s X g h b
  simp only [yn]
  by_cases e:s=m.rows.length
  ·rw [yz (by omega)];exact⟨X,rfl,b⟩
  ·obtain⟨X',i,j⟩:=zvt (N:=N) a c d (s:=s) (by omega) N 0 X (Nat.zero_le _) (by omega) b
   rw [bq (by omega),zu (show yj N m l (s:Int) N 0 X=some X' from i),zi (ja (by omega))]
   exact ih (s+1) X' (by omega) (by omega) j
theorem zxq(d:DOk x)(f:200≤N): ∃ a b,fw N x=some (a,b)∧MOk a∧MOk b∧a.inputs=b.inputs∧a.rows.length≤6∧b.rows.length≤6:=by
 have c:=zun d.m
 have o:=zpf d.m
 have z:=c.i1;have A:=c.i2;have Q:=c.r1
 have B:dx N (⟨x.fE.states,x.fE.ins,x.fE.outs,x.fE.part,x.fE.edges⟩:MDat)=some (mOf x.fE):=zs7 d.m f
 unfold fw
 rw [zu B]
 cases hA:x.fM
 ·have p:MDOk ⟨x.fH.states,x.fE.ins,x.fH.outs,x.fH.part,x.fH.edges⟩:=⟨d.y.st,d.m.ins,d.y.outs,d.y.ed⟩
  rw [Bool.not_false,cond_true,zu (zs7 p f)]
  exact⟨_,_,rfl,c,zun p,rfl,o.2,(zpf p).2⟩
 ·rw [Bool.not_true,cond_false]
  obtain⟨l,C,g⟩:=zv6 (N:=N) (m:=mOf x.fE) f (by omega)
  rw [zu C]
  have D:=d.sw
  have E:=d.pl
  have hswap: ∃ l',(bif decide (1<((mOf x.fE).rows.length:Int)) then(
   gd (in64 x.fA.1)<|
   gd (in64 (((mOf x.fE).rows.length:Int)-1))<|
   gd (okR x.fA.1 (((mOf x.fE).rows.length:Int)-1))<|
   gd (in64 ((1:Int)+(x.fA.1%(((mOf x.fE).rows.length:Int)-1))))<|
   gd (in64 x.fA.2)<|
   gd (in64 (((mOf x.fE).rows.length:Int)-1))<|
   gd (okR x.fA.2 (((mOf x.fE).rows.length:Int)-1))<|
   gd (in64 ((1:Int)+(x.fA.2%(((mOf x.fE).rows.length:Int)-1))))<|
   gd (okI l ((1:Int)+(x.fA.2%(((mOf x.fE).rows.length:Int)-1))))<|
   gd (okI l ((1:Int)+(x.fA.1%(((mOf x.fE).rows.length:Int)-1))))<|
   gd (okI l ((1:Int)+(x.fA.1%(((mOf x.fE).rows.length:Int)-1))))<|
   gd (okI l ((1:Int)+(x.fA.2%(((mOf x.fE).rows.length:Int)-1))))<|
   some (up (up l ((1:Int)+(x.fA.1%(((mOf x.fE).rows.length:Int)-1))) (ix l ((1:Int)+(x.fA.2%(((mOf x.fE).rows.length:Int)-1))))) ((1:Int)+(x.fA.2%(((mOf x.fE).rows.length:Int)-1))) (ix l ((1:Int)+(x.fA.1%(((mOf x.fE).rows.length:Int)-1)))))) else(
   some l))=some l'∧zgz (mOf x.fE).rows.length l':=by
   by_cases h:1<((mOf x.fE).rows.length:Int)
   ·have s:=Int.emod_nonneg x.fA.1 (show ((mOf x.fE).rows.length:Int)-1≠0 by omega)
    have F:=Int.emod_lt_of_pos x.fA.1 (show 0<((mOf x.fE).rows.length:Int)-1 by omega)
    have t:=Int.emod_nonneg x.fA.2 (show ((mOf x.fE).rows.length:Int)-1≠0 by omega)
    have G:=Int.emod_lt_of_pos x.fA.2 (show 0<((mOf x.fE).rows.length:Int)-1 by omega)
    obtain⟨u,H⟩:=zf0 g (k:=(1:Int)+(x.fA.1%(((mOf x.fE).rows.length:Int)-1))) (by omega)
    obtain⟨v,I⟩:=zf0 g (k:=(1:Int)+(x.fA.2%(((mOf x.fE).rows.length:Int)-1))) (by omega)
    refine⟨?w,?c,?j⟩
    case j=>exact zpd (k:=(1:Int)+(x.fA.2%(((mOf x.fE).rows.length:Int)-1))) (zpd (k:=(1:Int)+(x.fA.1%(((mOf x.fE).rows.length:Int)-1))) g I) H
    rw [bq h,zi (ja (by omega)),zi (ja (by omega)),zi ⟨by omega,by omega⟩,zi (ja (by omega)),zi (ja (by omega)),zi (ja (by omega)),zi ⟨by omega,by omega⟩,zi (ja (by omega)),zi v,zi u,zi u,zi v]
   ·rw [yz h];exact⟨l,rfl,g⟩
  obtain⟨l',J,K⟩:=hswap
  rw [zu J,zu (show bu N (⟨(mOf x.fE).inputs,(mOf x.fE).outputs,(mOf x.fE).rows⟩:Mach)=some (mOf x.fE) from zlb c.small f)]
  obtain⟨X,L,n⟩:=zvn (N:=N) c f K N 0 (mOf x.fE).rows (Nat.zero_le _) (by omega) (zwg c)
  have j:=ztp c n
  rw [zu (show yn N (mOf x.fE) l' N 0 (mOf x.fE).rows=some X from L),zu (zlb j.small f)]
  have M:=n.len
  have s:=Int.emod_nonneg x.fD.1 (show ((mOf x.fE).rows.length:Int)≠0 by omega)
  have F:=Int.emod_lt_of_pos x.fD.1 (show 0<((mOf x.fE).rows.length:Int) by omega)
  have t:=Int.emod_nonneg x.fD.2 (show (mOf x.fE).inputs≠0 by omega)
  have G:=Int.emod_lt_of_pos x.fD.2 (show 0<(mOf x.fE).inputs by omega)
  obtain⟨r,hr'⟩:=Int.eq_ofNat_of_zero_le s
  obtain⟨i,hi'⟩:=Int.eq_ofNat_of_zero_le t
  have hrow:=n.row r (by omega)
  dsimp only
  rw [hr',hi',zi (ja (by omega)),zi ⟨by omega,by omega⟩,zi (j3 (by omega)),zi (ja (by omega)),zi ⟨by omega,by omega⟩,pg,zi (j3 (by omega)),z1p,z1p]
  have q:Small (⟨(mOf x.fE).inputs,(mOf x.fE).outputs,X.set r ((X.getD r default).set i ⟨x.fJ.to,x.fJ.out⟩)⟩:Mach):=by
   refine⟨by show (X.set r _).length≤_;rw [List.length_set];omega,fun k O=>?_⟩
   have hk':k<X.length:=by rw [←List.length_set (i:=r) (a:=(X.getD r default).set i ⟨x.fJ.to,x.fJ.out⟩)];exact O
   show ((X.set r _).getD k default).length≤_
   rw [List.getD_eq_getElem?_getD,List.getElem?_set]
   have P:=n.row k (by omega)
   by_cases e:r=k
   ·subst e;rw [if_pos rfl,if_pos hk',Option.getD_some,List.length_set];omega
   ·rw [if_neg e,←List.getD_eq_getElem?_getD];omega
  rw [zu (zq9 q f)]
  by_cases hc:z1j (⟨(mOf x.fE).inputs,(mOf x.fE).outputs,X.set r ((X.getD r default).set i ⟨x.fJ.to,x.fJ.out⟩)⟩:Mach)=0
  ·rw [bq hc]
   exact⟨_,_,rfl,c,(zb1 _).1 hc,rfl,o.2,by show (X.set r _).length≤6;rw [List.length_set];omega⟩
  ·rw [yz hc]
   exact⟨_,_,rfl,c,j,rfl,o.2,by show X.length≤6;omega⟩
end
end GV
end Go.Proofs.YtkkcidhcfkmbjaaGreatDoor
