import Derived.Test.YtkkcidhcfkmbjaaGreatDoorSepp
set_option linter.unusedVariables false
set_option linter.unusedSimpArgs false
set_option linter.unusedSectionVars false
namespace Go.Proofs.YtkkcidhcfkmbjaaGreatDoor
namespace GV
set_option maxRecDepth 100000
/-! ### Tables that are filled place by place-/
def z2q(n I k:Nat):List (List Edge):=(List.range n).map fun s=>if s<k then List.replicate I ⟨0,0⟩ else []
theorem z3a{n I k:Nat}:(z2q n I k).length=n:=by simp [z2q]
theorem zdl{n I:Nat}:z2q n I 0=List.replicate n []:=by
 unfold z2q
 rw [←List.length_range (n:=n),←List.map_const']
 simp
theorem zee{α β:Type}[Inhabited α][Inhabited β]{l:List α}{f:α→β}{i:Nat}(h:i<l.length):(l.map f).getD i default=f (l.getD i default):=by
 rw [List.getD_eq_getElem?_getD,List.getElem?_map,List.getElem?_eq_getElem h,List.getD_eq_getElem?_getD,List.getElem?_eq_getElem h];rfl
theorem zew{n I k:Nat}(a:k<n):(z2q n I k).set k (List.replicate I ⟨0,0⟩)=z2q n I (k+1):=by
 refine z4m (by rw [List.length_set,z3a,z3a]) fun s b=>?_
 rw [List.length_set,z3a] at b
 rw [List.getD_eq_getElem?_getD,List.getElem?_set]
 by_cases e:k=s
 ·subst e
  rw [if_pos rfl,if_pos (by rw [z3a];exact a)]
  simp [z2q,List.getD_eq_getElem?_getD,a]
 ·rw [if_neg e,←List.getD_eq_getElem?_getD]
  simp only [z2q,List.getD_eq_getElem?_getD,List.getElem?_map,List.getElem?_range b,Option.map_some,Option.getD_some]
  by_cases h:s<k
  ·rw [if_pos h,if_pos (by omega)]
  ·rw [if_neg h,if_neg (by omega)]
def tab(n I:Nat)(G:Nat→Nat→Edge)(p:Nat):List (List Edge):=(List.range n).map fun s=>(List.range I).map fun i=>if s*I+i<p then G s i else⟨0,0⟩
section
variable {n I p s i : Nat} {G : Nat → Nat → Edge}
theorem z3s:(tab n I G p).length=n:=by simp [tab]
theorem z6d(a:s<n):(tab n I G p).getD s default=(List.range I).map fun i=>if s*I+i<p then G s i else⟨0,0⟩:=by simp [tab,List.getD_eq_getElem?_getD,a]
theorem zh1:tab n I G 0=z2q n I n:=by
 unfold tab z2q
 refine List.map_congr_left fun s a=>?_
 rw [if_pos (List.mem_range.1 a)]
 apply List.ext_getElem
 ·simp
 ·intro j b c;simp
theorem zkh(b:s<n)(hi:i<I):(tab n I G (s*I+i)).set s (((tab n I G (s*I+i)).getD s default).set i (G s i))=tab n I G (s*I+(i+1)):=by
 refine z4m (by rw [List.length_set,z3s,z3s]) fun r c=>?_
 rw [List.length_set,z3s] at c
 rw [List.getD_eq_getElem?_getD,List.getElem?_set]
 by_cases e:s=r
 ·subst e
  rw [if_pos rfl,if_pos (by rw [z3s];exact b),Option.getD_some,z6d b,z6d b]
  refine z4m (by simp) fun j a=>?_
  rw [List.length_set,List.length_map,List.length_range] at a
  rw [List.getD_eq_getElem?_getD,List.getElem?_set]
  by_cases e2:i=j
  ·subst e2
   rw [if_pos rfl,if_pos (by simpa using hi)]
   simp [List.getD_eq_getElem?_getD,hi]
  ·rw [if_neg e2]
   simp only [List.getElem?_map,List.getElem?_range a,Option.map_some,Option.getD_some,List.getD_eq_getElem?_getD]
   by_cases h:j<i
   ·rw [if_pos (by omega),if_pos (by omega)]
   ·rw [if_neg (by omega),if_neg (by omega)]
 ·rw [if_neg e,←List.getD_eq_getElem?_getD,z6d c,z6d c]
  refine List.map_congr_left fun j a=>?_
  have a:=List.mem_range.1 a
  have key:r*I+j≠s*I+i:=fun h=>by
   rcases Nat.lt_or_gt_of_ne e with d|d
   ·have:=Nat.mul_le_mul_right I (show s+1≤r from d)
    rw [Nat.add_mul,Nat.one_mul] at this;omega
   ·have:=Nat.mul_le_mul_right I (show r+1≤s from d)
    rw [Nat.add_mul,Nat.one_mul] at this;omega
  by_cases h:r*I+j<s*I+i
  ·rw [if_pos h,if_pos (by omega)]
  ·rw [if_neg h,if_neg (by omega)]
theorem zi6{rows:List (List Edge)}{f:Edge→Edge}(h: ∀ s,s<rows.length→(rows.getD s default).length=I):tab rows.length I (fun s i=>f ((rows.getD s default).getD i default)) (rows.length*I)=rows.map fun r=>r.map f:=by
 refine z4m (by rw [z3s,List.length_map]) fun s a=>?_
 rw [z3s] at a
 have c:=h s a
 have e:(rows.map fun r=>r.map f).getD s default=(rows.getD s default).map f:=by simp [List.getD_eq_getElem?_getD,a]
 rw [z6d a,e]
 refine z4m (by simp only [List.length_map,List.length_range];exact c.symm) fun i hi=>?_
 rw [List.length_map,List.length_range] at hi
 have b:s*I+i<rows.length*I:=by
  have:=Nat.mul_le_mul_right I (show s+1≤rows.length from a)
  rw [Nat.add_mul,Nat.one_mul] at this;omega
 simp only [List.getD_eq_getElem?_getD,List.getElem?_map,List.getElem?_range hi,Option.map_some,Option.getD_some]
 rw [if_pos b,←List.getD_eq_getElem?_getD (l:=rows),List.getElem?_eq_getElem (show i<(rows.getD s default).length by omega)]
 rfl
end
def z8c(n:Int)(e:Edge):Edge:=if e.to= -1∧e.out= -1 then e else⟨e.to+n,e.out⟩
theorem zmj{N:Nat}{m:Mach}(b:MOk m)(v:200≤N):z1f N m=some ⟨m.inputs,m.outputs,m.rows.map fun r=>r.map (fun e=>e)⟩:=by
 have n:=b.i1;have o:=b.i2;have p:=b.r2
 have q: ∀ s i,s<m.rows.length→i<m.inputs.toNat→z2c N (s:Int) (i:Int) ⟨(ix (ix m.rows (s:Int)) (i:Int)).to,(ix (ix m.rows (s:Int)) (i:Int)).out⟩=some ((s:Int),(i:Int),(fun e=>e) ((m.rows.getD s default).getD i default)):=by
  intro s i a hi
  have hrow:=b.row s a
  have w:=b.edge s i a (by omega)
  have g:(⟨(ix (ix m.rows (s:Int)) (i:Int)).to,(ix (ix m.rows (s:Int)) (i:Int)).out⟩:Edge)=(m.rows.getD s default).getD i default:=rfl
  rw [g]
  rfl
 have c: ∀ F k,k≤m.rows.length→m.rows.length-k<F→oh N m F (k:Int) (z2q m.rows.length m.inputs.toNat k)=some (z2q m.rows.length m.inputs.toNat m.rows.length):=by
  intro F
  induction F with
  |zero=>intro k c d;omega
  |succ F ih=>
   intro k c d
   have t:((mk (m.rows.length:Int) ([]:List Edge)).length:Int)=m.rows.length:=by rw [zg2,List.length_replicate]
   simp only [oh,t]
   by_cases e:k=m.rows.length
   ·rw [yo (by omega),e]
   ·rw [bq (by omega),zg ⟨by omega,by omega,by omega⟩,zg (j3 (by rw [z3a];omega)),zg (qj (by omega)),z0p,z1i]
    rw [show mk m.inputs (⟨(0:Int),(0:Int)⟩:Edge)=List.replicate m.inputs.toNat ⟨0,0⟩ from rfl,zew (by omega)]
    exact ih (k+1) (by omega) (by omega)
 have u: ∀ s,s<m.rows.length→ ∀ F i,i≤m.inputs.toNat→m.inputs.toNat-i<F→o7 N m (s:Int) F (i:Int) (tab m.rows.length m.inputs.toNat (fun s i=>(fun e=>e) ((m.rows.getD s default).getD i default)) (s*m.inputs.toNat+i))=some (tab m.rows.length m.inputs.toNat (fun s i=>(fun e=>e) ((m.rows.getD s default).getD i default)) (s*m.inputs.toNat+m.inputs.toNat)):=by
  intro s a F
  induction F with
  |zero=>intro i c d;omega
  |succ F ih=>
   intro i c d
   have hrow:=b.row s a
   simp only [o7]
   rw [show ix m.rows (s:Int)=m.rows.getD s default from rfl]
   by_cases e:i=m.inputs.toNat
   ·rw [yo (by omega),e]
   ·rw [bq (by omega),zg (j3 (by omega))]
    refine(q8 (q s i a (by omega))).trans ?_
    dsimp only
    rw [zg (j3 (by rw [z3s];omega)),mg,zg (j3 (by rw [z6d a,List.length_map,List.length_range];omega)),zg (qj (by omega)),z0p,z1i,z1i]
    rw [zkh a (show i<m.inputs.toNat by omega)]
    exact ih (i+1) (by omega) (by omega)
 have d: ∀ F s,s≤m.rows.length→m.rows.length-s<F→o8 N m F (s:Int) (tab m.rows.length m.inputs.toNat (fun s i=>(fun e=>e) ((m.rows.getD s default).getD i default)) (s*m.inputs.toNat))=some (tab m.rows.length m.inputs.toNat (fun s i=>(fun e=>e) ((m.rows.getD s default).getD i default)) (m.rows.length*m.inputs.toNat)):=by
  intro F
  induction F with
  |zero=>intro s c d;omega
  |succ F ih=>
   intro s c d
   simp only [o8]
   by_cases e:s=m.rows.length
   ·rw [yo (by omega),e]
   ·rw [bq (by omega),zg (j3 (by omega))]
    have h:=u s (by omega) N 0 (Nat.zero_le _) (by omega)
    rw [Nat.add_zero] at h
    refine(q8 h).trans ?_
    rw [zg (qj (by omega)),z0p,show s*m.inputs.toNat+m.inputs.toNat=(s+1)*m.inputs.toNat by rw [Nat.add_mul,Nat.one_mul]]
    exact ih (s+1) (by omega) (by omega)
 unfold z1f
 have j:=c N 0 (Nat.zero_le _) (by omega)
 rw [zdl] at j
 have l:=d N 0 (Nat.zero_le _) (by omega)
 rw [Nat.zero_mul,zh1] at l
 rw [zg ⟨by omega,by omega,by omega⟩]
 refine(q8 (x:=z2q m.rows.length m.inputs.toNat m.rows.length) j).trans ?_
 refine(q8 (x:=tab m.rows.length m.inputs.toNat (fun s i=>(fun e=>e) ((m.rows.getD s default).getD i default)) (m.rows.length*m.inputs.toNat)) l).trans ?_
 exact congrArg (fun z=>some (⟨m.inputs,m.outputs,z⟩:Mach)) (zi6 (rows:=m.rows) (f:=fun e=>e) (I:=m.inputs.toNat) (fun s a=>by have:=b.row s a;omega))
theorem zgj{N:Nat}{m:Mach}{c:Int}(b:MOk m)(A:200≤N)(B:0≤c∧c≤100):z0c N m c=some ⟨m.inputs,m.outputs,m.rows.map fun r=>r.map (z8c c)⟩:=by
 have p:=b.i1;have q:=b.i2;have t:=b.r2
 have u: ∀ s i,s<m.rows.length→i<m.inputs.toNat→z0o N (s:Int) (i:Int) ⟨(ix (ix m.rows (s:Int)) (i:Int)).to,(ix (ix m.rows (s:Int)) (i:Int)).out⟩ c=some ((s:Int),(i:Int),(z8c c) ((m.rows.getD s default).getD i default)):=by
  intro s i a hi
  have hrow:=b.row s a
  have j:=b.edge s i a (by omega)
  have l:(⟨(ix (ix m.rows (s:Int)) (i:Int)).to,(ix (ix m.rows (s:Int)) (i:Int)).out⟩:Edge)=(m.rows.getD s default).getD i default:=rfl
  rw [l]
  unfold z0o z8c
  by_cases h:((m.rows.getD s default).getD i default).to= -1∧((m.rows.getD s default).getD i default).out= -1
  ·rw [if_pos h]
   refine(q8 (x:=((m.rows.getD s default).getD i default).to) ?_).trans rfl
   refine(q8 (show z3h N=some ⟨-1,-1⟩ from rfl)).trans ?_
   rw [yo (fun v=>v h)]
  ·rw [if_neg h]
   refine(q8 (x:=((m.rows.getD s default).getD i default).to+c) ?_).trans rfl
   refine(q8 (show z3h N=some ⟨-1,-1⟩ from rfl)).trans ?_
   rw [bq h,zg (qj (by rcases j with j|j<;>omega))]
 have d: ∀ F k,k≤m.rows.length→m.rows.length-k<F→pg N m F (k:Int) (z2q m.rows.length m.inputs.toNat k)=some (z2q m.rows.length m.inputs.toNat m.rows.length):=by
  intro F
  induction F with
  |zero=>intro k d g;omega
  |succ F ih=>
   intro k d g
   have w:((mk (m.rows.length:Int) ([]:List Edge)).length:Int)=m.rows.length:=by rw [zg2,List.length_replicate]
   simp only [pg,w]
   by_cases e:k=m.rows.length
   ·rw [yo (by omega),e]
   ·rw [bq (by omega),zg ⟨by omega,by omega,by omega⟩,zg (j3 (by rw [z3a];omega)),zg (qj (by omega)),z0p,z1i]
    rw [show mk m.inputs (⟨(0:Int),(0:Int)⟩:Edge)=List.replicate m.inputs.toNat ⟨0,0⟩ from rfl,zew (by omega)]
    exact ih (k+1) (by omega) (by omega)
 have y: ∀ s,s<m.rows.length→ ∀ F i,i≤m.inputs.toNat→m.inputs.toNat-i<F→bz N m c (s:Int) F (i:Int) (tab m.rows.length m.inputs.toNat (fun s i=>(z8c c) ((m.rows.getD s default).getD i default)) (s*m.inputs.toNat+i))=some (tab m.rows.length m.inputs.toNat (fun s i=>(z8c c) ((m.rows.getD s default).getD i default)) (s*m.inputs.toNat+m.inputs.toNat)):=by
  intro s a F
  induction F with
  |zero=>intro i d g;omega
  |succ F ih=>
   intro i d g
   have hrow:=b.row s a
   simp only [bz]
   rw [show ix m.rows (s:Int)=m.rows.getD s default from rfl]
   by_cases e:i=m.inputs.toNat
   ·rw [yo (by omega),e]
   ·rw [bq (by omega),zg (j3 (by omega))]
    refine(q8 (u s i a (by omega))).trans ?_
    dsimp only
    rw [zg (j3 (by rw [z3s];omega)),mg,zg (j3 (by rw [z6d a,List.length_map,List.length_range];omega)),zg (qj (by omega)),z0p,z1i,z1i]
    rw [zkh a (show i<m.inputs.toNat by omega)]
    exact ih (i+1) (by omega) (by omega)
 have g: ∀ F s,s≤m.rows.length→m.rows.length-s<F→p8 N m c F (s:Int) (tab m.rows.length m.inputs.toNat (fun s i=>(z8c c) ((m.rows.getD s default).getD i default)) (s*m.inputs.toNat))=some (tab m.rows.length m.inputs.toNat (fun s i=>(z8c c) ((m.rows.getD s default).getD i default)) (m.rows.length*m.inputs.toNat)):=by
  intro F
  induction F with
  |zero=>intro s d g;omega
  |succ F ih=>
   intro s d g
   simp only [p8]
   by_cases e:s=m.rows.length
   ·rw [yo (by omega),e]
   ·rw [bq (by omega),zg (j3 (by omega))]
    have h:=y s (by omega) N 0 (Nat.zero_le _) (by omega)
    rw [Nat.add_zero] at h
    refine(q8 h).trans ?_
    rw [zg (qj (by omega)),z0p,show s*m.inputs.toNat+m.inputs.toNat=(s+1)*m.inputs.toNat by rw [Nat.add_mul,Nat.one_mul]]
    exact ih (s+1) (by omega) (by omega)
 unfold z0c
 have n:=d N 0 (Nat.zero_le _) (by omega)
 rw [zdl] at n
 have o:=g N 0 (Nat.zero_le _) (by omega)
 rw [Nat.zero_mul,zh1] at o
 rw [zg ⟨by omega,by omega,by omega⟩]
 refine(q8 (x:=z2q m.rows.length m.inputs.toNat m.rows.length) n).trans ?_
 refine(q8 (x:=tab m.rows.length m.inputs.toNat (fun s i=>(z8c c) ((m.rows.getD s default).getD i default)) (m.rows.length*m.inputs.toNat)) o).trans ?_
 exact congrArg (fun z=>some (⟨m.inputs,m.outputs,z⟩:Mach)) (zi6 (rows:=m.rows) (f:=z8c c) (I:=m.inputs.toNat) (fun s a=>by have:=b.row s a;omega))
theorem znc{N n:Nat}(a:n≤1000000):bf N (n:Int)=some []:=by
 unfold bf
 rw [yo (by omega)]
 refine(q8 (x:=[]) ?_).trans rfl
 rw [zg (qj (by omega)),zg (qj (by omega))]
 by_cases h:0<(n:Int)-(0-0)
 ·rw [bq h,zg ⟨h,by omega,by omega⟩,zg ⟨by omega,by omega,by omega⟩];rfl
 ·rw [yo h]
theorem zk6{N:Nat}{x y:List (List Edge)}(c:5≤N)(d:x.length≤1000)(e:y.length≤1000):bg N [x,y]=some (x++y):=by
 obtain⟨F,rfl⟩: ∃ F,N=F+5:=⟨N-5,by omega⟩
 have a:uj (F+5) [x,y] (F+5) 0 0=some ((x.length+y.length:Nat):Int):=by
  simp only [uj]
  rw [bq (by simp),zg (show okI [x,y] 0 from⟨by omega,by simp⟩),show ix [x,y] 0=x from rfl,zg (qj (by omega)),yo (by omega),zg (qj (by omega))]
  rw [bq (by simp),zg (show okI [x,y] (0+1) from⟨by omega,by simp⟩),show ix [x,y] (0+1)=y from rfl,zg (qj (by omega)),yo (by omega),zg (qj (by omega))]
  rw [yo (by simp)]
  simp
 have b:ul (F+5) [x,y] (F+5) 0 []=some (x++y):=by
  simp only [ul]
  rw [bq (by simp),zg (show okI [x,y] 0 from⟨by omega,by simp⟩),show ix [x,y] 0=x from rfl,zg ⟨by simp;omega,by simp;omega⟩,zg (qj (by omega))]
  rw [bq (by simp),zg (show okI [x,y] (0+1) from⟨by omega,by simp⟩),show ix [x,y] (0+1)=y from rfl,zg ⟨by simp;omega,by simp;omega⟩,zg (qj (by omega))]
  rw [yo (by simp)]
  rfl
 unfold bg
 rw [q8 a,q8 (znc (by omega)),q8 b]
theorem or2{N:Nat}(a:5≤N):eu N [0,0]=some 0:=by
 obtain⟨F,rfl⟩: ∃ F,N=F+5:=⟨N-5,by omega⟩
 have h:xz (F+5) [0,0] (F+5) 0=some (Ex.go ()):=by
  simp only [xz]
  rw [bq (by simp),zg (show okI ([0,0]:List Int) 0 from⟨by omega,by simp⟩),yo (show¬ix ([0,0]:List Int) 0≠0 by decide),zg (qj (by omega))]
  rw [bq (by simp),zg (show okI ([0,0]:List Int) (0+1) from⟨by omega,by simp⟩),yo (show¬ix ([0,0]:List Int) (0+1)≠0 by decide),zg (qj (by omega))]
  rw [yo (by simp)]
 unfold eu
 rw [q8 h];rfl
def ow(a b:Mach):Mach:=⟨a.inputs,max a.outputs b.outputs,a.rows++b.rows.map fun r=>r.map (z8c a.rows.length)⟩
theorem zp7{N:Nat}{a b:Mach}(e:MOk a)(f:MOk b)(hi:a.inputs=b.inputs)(g:a.rows.length+b.rows.length≤64)(c:200≤N):z15 N a b=some (ow a b,0):=by
 have hboth:z3b N a b=some 0:=by
  unfold z3b
  rw [q8 (zan e c),q8 (zan f c),q8 (or2 (by omega))]
 unfold z15
 rw [q8 hboth,yo (by simp),yo (fun h=>h hi),zg (qj (by omega)),yo (by omega),q8 (zmj e c),q8 (zgj f c (by omega))]
 dsimp only
 rw [List.map_congr_left (fun r _=>List.map_id' r),List.map_id',q8 (zk6 (by omega) (by omega) (by rw [List.length_map];omega))]
 have d: ∀ s:List (List Edge),di N s=some s:=fun s=>by unfold di;rw [zg (zfr s),zfb]
 rw [q8 (d _)]
 rfl
section
variable {a b : Mach}
theorem z5t:(ow a b).rows.length=a.rows.length+b.rows.length:=by simp [ow]
theorem zcr{s:Nat}(c:s<a.rows.length):(ow a b).rows.getD s default=a.rows.getD s default:=by
 simp [ow,List.getD_eq_getElem?_getD,List.getElem?_append_left c]
theorem z9e{t:Nat}(c:t<b.rows.length):(ow a b).rows.getD (a.rows.length+t) default=(b.rows.getD t default).map (z8c a.rows.length):=by
 simp [ow,List.getD_eq_getElem?_getD,c]
theorem zsn(c:MOk a)(f:MOk b)(hi:a.inputs=b.inputs)(p:a.rows.length+b.rows.length≤64):MOk (ow a b):=by
 have q:=c.o1;have l:=c.o2;have m:=f.o2
 refine⟨c.i1,c.i2,?_,?_,by rw [z5t];have:=c.r1;omega,by rw [z5t];exact p,fun s g=>?_,fun s i g hi'=>?_⟩
 ·show 1≤max a.outputs b.outputs;omega
 ·show max a.outputs b.outputs≤16;omega
 ·rw [z5t] at g
  by_cases h:s<a.rows.length
  ·rw [zcr h];exact c.row s h
  ·obtain⟨t,rfl⟩: ∃ t,s=a.rows.length+t:=⟨s-a.rows.length,by omega⟩
   rw [z9e (by omega),List.length_map]
   exact(f.row t (by omega)).trans hi.symm
 ·rw [z5t] at g
  by_cases h:s<a.rows.length
  ·rw [zcr h] at hi'⊢
   rcases c.edge s i h hi' with d|⟨n,r,j,o⟩
   ·exact .inl d
   ·exact .inr ⟨n,by rw [z5t];omega,j,by show _<max a.outputs b.outputs;omega⟩
  ·obtain⟨t,rfl⟩: ∃ t,s=a.rows.length+t:=⟨s-a.rows.length,by omega⟩
   have k:t<b.rows.length:=by omega
   rw [z9e k,List.length_map] at hi'
   have e:((ow a b).rows.getD (a.rows.length+t) default).getD i default=z8c a.rows.length ((b.rows.getD t default).getD i default):=by
    rw [z9e k,zee hi']
   rw [e]
   unfold z8c
   rcases f.edge t i k hi' with d|⟨n,r,j,o⟩
   ·rw [if_pos d];exact .inl d
   ·rw [if_neg (by omega)]
    exact .inr ⟨by show 0≤_+_;omega,by rw [z5t];show _+_<_;omega,j,Int.lt_of_lt_of_le o (Int.le_max_right _ _)⟩
theorem zgd(d:MOk a): ∀ (w:List Int) {s:Int},SOk a s→WOk a.inputs w→z0n (ow a b) s w=z0n a s w
 | [],_,_,_=>rfl
 |c::w,s,f,g=>by
  obtain⟨i,rfl,hi,hw'⟩:=z7b g
  have e:uy (ow a b) s (i:Int)=uy a s (i:Int):=by
   rcases f with rfl|⟨h,j⟩
   ·rfl
   ·unfold uy
    rw [if_neg (by omega),if_neg (by omega),zcr (by omega)]
  show (uy (ow a b) s (i:Int)).out::z0n (ow a b) (uy (ow a b) s (i:Int)).to w=(uy a s (i:Int)).out::z0n a (uy a s (i:Int)).to w
  rw [e,zgd d w (z4w a d s (i:Int) f ⟨by omega,by have:=d.i1;omega⟩).1 hw']
def shI(n:Nat)(t:Int):Int:=if t= -1 then-1 else t+n
theorem zil(d:MOk b): ∀ (w:List Int) {t:Int},SOk b t→WOk b.inputs w→z0n (ow a b) (shI a.rows.length t) w=z0n b t w
 | [],_,_,_=>rfl
 |c::w,t,k,l=>by
  obtain⟨i,rfl,hi,hw'⟩:=z7b l
  have g:=z4w b d t (i:Int) k ⟨by omega,by have:=d.i1;omega⟩
  have e:uy (ow a b) (shI a.rows.length t) (i:Int)=⟨shI a.rows.length (uy b t (i:Int)).to,(uy b t (i:Int)).out⟩:=by
   rcases k with rfl|⟨o,p⟩
   ·rfl
   ·have hrow:=d.row t.toNat (by omega)
    unfold shI uy
    rw [if_neg (show¬t= -1 by omega),if_neg (by omega),if_neg (show¬t<0 by omega),show (t+(a.rows.length:Int)).toNat=a.rows.length+t.toNat by omega,z9e (by omega)]
    have j:i<(b.rows.getD t.toNat default).length:=by omega
    have m:((b.rows.getD t.toNat default).map (z8c a.rows.length)).getD (i:Int).toNat default=z8c a.rows.length ((b.rows.getD t.toNat default).getD (i:Int).toNat default):=by
     rw [Int.toNat_natCast,zee j]
    rw [m]
    unfold z8c
    have f:=d.edge t.toNat (i:Int).toNat (by omega) (by omega)
    by_cases h:((b.rows.getD t.toNat default).getD (i:Int).toNat default).to= -1
    ·rw [if_pos (by rcases f with f|f;exact f;omega),if_pos h]
     refine znj ⟨h,rfl⟩
    ·rw [if_neg (fun n=>h n.1),if_neg h]
  show (uy (ow a b) (shI a.rows.length t) (i:Int)).out::z0n (ow a b) (uy (ow a b) (shI a.rows.length t) (i:Int)).to w=(uy b t (i:Int)).out::z0n b (uy b t (i:Int)).to w
  rw [e,zil d w g.1 hw']
def zfc(a b:Mach)(w:List Int):Prop:=WOk a.inputs w∧z0n a 0 w≠z0n b 0 w
def zgx(a b:Mach)(w:List Int):Prop:=zfc a b w∧ ∀ v,zfc a b v→lle w v
theorem z4j(c:MOk a)(d:MOk b)(hi:a.inputs=b.inputs){w:List Int}:Sep (ow a b) 0 a.rows.length w↔zfc a b w:=by
 unfold Sep zfc
 have f:(ow a b).inputs=a.inputs:=rfl
 rw [f]
 refine and_congr_right fun e=>?_
 have h:=c.r1;have i:=d.r1
 rw [zgd c w (s:=((0:Nat):Int)) (.inr ⟨by omega,by omega⟩) e]
 have:=zil (a:=a) d w (t:=0) (.inr ⟨by omega,by omega⟩) (by rw [←hi];exact e)
 have g:shI a.rows.length 0=(a.rows.length:Int):=by unfold shI;rw [if_neg (by omega)];omega
 rw [g] at this
 rw [this]
 rfl
end
end GV
end Go.Proofs.YtkkcidhcfkmbjaaGreatDoor
