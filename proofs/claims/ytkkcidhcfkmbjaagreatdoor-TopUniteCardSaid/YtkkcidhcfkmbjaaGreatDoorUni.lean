import Derived.Test.YtkkcidhcfkmbjaaGreatDoorSepp
set_option linter.unusedVariables false
set_option linter.unusedSimpArgs false
set_option linter.unusedSectionVars false
namespace Go.Proofs.YtkkcidhcfkmbjaaGreatDoor
namespace GV
set_option maxRecDepth 100000
/-! ### Tables that are filled place by place-/
def z2s(n I k:Nat):List (List Edge):=(List.range n).map fun s=>if s<k then List.replicate I ⟨0,0⟩ else []
theorem z2z{n I k:Nat}:(z2s n I k).length=n:=by simp [z2s]
theorem zdj{n I:Nat}:z2s n I 0=List.replicate n []:=by
 unfold z2s
 rw [←List.length_range (n:=n),←List.map_const']
 simp
theorem zej{α β:Type}[Inhabited α][Inhabited β]{l:List α}{f:α→β}{i:Nat}(h:i<l.length):(l.map f).getD i default=f (l.getD i default):=by
 rw [List.getD_eq_getElem?_getD,List.getElem?_map,List.getElem?_eq_getElem h,List.getD_eq_getElem?_getD,List.getElem?_eq_getElem h];rfl
theorem zec{n I k:Nat}(a:k<n):(z2s n I k).set k (List.replicate I ⟨0,0⟩)=z2s n I (k+1):=by
 refine z4p (by rw [List.length_set,z2z,z2z]) fun s b=>?_
 rw [List.length_set,z2z] at b
 rw [List.getD_eq_getElem?_getD,List.getElem?_set]
 by_cases e:k=s
 ·subst e
  rw [if_pos rfl,if_pos (by rw [z2z];exact a)]
  simp [z2s,List.getD_eq_getElem?_getD,a]
 ·rw [if_neg e,←List.getD_eq_getElem?_getD]
  simp only [z2s,List.getD_eq_getElem?_getD,List.getElem?_map,List.getElem?_range b,Option.map_some,Option.getD_some]
  by_cases h:s<k
  ·rw [if_pos h,if_pos (by omega)]
  ·rw [if_neg h,if_neg (by omega)]
def tab(n I:Nat)(G:Nat→Nat→Edge)(p:Nat):List (List Edge):=(List.range n).map fun s=>(List.range I).map fun i=>if s*I+i<p then G s i else⟨0,0⟩
section
variable {n I p s i : Nat} {G : Nat → Nat → Edge}
theorem z3s:(tab n I G p).length=n:=by simp [tab]
theorem z5q(a:s<n):(tab n I G p).getD s default=(List.range I).map fun i=>if s*I+i<p then G s i else⟨0,0⟩:=by simp [tab,List.getD_eq_getElem?_getD,a]
theorem zho:tab n I G 0=z2s n I n:=by
 unfold tab z2s
 refine List.map_congr_left fun s a=>?_
 rw [if_pos (List.mem_range.1 a)]
 apply List.ext_getElem
 ·simp
 ·intro j b c;simp
theorem zkx(b:s<n)(hi:i<I):(tab n I G (s*I+i)).set s (((tab n I G (s*I+i)).getD s default).set i (G s i))=tab n I G (s*I+(i+1)):=by
 refine z4p (by rw [List.length_set,z3s,z3s]) fun r c=>?_
 rw [List.length_set,z3s] at c
 rw [List.getD_eq_getElem?_getD,List.getElem?_set]
 by_cases e:s=r
 ·subst e
  rw [if_pos rfl,if_pos (by rw [z3s];exact b),Option.getD_some,z5q b,z5q b]
  refine z4p (by simp) fun j a=>?_
  rw [List.length_set,List.length_map,List.length_range] at a
  rw [List.getD_eq_getElem?_getD,List.getElem?_set]
  by_cases e2:i=j
  ·subst e2
   rw [if_pos rfl,if_pos (by simpa using hi)]
   simp [List.getD_eq_getElem?_getD,hi]
  ·rw [if_neg e2]
   simp only [List.getElem?_map,List.getElem?_range a,Option.map_some,Option.getD_some,List.getD_eq_getElem?_getD]
   by_cases h:j<i
   ·rw [if_pos (by omega),if_pos (by omega)]
   ·rw [if_neg (by omega),if_neg (by omega)]
 ·rw [if_neg e,←List.getD_eq_getElem?_getD,z5q c,z5q c]
  refine List.map_congr_left fun j a=>?_
  have a:=List.mem_range.1 a
  have key:r*I+j≠s*I+i:=fun h=>by
   rcases Nat.lt_or_gt_of_ne e with d|d
   ·have:=Nat.mul_le_mul_right I (show s+1≤r from d)
    rw [Nat.add_mul,Nat.one_mul] at this;omega
   ·have:=Nat.mul_le_mul_right I (show r+1≤s from d)
    rw [Nat.add_mul,Nat.one_mul] at this;omega
  by_cases h:r*I+j<s*I+i
  ·rw [if_pos h,if_pos (by omega)]
  ·rw [if_neg h,if_neg (by omega)]
theorem zh4{rows:List (List Edge)}{f:Edge→Edge}(h: ∀ s,s<rows.length→(rows.getD s default).length=I):tab rows.length I (fun s i=>f ((rows.getD s default).getD i default)) (rows.length*I)=rows.map fun r=>r.map f:=by
 refine z4p (by rw [z3s,List.length_map]) fun s a=>?_
 rw [z3s] at a
 have c:=h s a
 have e:(rows.map fun r=>r.map f).getD s default=(rows.getD s default).map f:=by simp [List.getD_eq_getElem?_getD,a]
 rw [z5q a,e]
 refine z4p (by simp only [List.length_map,List.length_range];exact c.symm) fun i hi=>?_
 rw [List.length_map,List.length_range] at hi
 have b:s*I+i<rows.length*I:=by
  have:=Nat.mul_le_mul_right I (show s+1≤rows.length from a)
  rw [Nat.add_mul,Nat.one_mul] at this;omega
 simp only [List.getD_eq_getElem?_getD,List.getElem?_map,List.getElem?_range hi,Option.map_some,Option.getD_some]
 rw [if_pos b,←List.getD_eq_getElem?_getD (l:=rows),List.getElem?_eq_getElem (show i<(rows.getD s default).length by omega)]
 rfl
end
def z88(n:Int)(e:Edge):Edge:=if e.to= -1∧e.out= -1 then e else⟨e.to+n,e.out⟩
theorem zmc{N:Nat}{m:Mach}(b:MOk m)(v:200≤N):z1i N m=some ⟨m.inputs,m.outputs,m.rows.map fun r=>r.map (fun e=>e)⟩:=by
 have n:=b.i1;have o:=b.i2;have p:=b.r2
 have q: ∀ s i,s<m.rows.length→i<m.inputs.toNat→z2d N (s:Int) (i:Int) ⟨(ix (ix m.rows (s:Int)) (i:Int)).to,(ix (ix m.rows (s:Int)) (i:Int)).out⟩=some ((s:Int),(i:Int),(fun e=>e) ((m.rows.getD s default).getD i default)):=by
  intro s i a hi
  have hrow:=b.row s a
  have w:=b.edge s i a (by omega)
  have g:(⟨(ix (ix m.rows (s:Int)) (i:Int)).to,(ix (ix m.rows (s:Int)) (i:Int)).out⟩:Edge)=(m.rows.getD s default).getD i default:=rfl
  rw [g]
  rfl
 have c: ∀ F k,k≤m.rows.length→m.rows.length-k<F→o7 N m F (k:Int) (z2s m.rows.length m.inputs.toNat k)=some (z2s m.rows.length m.inputs.toNat m.rows.length):=by
  intro F
  induction F with
  |zero=>intro k c d;omega
  |succ F ih=>
   intro k c d
   have t:((mk (m.rows.length:Int) ([]:List Edge)).length:Int)=m.rows.length:=by rw [zfv,List.length_replicate]
   simp only [o7,t]
   by_cases e:k=m.rows.length
   ·rw [yt (by omega),e]
   ·rw [bq (by omega),zg ⟨by omega,by omega,by omega⟩,zg (j3 (by rw [z2z];omega)),zg (qj (by omega)),z0r,z1g]
    rw [show mk m.inputs (⟨(0:Int),(0:Int)⟩:Edge)=List.replicate m.inputs.toNat ⟨0,0⟩ from rfl,zec (by omega)]
    exact ih (k+1) (by omega) (by omega)
 have u: ∀ s,s<m.rows.length→ ∀ F i,i≤m.inputs.toNat→m.inputs.toNat-i<F→o9 N m (s:Int) F (i:Int) (tab m.rows.length m.inputs.toNat (fun s i=>(fun e=>e) ((m.rows.getD s default).getD i default)) (s*m.inputs.toNat+i))=some (tab m.rows.length m.inputs.toNat (fun s i=>(fun e=>e) ((m.rows.getD s default).getD i default)) (s*m.inputs.toNat+m.inputs.toNat)):=by
  intro s a F
  induction F with
  |zero=>intro i c d;omega
  |succ F ih=>
   intro i c d
   have hrow:=b.row s a
   simp only [o9]
   rw [show ix m.rows (s:Int)=m.rows.getD s default from rfl]
   by_cases e:i=m.inputs.toNat
   ·rw [yt (by omega),e]
   ·rw [bq (by omega),zg (j3 (by omega))]
    refine(q8 (q s i a (by omega))).trans ?_
    dsimp only
    rw [zg (j3 (by rw [z3s];omega)),mf,zg (j3 (by rw [z5q a,List.length_map,List.length_range];omega)),zg (qj (by omega)),z0r,z1g,z1g]
    rw [zkx a (show i<m.inputs.toNat by omega)]
    exact ih (i+1) (by omega) (by omega)
 have d: ∀ F s,s≤m.rows.length→m.rows.length-s<F→oh N m F (s:Int) (tab m.rows.length m.inputs.toNat (fun s i=>(fun e=>e) ((m.rows.getD s default).getD i default)) (s*m.inputs.toNat))=some (tab m.rows.length m.inputs.toNat (fun s i=>(fun e=>e) ((m.rows.getD s default).getD i default)) (m.rows.length*m.inputs.toNat)):=by
  intro F
  induction F with
  |zero=>intro s c d;omega
  |succ F ih=>
   intro s c d
   simp only [oh]
   by_cases e:s=m.rows.length
   ·rw [yt (by omega),e]
   ·rw [bq (by omega),zg (j3 (by omega))]
    have h:=u s (by omega) N 0 (Nat.zero_le _) (by omega)
    rw [Nat.add_zero] at h
    refine(q8 h).trans ?_
    rw [zg (qj (by omega)),z0r,show s*m.inputs.toNat+m.inputs.toNat=(s+1)*m.inputs.toNat by rw [Nat.add_mul,Nat.one_mul]]
    exact ih (s+1) (by omega) (by omega)
 unfold z1i
 have j:=c N 0 (Nat.zero_le _) (by omega)
 rw [zdj] at j
 have l:=d N 0 (Nat.zero_le _) (by omega)
 rw [Nat.zero_mul,zho] at l
 rw [zg ⟨by omega,by omega,by omega⟩]
 refine(q8 (x:=z2s m.rows.length m.inputs.toNat m.rows.length) j).trans ?_
 refine(q8 (x:=tab m.rows.length m.inputs.toNat (fun s i=>(fun e=>e) ((m.rows.getD s default).getD i default)) (m.rows.length*m.inputs.toNat)) l).trans ?_
 exact congrArg (fun z=>some (⟨m.inputs,m.outputs,z⟩:Mach)) (zh4 (rows:=m.rows) (f:=fun e=>e) (I:=m.inputs.toNat) (fun s a=>by have:=b.row s a;omega))
theorem zgy{N:Nat}{m:Mach}{c:Int}(b:MOk m)(A:200≤N)(B:0≤c∧c≤100):z01 N m c=some ⟨m.inputs,m.outputs,m.rows.map fun r=>r.map (z88 c)⟩:=by
 have p:=b.i1;have q:=b.i2;have t:=b.r2
 have u: ∀ s i,s<m.rows.length→i<m.inputs.toNat→z0t N (s:Int) (i:Int) ⟨(ix (ix m.rows (s:Int)) (i:Int)).to,(ix (ix m.rows (s:Int)) (i:Int)).out⟩ c=some ((s:Int),(i:Int),(z88 c) ((m.rows.getD s default).getD i default)):=by
  intro s i a hi
  have hrow:=b.row s a
  have j:=b.edge s i a (by omega)
  have l:(⟨(ix (ix m.rows (s:Int)) (i:Int)).to,(ix (ix m.rows (s:Int)) (i:Int)).out⟩:Edge)=(m.rows.getD s default).getD i default:=rfl
  rw [l]
  unfold z0t z88
  by_cases h:((m.rows.getD s default).getD i default).to= -1∧((m.rows.getD s default).getD i default).out= -1
  ·rw [if_pos h]
   refine(q8 (x:=((m.rows.getD s default).getD i default).to) ?_).trans rfl
   refine(q8 (show z3f N=some ⟨-1,-1⟩ from rfl)).trans ?_
   rw [yt (fun v=>v h)]
  ·rw [if_neg h]
   refine(q8 (x:=((m.rows.getD s default).getD i default).to+c) ?_).trans rfl
   refine(q8 (show z3f N=some ⟨-1,-1⟩ from rfl)).trans ?_
   rw [bq h,zg (qj (by rcases j with j|j<;>omega))]
 have d: ∀ F k,k≤m.rows.length→m.rows.length-k<F→bv N m F (k:Int) (z2s m.rows.length m.inputs.toNat k)=some (z2s m.rows.length m.inputs.toNat m.rows.length):=by
  intro F
  induction F with
  |zero=>intro k d g;omega
  |succ F ih=>
   intro k d g
   have w:((mk (m.rows.length:Int) ([]:List Edge)).length:Int)=m.rows.length:=by rw [zfv,List.length_replicate]
   simp only [bv,w]
   by_cases e:k=m.rows.length
   ·rw [yt (by omega),e]
   ·rw [bq (by omega),zg ⟨by omega,by omega,by omega⟩,zg (j3 (by rw [z2z];omega)),zg (qj (by omega)),z0r,z1g]
    rw [show mk m.inputs (⟨(0:Int),(0:Int)⟩:Edge)=List.replicate m.inputs.toNat ⟨0,0⟩ from rfl,zec (by omega)]
    exact ih (k+1) (by omega) (by omega)
 have y: ∀ s,s<m.rows.length→ ∀ F i,i≤m.inputs.toNat→m.inputs.toNat-i<F→bu N m c (s:Int) F (i:Int) (tab m.rows.length m.inputs.toNat (fun s i=>(z88 c) ((m.rows.getD s default).getD i default)) (s*m.inputs.toNat+i))=some (tab m.rows.length m.inputs.toNat (fun s i=>(z88 c) ((m.rows.getD s default).getD i default)) (s*m.inputs.toNat+m.inputs.toNat)):=by
  intro s a F
  induction F with
  |zero=>intro i d g;omega
  |succ F ih=>
   intro i d g
   have hrow:=b.row s a
   simp only [bu]
   rw [show ix m.rows (s:Int)=m.rows.getD s default from rfl]
   by_cases e:i=m.inputs.toNat
   ·rw [yt (by omega),e]
   ·rw [bq (by omega),zg (j3 (by omega))]
    refine(q8 (u s i a (by omega))).trans ?_
    dsimp only
    rw [zg (j3 (by rw [z3s];omega)),mf,zg (j3 (by rw [z5q a,List.length_map,List.length_range];omega)),zg (qj (by omega)),z0r,z1g,z1g]
    rw [zkx a (show i<m.inputs.toNat by omega)]
    exact ih (i+1) (by omega) (by omega)
 have g: ∀ F s,s≤m.rows.length→m.rows.length-s<F→pg N m c F (s:Int) (tab m.rows.length m.inputs.toNat (fun s i=>(z88 c) ((m.rows.getD s default).getD i default)) (s*m.inputs.toNat))=some (tab m.rows.length m.inputs.toNat (fun s i=>(z88 c) ((m.rows.getD s default).getD i default)) (m.rows.length*m.inputs.toNat)):=by
  intro F
  induction F with
  |zero=>intro s d g;omega
  |succ F ih=>
   intro s d g
   simp only [pg]
   by_cases e:s=m.rows.length
   ·rw [yt (by omega),e]
   ·rw [bq (by omega),zg (j3 (by omega))]
    have h:=y s (by omega) N 0 (Nat.zero_le _) (by omega)
    rw [Nat.add_zero] at h
    refine(q8 h).trans ?_
    rw [zg (qj (by omega)),z0r,show s*m.inputs.toNat+m.inputs.toNat=(s+1)*m.inputs.toNat by rw [Nat.add_mul,Nat.one_mul]]
    exact ih (s+1) (by omega) (by omega)
 unfold z01
 have n:=d N 0 (Nat.zero_le _) (by omega)
 rw [zdj] at n
 have o:=g N 0 (Nat.zero_le _) (by omega)
 rw [Nat.zero_mul,zho] at o
 rw [zg ⟨by omega,by omega,by omega⟩]
 refine(q8 (x:=z2s m.rows.length m.inputs.toNat m.rows.length) n).trans ?_
 refine(q8 (x:=tab m.rows.length m.inputs.toNat (fun s i=>(z88 c) ((m.rows.getD s default).getD i default)) (m.rows.length*m.inputs.toNat)) o).trans ?_
 exact congrArg (fun z=>some (⟨m.inputs,m.outputs,z⟩:Mach)) (zh4 (rows:=m.rows) (f:=z88 c) (I:=m.inputs.toNat) (fun s a=>by have:=b.row s a;omega))
theorem zoq{N n:Nat}(a:n≤1000000):bf N (n:Int)=some []:=by
 unfold bf
 rw [yt (by omega)]
 refine(q8 (x:=[]) ?_).trans rfl
 rw [zg (qj (by omega)),zg (qj (by omega))]
 by_cases h:0<(n:Int)-(0-0)
 ·rw [bq h,zg ⟨h,by omega,by omega⟩,zg ⟨by omega,by omega,by omega⟩];rfl
 ·rw [yt h]
theorem ziw{N:Nat}{x y:List (List Edge)}(c:5≤N)(d:x.length≤1000)(e:y.length≤1000):bi N [x,y]=some (x++y):=by
 obtain⟨F,rfl⟩: ∃ F,N=F+5:=⟨N-5,by omega⟩
 have a:ul (F+5) [x,y] (F+5) 0 0=some ((x.length+y.length:Nat):Int):=by
  simp only [ul]
  rw [bq (by simp),zg (show okI [x,y] 0 from⟨by omega,by simp⟩),show ix [x,y] 0=x from rfl,zg (qj (by omega)),yt (by omega),zg (qj (by omega))]
  rw [bq (by simp),zg (show okI [x,y] (0+1) from⟨by omega,by simp⟩),show ix [x,y] (0+1)=y from rfl,zg (qj (by omega)),yt (by omega),zg (qj (by omega))]
  rw [yt (by simp)]
  simp
 have b:uk (F+5) [x,y] (F+5) 0 []=some (x++y):=by
  simp only [uk]
  rw [bq (by simp),zg (show okI [x,y] 0 from⟨by omega,by simp⟩),show ix [x,y] 0=x from rfl,zg ⟨by simp;omega,by simp;omega⟩,zg (qj (by omega))]
  rw [bq (by simp),zg (show okI [x,y] (0+1) from⟨by omega,by simp⟩),show ix [x,y] (0+1)=y from rfl,zg ⟨by simp;omega,by simp;omega⟩,zg (qj (by omega))]
  rw [yt (by simp)]
  rfl
 unfold bi
 rw [q8 a,q8 (zoq (by omega)),q8 b]
theorem or2{N:Nat}(a:5≤N):aa N [0,0]=some 0:=by
 obtain⟨F,rfl⟩: ∃ F,N=F+5:=⟨N-5,by omega⟩
 have h:xy (F+5) [0,0] (F+5) 0=some (Ex.go ()):=by
  simp only [xy]
  rw [bq (by simp),zg (show okI ([0,0]:List Int) 0 from⟨by omega,by simp⟩),yt (show¬ix ([0,0]:List Int) 0≠0 by decide),zg (qj (by omega))]
  rw [bq (by simp),zg (show okI ([0,0]:List Int) (0+1) from⟨by omega,by simp⟩),yt (show¬ix ([0,0]:List Int) (0+1)≠0 by decide),zg (qj (by omega))]
  rw [yt (by simp)]
 unfold aa
 rw [q8 h];rfl
def eu(a b:Mach):Mach:=⟨a.inputs,max a.outputs b.outputs,a.rows++b.rows.map fun r=>r.map (z88 a.rows.length)⟩
theorem zna{N:Nat}{a b:Mach}(e:MOk a)(f:MOk b)(hi:a.inputs=b.inputs)(g:a.rows.length+b.rows.length≤64)(c:200≤N):z1b N a b=some (eu a b,0):=by
 have hboth:z3c N a b=some 0:=by
  unfold z3c
  rw [q8 (zax e c),q8 (zax f c),q8 (or2 (by omega))]
 unfold z1b
 rw [q8 hboth,yt (by simp),yt (fun h=>h hi),zg (qj (by omega)),yt (by omega),q8 (zmc e c),q8 (zgy f c (by omega))]
 dsimp only
 rw [List.map_congr_left (fun r _=>List.map_id' r),List.map_id',q8 (ziw (by omega) (by omega) (by rw [List.length_map];omega))]
 have d: ∀ s:List (List Edge),dm N s=some s:=fun s=>by unfold dm;rw [zg (zfk s),zg8]
 rw [q8 (d _)]
 rfl
section
variable {a b : Mach}
theorem z6b:(eu a b).rows.length=a.rows.length+b.rows.length:=by simp [eu]
theorem zch{s:Nat}(c:s<a.rows.length):(eu a b).rows.getD s default=a.rows.getD s default:=by
 simp [eu,List.getD_eq_getElem?_getD,List.getElem?_append_left c]
theorem z9i{t:Nat}(c:t<b.rows.length):(eu a b).rows.getD (a.rows.length+t) default=(b.rows.getD t default).map (z88 a.rows.length):=by
 simp [eu,List.getD_eq_getElem?_getD,c]
theorem zs4(c:MOk a)(f:MOk b)(hi:a.inputs=b.inputs)(p:a.rows.length+b.rows.length≤64):MOk (eu a b):=by
 have q:=c.o1;have l:=c.o2;have m:=f.o2
 refine⟨c.i1,c.i2,?_,?_,by rw [z6b];have:=c.r1;omega,by rw [z6b];exact p,fun s g=>?_,fun s i g hi'=>?_⟩
 ·show 1≤max a.outputs b.outputs;omega
 ·show max a.outputs b.outputs≤16;omega
 ·rw [z6b] at g
  by_cases h:s<a.rows.length
  ·rw [zch h];exact c.row s h
  ·obtain⟨t,rfl⟩: ∃ t,s=a.rows.length+t:=⟨s-a.rows.length,by omega⟩
   rw [z9i (by omega),List.length_map]
   exact(f.row t (by omega)).trans hi.symm
 ·rw [z6b] at g
  by_cases h:s<a.rows.length
  ·rw [zch h] at hi'⊢
   rcases c.edge s i h hi' with d|⟨n,r,j,o⟩
   ·exact .inl d
   ·exact .inr ⟨n,by rw [z6b];omega,j,by show _<max a.outputs b.outputs;omega⟩
  ·obtain⟨t,rfl⟩: ∃ t,s=a.rows.length+t:=⟨s-a.rows.length,by omega⟩
   have k:t<b.rows.length:=by omega
   rw [z9i k,List.length_map] at hi'
   have e:((eu a b).rows.getD (a.rows.length+t) default).getD i default=z88 a.rows.length ((b.rows.getD t default).getD i default):=by
    rw [z9i k,zej hi']
   rw [e]
   unfold z88
   rcases f.edge t i k hi' with d|⟨n,r,j,o⟩
   ·rw [if_pos d];exact .inl d
   ·rw [if_neg (by omega)]
    exact .inr ⟨by show 0≤_+_;omega,by rw [z6b];show _+_<_;omega,j,Int.lt_of_lt_of_le o (Int.le_max_right _ _)⟩
theorem zh6(d:MOk a): ∀ (w:List Int) {s:Int},SOk a s→WOk a.inputs w→z0n (eu a b) s w=z0n a s w
 | [],_,_,_=>rfl
 |c::w,s,f,g=>by
  obtain⟨i,rfl,hi,hw'⟩:=z6p g
  have e:uy (eu a b) s (i:Int)=uy a s (i:Int):=by
   rcases f with rfl|⟨h,j⟩
   ·rfl
   ·unfold uy
    rw [if_neg (by omega),if_neg (by omega),zch (by omega)]
  show (uy (eu a b) s (i:Int)).out::z0n (eu a b) (uy (eu a b) s (i:Int)).to w=(uy a s (i:Int)).out::z0n a (uy a s (i:Int)).to w
  rw [e,zh6 d w (z4l a d s (i:Int) f ⟨by omega,by have:=d.i1;omega⟩).1 hw']
def shI(n:Nat)(t:Int):Int:=if t= -1 then-1 else t+n
theorem zie(d:MOk b): ∀ (w:List Int) {t:Int},SOk b t→WOk b.inputs w→z0n (eu a b) (shI a.rows.length t) w=z0n b t w
 | [],_,_,_=>rfl
 |c::w,t,k,l=>by
  obtain⟨i,rfl,hi,hw'⟩:=z6p l
  have g:=z4l b d t (i:Int) k ⟨by omega,by have:=d.i1;omega⟩
  have e:uy (eu a b) (shI a.rows.length t) (i:Int)=⟨shI a.rows.length (uy b t (i:Int)).to,(uy b t (i:Int)).out⟩:=by
   rcases k with rfl|⟨o,p⟩
   ·rfl
   ·have hrow:=d.row t.toNat (by omega)
    unfold shI uy
    rw [if_neg (show¬t= -1 by omega),if_neg (by omega),if_neg (show¬t<0 by omega),show (t+(a.rows.length:Int)).toNat=a.rows.length+t.toNat by omega,z9i (by omega)]
    have j:i<(b.rows.getD t.toNat default).length:=by omega
    have m:((b.rows.getD t.toNat default).map (z88 a.rows.length)).getD (i:Int).toNat default=z88 a.rows.length ((b.rows.getD t.toNat default).getD (i:Int).toNat default):=by
     rw [Int.toNat_natCast,zej j]
    rw [m]
    unfold z88
    have f:=d.edge t.toNat (i:Int).toNat (by omega) (by omega)
    by_cases h:((b.rows.getD t.toNat default).getD (i:Int).toNat default).to= -1
    ·rw [if_pos (by rcases f with f|f;exact f;omega),if_pos h]
     refine zni ⟨h,rfl⟩
    ·rw [if_neg (fun n=>h n.1),if_neg h]
  show (uy (eu a b) (shI a.rows.length t) (i:Int)).out::z0n (eu a b) (uy (eu a b) (shI a.rows.length t) (i:Int)).to w=(uy b t (i:Int)).out::z0n b (uy b t (i:Int)).to w
  rw [e,zie d w g.1 hw']
def zfm(a b:Mach)(w:List Int):Prop:=WOk a.inputs w∧z0n a 0 w≠z0n b 0 w
def zim(a b:Mach)(w:List Int):Prop:=zfm a b w∧ ∀ v,zfm a b v→lle w v
theorem z4z(c:MOk a)(d:MOk b)(hi:a.inputs=b.inputs){w:List Int}:Sep (eu a b) 0 a.rows.length w↔zfm a b w:=by
 unfold Sep zfm
 have f:(eu a b).inputs=a.inputs:=rfl
 rw [f]
 refine and_congr_right fun e=>?_
 have h:=c.r1;have i:=d.r1
 rw [zh6 c w (s:=((0:Nat):Int)) (.inr ⟨by omega,by omega⟩) e]
 have:=zie (a:=a) d w (t:=0) (.inr ⟨by omega,by omega⟩) (by rw [←hi];exact e)
 have g:shI a.rows.length 0=(a.rows.length:Int):=by unfold shI;rw [if_neg (by omega)];omega
 rw [g] at this
 rw [this]
 rfl
end
end GV
end Go.Proofs.YtkkcidhcfkmbjaaGreatDoor
