
import Derived.Test.YtkhihcleegljhaaGreatMat21b
import Derived.Test.YtkhihcleegljhaaGreatShOpens
set_option linter.unusedVariables false
set_option linter.unusedSimpArgs false
namespace Go.Proofs.YtkhihcleegljhaaGreat
namespace GV
set_option maxRecDepth 100000
theorem zlr{N:Nat}(x y:Int):cmp_Compare_int N x y=some (if x<y then-1 else if y<x then 1 else 0):=by
 unfold cmp_Compare_int cmp_isNaN_int
 rw [z9s,z9s,decide_eq_false (fun h=>h rfl),decide_eq_false (fun h=>h rfl)]
 simp only [cond_false]
 by_cases h1:x<y
 ·rw [cz h1,if_pos h1]
 ·rw [bz h1,if_neg h1]
  by_cases h2:y<x
  ·rw [cz h2,if_pos h2]
  ·rw [bz h2,if_neg h2]
theorem zn5{N:Nat}(j:3≤N)(d e:Int):z8m N [d,e]=some (if d≠0 then d else e):=by
 obtain⟨M,rfl⟩: ∃ M,N=M+3:=⟨N-3,by omega⟩
 have a: ∀ d:Int,(0:Int)<([d,e].length:Int):=fun d=>by show (0:Int)<2;decide
 have b: ∀ d:Int,(0:Int)+1<([d,e].length:Int):=fun d=>by show (0:Int)+1<2;decide
 have i: ∀ d:Int,¬((0:Int)+1+1<([d,e].length:Int)):=fun d=>by show¬((0:Int)+1+1<2);decide
 have c: ∀ d:Int,okI [d,e] 0:=fun d=>⟨by decide,a d⟩
 have h: ∀ d:Int,okI [d,e] (0+1):=fun d=>⟨by decide,b d⟩
 unfold z8m
 by_cases hd:d≠0
 ·have:lv (M+3) [d,e] (M+3) 0=some (Ex.rt d):=by
   simp only [lv]
   rw [cz (a d),qc (c d),cz (show ix [d,e] 0≠0 from hd)];rfl
  rw [ji this,if_pos hd];rfl
 ·have f:d=0:=by simpa using hd
  subst f
  rw [if_neg hd]
  by_cases he:e≠0
  ·have:lv (M+3) [0,e] (M+3) 0=some (Ex.rt e):=by
    simp only [lv]
    rw [cz (a 0),qc (c 0),bz (show¬ix [0,e] 0≠0 from hd),qc (jq (by decide)),cz (b 0),qc (h 0),cz (show ix [0,e] (0+1)≠0 from he)];rfl
   rw [ji this];rfl
  ·have:lv (M+3) [0,e] (M+3) 0=some (Ex.go ()):=by
    simp only [lv]
    rw [cz (a 0),qc (c 0),bz (show¬ix [0,e] 0≠0 from hd),qc (jq (by decide)),cz (b 0),qc (h 0),bz (show¬ix [0,e] (0+1)≠0 from he),qc (jq (by decide)),bz (i 0)]
   rw [ji this]
   have g:e=0:=by simpa using he
   rw [g];rfl
theorem zib{N:Nat}{a b:List Int}(f:a.length<N)(g:a.length≤4611686018427387904):ak N a b=some (cmpL a b):=by
 unfold ak cmpL
 by_cases h0:a.length≠b.length
 ·rw [cz (by omega)]
  by_cases h1:a.length<b.length
  ·rw [cz (by omega),if_pos h1]
  ·rw [bz (by omega),if_neg h1,if_pos (by omega)]
 ·rw [bz (by omega),if_neg (by omega),if_neg (by omega)]
  have h:a.length=b.length:=by omega
  have e:yj N a b N 0=some (if z6b a b=0 then Ex.go () else Ex.rt (z6b a b)):=by
   refine z4k (σ:=Unit) (fun F k _=>yj N a b F (k:Int)) a.length (fun k _=>z6b (a.drop k) (b.drop k)=z6b a b) _ (fun F k _ d hi=>?_) (fun F _ hi=>?_) N 0 () (Nat.zero_le _) (by omega) rfl
   ·simp only [yj]
    rw [cz (by omega),qc (jl d),qc (jl (by omega))]
    have c:=zhd d (show k<b.length by omega)
    rw [hi] at c
    by_cases h3:a.getD k default<b.getD k default
    ·left
     refine Eq.trans (cz h3) ?_
     rw [if_pos h3] at c;rw [c];rfl
    ·refine(show _∨_ from ?_)
     rw [if_neg h3] at c
     by_cases h4:b.getD k default<a.getD k default
     ·left
      refine Eq.trans (bz h3) ?_
      rw [qc (jl d),qc (jl (by omega))]
      refine Eq.trans (cz h4) ?_
      rw [if_pos h4] at c;rw [c];rfl
     ·right
      rw [if_neg h4] at c
      refine⟨(),c.symm,Eq.trans (bz h3) ?_⟩
      rw [qc (jl d),qc (jl (by omega))]
      refine Eq.trans (bz h4) ?_
      rw [qc (jq (by omega))];rfl
   ·simp only [yj]
    rw [bz (by omega)]
    have:z6b a b=0:=by rw [←hi,List.drop_of_length_le (Nat.le_refl _)];rfl
    rw [if_pos this]
  rw [ji e]
  by_cases h5:z6b a b=0
  ·rw [if_pos h5,h5];rfl
  ·rw [if_neg h5];rfl
theorem zlx{N:Nat}{a b:List Int}(m:a.length<N)(e:3≤N)(n:a.length≤4611686018427387904):z4r N a b=some (cmpL a b):=by
 unfold z4r
 rw [ji (zlr _ _)]
 have j: ∃ r,z2c N a b=some r∧(a.length=b.length→r=z6b a b):=by
  have l: ∃ r,dw N a b N 0=some r∧(a.length=b.length→r=if z6b a b=0 then Ex.go () else Ex.rt (z6b a b)):=by
   refine z19 (σ:=Unit) (fun F k _=>dw N a b F (k:Int)) a.length (fun k _=>k≤b.length∧(a.length=b.length→z6b (a.drop k) (b.drop k)=z6b a b)) _ (fun F k _ i hi=>?_) (fun F _ hi=>?_) N 0 () (Nat.zero_le _) (by omega) ⟨Nat.zero_le _,fun _=>rfl⟩
   ·simp only [dw]
    rw [cz (by omega),qc (jl i)]
    by_cases hb:b.length≤k
    ·left
     rw [cz (by omega)]
     exact⟨_,rfl,fun c=>by omega⟩
    ·have f:k<b.length:=by omega
     rw [bz (by omega),qc (jl f),ji (zlr _ _)]
     have d:=zhd i f
     by_cases e:a.getD k default<b.getD k default
     ·left
      rw [if_pos e] at d
      rw [if_pos (show ix a (k:Int)<ix b (k:Int) from e),cz (by decide)]
      exact⟨_,rfl,fun c=>by rw [hi.2 c] at d;rw [d];rfl⟩
     ·rw [if_neg e] at d
      by_cases h4:b.getD k default<a.getD k default
      ·left
       rw [if_pos h4] at d
       rw [if_neg (show¬ix a (k:Int)<ix b (k:Int) from e),if_pos (show ix b (k:Int)<ix a (k:Int) from h4),cz (by decide)]
       exact⟨_,rfl,fun c=>by rw [hi.2 c] at d;rw [d];rfl⟩
      ·right
       rw [if_neg h4] at d
       refine⟨(),⟨f,fun c=>by rw [hi.2 c] at d;exact d.symm⟩,?_⟩
       rw [if_neg (show¬ix a (k:Int)<ix b (k:Int) from e),if_neg (show¬ix b (k:Int)<ix a (k:Int) from h4),bz (by decide),qc (jq (by omega))];rfl
   ·simp only [dw]
    rw [bz (by omega)]
    refine⟨_,rfl,fun c=>?_⟩
    have:z6b a b=0:=by rw [←hi.2 c,List.drop_of_length_le (Nat.le_refl _)];rfl
    rw [if_pos this]
  obtain⟨r,g,c⟩:=l
  unfold z2c
  rw [ji g]
  cases r with
  |go u=>
   rw [znb]
   by_cases h1:a.length<b.length
   ·rw [cz (by omega)];exact⟨_,rfl,fun h=>by omega⟩
   ·rw [bz (by omega)]
    refine⟨_,rfl,fun h=>?_⟩
    have:=c h
    by_cases h5:z6b a b=0
    ·exact h5.symm
    ·rw [if_neg h5] at this;cases this
  |rt v=>
   rw [zrh]
   refine⟨_,rfl,fun h=>?_⟩
   have:=c h
   by_cases h5:z6b a b=0
   ·rw [if_pos h5] at this;cases this
   ·rw [if_neg h5] at this;cases this;rfl
 obtain⟨r,g,c⟩:=j
 rw [ji g,ji (zn5 e _ _)]
 unfold cmpL
 by_cases h1:a.length<b.length
 ·rw [if_pos (show (a.length:Int)<(b.length:Int) by omega),if_pos (by decide),if_pos h1]
 ·rw [if_neg (show¬(a.length:Int)<(b.length:Int) by omega),if_neg h1]
  by_cases h2:b.length<a.length
  ·rw [if_pos (show (b.length:Int)<(a.length:Int) by omega),if_pos (by decide),if_pos h2]
  ·rw [if_neg (show¬(b.length:Int)<(a.length:Int) by omega),if_neg (by decide),if_neg h2,c (by omega)]
/-! ### Lists of words-/
def z8o(l:List (List Int))(n:Int):Int:=if 16<n∨4096<l.length then 3 else if n<1 then 1 else((l.map fun w=>z02 w n).find? fun c=>decide (c≠0)).getD 0
theorem zec{X:List Int}{k:Nat}(a:k<X.length)(h: ∀ j,j<k→X.getD j default=0)(b:X.getD k default≠0):(X.find? fun c=>decide (c≠0))=some (X.getD k default):=by
 rw [List.find?_eq_some_iff_getElem]
 have e:X.getD k default=X[k]:=by rw [List.getD_eq_getElem?_getD,List.getElem?_eq_getElem a];rfl
 rw [e] at b⊢
 refine⟨by simpa using b,k,a,rfl,fun j d=>?_⟩
 have:=h j d
 rw [List.getD_eq_getElem?_getD,List.getElem?_eq_getElem (by omega)] at this
 have f:X[j]=0:=this
 simp [f]
theorem zce{X:List Int}(h: ∀ j,j<X.length→X.getD j default=0):(X.find? fun c=>decide (c≠0))=none:=by
 rw [List.find?_eq_none]
 intro x a
 obtain⟨i,hi,rfl⟩:=List.mem_iff_getElem.1 a
 have:=h i hi
 rw [List.getD_eq_getElem?_getD,List.getElem?_eq_getElem hi] at this
 have b:X[i]=0:=this
 simp [b]
theorem zc9{l:List (List Int)}{n:Int}{k:Nat}(a:k<l.length):(l.map fun w=>z02 w n).getD k default=z02 (l.getD k default) n:=by
 rw [List.getD_eq_getElem?_getD,List.getD_eq_getElem?_getD,List.getElem?_map,List.getElem?_eq_getElem a];rfl
structure LSm (l:List (List Int)):Prop where
 n:l.length≤100
structure LSh (l:List (List Int)):Prop extends LSm l where
 w: ∀ k,k<l.length→(l.getD k default).length≤256
theorem LSh.t{l:List (List Int)}(h:LSh l):z7g l l.length≤25600:=by
 have: ∀ n,n≤l.length→z7g l n≤n*256:=by
  intro n
  induction n with
  |zero=>intro _;exact Nat.le_refl _
  |succ n ih=>intro a;have:=ih (by omega);have:=h.w n (by omega);unfold z7g;omega
 have:=this l.length (Nat.le_refl _)
 have:=h.n
 omega
theorem zkj{N:Nat}{w:List Int}{n:Int}(a:5000≤N):z3d N w n=some (z02 w n):=by
 by_cases h:256<w.length
 ·rw [zk3 (.inr h)]
  unfold z3d
  exact ct (by rw [decide_eq_true (show (256:Int)<(w.length:Int) by omega)];simp)
 ·exact zhm (by omega) (by omega)
theorem zlw{l:List (List Int)}{n:Int}(h:z8o l n=0): ∀ k,k<l.length→z02 (l.getD k default) n=0:=by
 unfold z8o at h
 intro k a
 by_cases h1:16<n∨4096<l.length
 ·rw [if_pos h1] at h;cases h
 rw [if_neg h1] at h
 by_cases h2:n<1
 ·rw [if_pos h2] at h;cases h
 rw [if_neg h2] at h
 cases hf:(l.map fun w=>z02 w n).find? (fun c=>decide (c≠0)) with
 |some c=>
  rw [hf] at h
  have:=List.find?_some hf
  simp only [Option.getD_some] at h
  rw [h] at this;simp at this
 |none=>
  have:=List.find?_eq_none.1 hf (z02 (l.getD k default) n) (by rw [List.mem_map];exact⟨_,z2u a,rfl⟩)
  simpa using this
theorem LSm.short{l:List (List Int)}{n:Int}(h:LSm l)(a:z8o l n=0):LSh l:=⟨h,fun k b=>(zbo (zlw a k b)).2⟩
theorem zob{N:Nat}{l:List (List Int)}{n:Int}(d:LSm l)(f:5000≤N):z7o N l n=some (z8o l n):=by
 have i:=d.n
 unfold z7o z8o
 by_cases h0:16<n∨4096<l.length
 ·rw [ct (by
   rcases h0 with h|h
   ·rw [decide_eq_true h];rfl
   ·rw [decide_eq_true (show (4096:Int)<(l.length:Int) by omega)];simp),if_pos h0]
 ·rw [cf (by rw [decide_eq_false (by omega),decide_eq_false (by omega)];rfl),if_neg h0]
  by_cases h2:n<1
  ·rw [cz h2,if_pos h2]
  ·rw [bz h2,if_neg h2]
   have g:z0g N l n N 0=some (match (l.map fun w=>z02 w n).find? (fun c=>decide (c≠0)) with|some c=>Ex.rt c|none=>Ex.go ()):=by
    refine z4k (σ:=Unit) (fun F k _=>z0g N l n F (k:Int)) l.length (fun k _=> ∀ j,j<k→(l.map fun w=>z02 w n).getD j default=0) _ (fun F k _ a hi=>?_) (fun F _ hi=>?_) N 0 () (Nat.zero_le _) (by omega) (fun j b=>absurd b (by omega))
    ·simp only [z0g]
     rw [cz (by omega),qc (jl a),xk,ji (zkj f)]
     by_cases hc:z02 (l.getD k default) n≠0
     ·left
      rw [cz hc,zec (k:=k) (by rw [List.length_map];exact a) hi (by rw [zc9 a];exact hc),zc9 a]
     ·right
      refine⟨(),fun j b=>?_,by rw [bz hc,qc (jq (by omega))];rfl⟩
      by_cases e:j=k
      ·subst e;rw [zc9 a];simpa using hc
      ·exact hi j (by omega)
    ·simp only [z0g]
     rw [bz (by omega),zce (by rw [List.length_map];exact hi)]
   rw [ji g]
   cases (l.map fun w=>z02 w n).find? (fun c=>decide (c≠0))<;>rfl
def zkz(l:List (List Int)):Bool:=(List.range (l.length-1)).any fun i=>decide (0≤cmpL (l.getD i default) (l.getD (i+1) default))
theorem zsl{ρ:Type}(L:Nat→Int→Option ρ)(n:Nat)(p:Nat→Bool)(a b:ρ)(c: ∀ F (k:Nat),k+1<n→p k=true→L (F+1) ((k:Int)+1)=some b)(skip: ∀ F (k:Nat),k+1<n→p k=false→L (F+1) ((k:Int)+1)=L F ((k:Int)+1+1))(fin: ∀ F (k:Int),(n:Int)≤k→L (F+1) k=some a){F:Nat}(f:n<F):
 L F 1=some (bif (List.range (n-1)).any p then b else a):=by
 have:=zc6 (fun F k=>L F ((k:Int)+1)) (n-1) p a b (fun F k e d=>c F k (by omega) d) (fun F k e d=>skip F k (by omega) d) (fun F=>fin F _ (by omega)) (F:=F) (by omega)
 exact this
theorem zpb{N:Nat}{l:List (List Int)}(a:LSh l)(g:5000≤N):z7r N l=some (!zkz l):=by
 have h:=a.n
 have e:z00 N l N 1=some (bif zkz l then Ex.rt false else Ex.go ()):=by
  refine zsl (fun F k=>z00 N l F k) l.length _ _ _ (fun F k b c=>?_) (fun F k b c=>?_) (fun F k b=>?_) (by omega)
  ·have f:=a.w k (by omega)
   have d:=a.w (k+1) (by omega)
   simp only [z00]
   rw [cz (by omega),qc (jq (by omega)),show (k:Int)+1-1=(k:Int) by omega,qc (jl (by omega)),zjb,qc (jl b),xk,xk,ji (zlx (by omega) (by omega) (by omega))]
   exact ct c
  ·have f:=a.w k (by omega)
   have d:=a.w (k+1) (by omega)
   simp only [z00]
   rw [cz (by omega),qc (jq (by omega)),show (k:Int)+1-1=(k:Int) by omega,qc (jl (by omega)),zjb,qc (jl b),xk,xk,ji (zlx (by omega) (by omega) (by omega))]
   exact(cf c).trans (by rw [qc (jq (by omega))])
  ·simp only [z00]
   rw [bz (by omega)]
 unfold z7r
 rw [ji e]
 cases zkz l<;>rfl
theorem zop{N:Nat}{l:List (List Int)}(a:LSh l)(d:5000≤N):z7q N l=some (z7g l l.length:Int):=by
 have e:=a.n
 have f:=a.t
 have c:z0h N l N 0 0=some (z7g l l.length:Int):=by
  refine z4l (fun F k s=>z0h N l F s (k:Int)) l.length (fun k=>(z7g l k:Int)) _ (fun F k b=>?_) (fun F=>?_) (by omega)
  ·have g:z7g l (k+1)≤z7g l l.length:=zeb _ _ b
   have hm':z7g l (k+1)=z7g l k+(l.getD k default).length:=rfl
   simp only [z0h]
   rw [cz (by omega),qc (jl b),xk,qc (jq (by omega)),qc (jq (by omega))]
   congr 1
  ·simp only [z0h]
   rw [bz (by omega)]
 unfold z7q
 rw [ji c]
def zbr(l:List (List Int))(n:Int):Int:=if z8o l n≠0 then z8o l n else if zkz l=true then 1 else 0
theorem zm9{N:Nat}{l:List (List Int)}{n:Int}(a:LSm l)(b:5000≤N):z7p N l n=some (zbr l n):=by
 unfold z7p zbr
 rw [ji (zob a b)]
 by_cases h:z8o l n≠0
 ·rw [cz h,if_pos h]
 ·have a:=a.short (n:=n) (by simpa using h)
  have c:=a.t
  rw [bz h,if_neg h,ji (zpb a b)]
  cases ho:zkz l with
  |true=>rw [if_pos rfl];rfl
  |false=>
   rw [if_neg (by decide)]
   refine(cf rfl).trans ?_
   rw [ji (zop a b),bz (by omega)]
end GV
end Go.Proofs.YtkhihcleegljhaaGreat

namespace Go.Proofs.YtkhihcleegljhaaGreat
namespace GV
set_option maxRecDepth 100000
theorem zfm{ρ:Type}(L:Nat→Nat→Option ρ)(n:Nat)(p:Nat→Bool)(f:ρ)(g:Nat→ρ)(d: ∀ F k,k<n→p k=true→L (F+1) k=some (g k))(skip: ∀ F k,k<n→p k=false→L (F+1) k=L F (k+1))(fin: ∀ F,L (F+1) n=some f){F:Nat}(h:n<F):
 L F 0=some (match (List.range n).find? p with|some k=>g k|none=>f):=by
 refine z4k (σ:=Unit) (fun F k _=>L F k) n (fun k _=> ∀ j,j<k→p j=false) _ (fun F k s a b=>?_) (fun F s b=>?_) F 0 () (Nat.zero_le _) (by omega) (fun j c=>absurd c (by omega))
 ·cases hp:p k with
  |true=>
   left
   have:(List.range n).find? p=some k:=by
    rw [List.find?_eq_some_iff_getElem]
    exact⟨hp,k,by simpa using a,by simp,fun j c=>by rw [List.getElem_range,b j c];rfl⟩
   rw [this];exact d F k a hp
  |false=>
   right
   refine⟨(),fun j c=>?_,skip F k a hp⟩
   by_cases e:j=k
   ·subst e;exact hp
   ·exact b j (by omega)
 ·have:(List.range n).find? p=none:=by
   rw [List.find?_eq_none];intro k a;rw [b k (List.mem_range.1 a)];simp
  rw [this];exact fin F
def zme(a b:List Int)(i:Nat):Bool:=decide (ix a (i:Int)≠ix b (i:Int))
def zh7(a b:List Int):Int:=match (List.range a.length).find? (zme a b) with|some i=>(i:Int)|none=> -1
def zdw(m t:Mach)(w:List Int):Int:=zh7 (z4z m 0 w) (z4z t 0 w)
theorem zoa{N:Nat}{m:Mach}{w:List Int}(a:MOk m)(b:z02 w m.inputs=0)(d:5000≤N):z3i N m 0 w=some (z4z m 0 w,0):=by
 have h:=zbo b
 have e:=a.r1
 have c:z9u m 0=0:=by
  unfold z9u
  rw [if_neg (by rw [(z4y m).2 a];decide),if_neg (by omega)]
 rw [zsd a.small (by omega) (by omega) (by omega)]
 unfold zsc zsa
 rw [if_neg (by rw [c];decide),if_neg (by rw [b];decide),if_neg (by rw [c];decide),b]
theorem zpq{N:Nat}{m t:Mach}{w:List Int}(g:MOk m)(h:MOk t)(hi:t.inputs=m.inputs)(c:z02 w m.inputs=0)(f:5000≤N):z4q N m t w=some (zdw m t w):=by
 have n:=(zbo c).2
 have i:=z3e m 0 w
 have j:=z3e t 0 w
 unfold z4q
 rw [ji (zoa g c f),ji (zoa h (by rw [hi];exact c) f)]
 unfold zdw zh7
 generalize z4z m 0 w=a at i⊢
 generalize z4z t 0 w=b at j⊢
 have l:ai N (a,0) (b,0) N 0=some (match (List.range a.length).find? (zme a b) with|some k=>Ex.rt (k:Int)|none=>Ex.go ()):=by
  refine zfm (fun F k=>ai N (a,0) (b,0) F (k:Int)) a.length _ _ _ (fun F k d e=>?_) (fun F k d e=>?_) (fun F=>?_) (by omega)
  ·simp only [ai]
   rw [cz (by show (k:Int)<(a.length:Int);omega),qc (jl (X:=a) d),qc (jl (X:=b) (by omega))]
   exact ct e
  ·simp only [ai]
   rw [cz (by show (k:Int)<(a.length:Int);omega),qc (jl (X:=a) d),qc (jl (X:=b) (by omega))]
   exact(cf e).trans (by rw [qc (jq (by omega))];rfl)
  ·simp only [ai]
   rw [bz (by show¬(a.length:Int)<(a.length:Int);omega)]
 rw [ji l]
 cases (List.range a.length).find? (zme a b)<;>rfl
theorem zpi{N:Nat}{m t:Mach}{w:List Int}(e:MOk m)(f:MOk t)(hi:t.inputs=m.inputs)(g:z02 w m.inputs=0)(o:5000≤N):z1y N m t w=some (zdw m t w):=by
 have h:=zbo g
 have p:=e.r1
 have i:=f.r1
 have j:=z3e m 0 w
 have l:=z3e t 0 w
 unfold z1y
 rw [ji (zln e (.inr ⟨by omega,by omega⟩) h.1 (by omega) (by omega)),ji (zln f (.inr ⟨by omega,by omega⟩) (by rw [hi];exact h.1) (by omega) (by omega))]
 unfold zdw zh7
 generalize z4z m 0 w=a at j⊢
 generalize z4z t 0 w=b at l⊢
 have n:xc N a b N 0=some (match (List.range a.length).find? (zme a b) with|some k=>Ex.rt (k:Int)|none=>Ex.go ()):=by
  refine zfm (fun F k=>xc N a b F (k:Int)) a.length _ _ _ (fun F k c d=>?_) (fun F k c d=>?_) (fun F=>?_) (by omega)
  ·simp only [xc]
   rw [cz (by omega),qc (jl c),qc (jl (by omega))]
   exact ct d
  ·simp only [xc]
   rw [cz (by omega),qc (jl c),qc (jl (by omega))]
   exact(cf d).trans (by rw [qc (jq (by omega))];rfl)
  ·simp only [xc]
   rw [bz (by omega)]
 rw [ji n]
 cases (List.range a.length).find? (zme a b)<;>rfl
/-! ### Kill-/
def zas(m t:Mach)(l:List (List Int)):List Int:=z4g l.length 0 (fun k=>zdw m t (l.getD k default)) l.length
def z5m(m:Mach)(ts:List Mach)(l:List (List Int)):List (List Int):=z4g ts.length [] (fun i=>zas m (ts.getD i default) l) ts.length
def zb0(m t:Mach):Int:=if z1q t≠0 then z1q t else if t.inputs≠m.inputs then 5 else 0
def zd3(m:Mach)(ts:List Mach)(l:List (List Int)):Int:=if z1q m≠0 then z1q m else match (ts.map (zb0 m)).find? (fun c=>decide (c≠0)) with|some c=>c|none=>zbr l m.inputs
structure KSm (m:Mach) (ts:List Mach) (l:List (List Int)):Prop where
 m:Small m
 n:ts.length≤20
 t: ∀ k,k<ts.length→Small (ts.getD k default)
 l:LSm l
theorem z8h{ts:List Mach}{m:Mach}{k:Nat}(a:k<ts.length):(ts.map (zb0 m)).getD k default=zb0 m (ts.getD k default):=by
 rw [List.getD_eq_getElem?_getD,List.getD_eq_getElem?_getD,List.getElem?_map,List.getElem?_eq_getElem a];rfl
theorem zld{l:List (List Int)}{n:Int}(h:zbr l n=0): ∀ k,k<l.length→z02 (l.getD k default) n=0:=by
 unfold zbr at h
 by_cases h1:z8o l n≠0
 ·rw [if_pos h1] at h;exact absurd h h1
 ·exact zlw (by simpa using h1)
theorem zqi{m t:Mach}(h:zb0 m t=0):MOk t∧t.inputs=m.inputs:=by
 unfold zb0 at h
 by_cases h1:z1q t≠0
 ·rw [if_pos h1] at h;exact absurd h h1
 ·rw [if_neg h1] at h
  by_cases h2:t.inputs≠m.inputs
  ·rw [if_pos h2] at h;cases h
  ·exact⟨(z4y t).1 (by simpa using h1),by simpa using h2⟩
theorem zi9{Y:List (List Int)}{i k:Nat}{A:List Int}{y:Int}(hi:i<Y.length):(Y.set i A).set i (((Y.set i A).getD i default).set k y)=Y.set i (A.set k y):=by
 rw [z3f hi,if_pos rfl,List.set_set]
theorem zm5{N:Nat}{m:Mach}{ts:List Mach}{l:List (List Int)}(h:KSm m ts l)(c:5000≤N)(d:MOk m)(e: ∀ k,k<ts.length→MOk (ts.getD k default)∧(ts.getD k default).inputs=m.inputs)(g: ∀ k,k<l.length→z02 (l.getD k default) m.inputs=0):
 sj N m ts l N 0 (mk (ts.length:Int) ([]:List Int))=some (z5m m ts l):=by
 have p:=h.n
 have q:=h.l.n
 rw [zek,zd8 (f:=fun i=>zas m (ts.getD i default) l)]
 refine z4l (fun F i s=>sj N m ts l F (i:Int) s) ts.length (fun i=>z4g ts.length [] (fun i=>zas m (ts.getD i default) l) i) _ (fun F i hi=>?_) (fun F=>?_) (by omega)
 ·obtain⟨j,o⟩:=e i hi
  have hlen:(z4g ts.length [] (fun i=>zas m (ts.getD i default) l) i).length=ts.length:=z6y
  generalize hY:z4g ts.length [] (fun i=>zas m (ts.getD i default) l) i=Y at hlen
  have a:r9 N m ts l (i:Int) N 0 (Y.set i (mk (l.length:Int) (0:Int)))=some (Y.set i (zas m (ts.getD i default) l)):=by
   rw [zek,zd8 (f:=fun k=>zdw m (ts.getD i default) (l.getD k default))]
   refine z4l (fun F k s=>r9 N m ts l (i:Int) F (k:Int) s) l.length (fun k=>Y.set i (z4g l.length 0 (fun k=>zdw m (ts.getD i default) (l.getD k default)) k)) _ (fun F k b=>?_) (fun F=>?_) (by omega)
   ·simp only [r9]
    rw [cz (by omega),qc (jl b),qc (jl (by rw [List.length_set];omega)),xk,xk,ji (zpq d j o (g k b) c),qc (jl (by rw [xk,z3f (by omega),if_pos rfl,z6y];exact b)),qc (jq (by omega)),zb7,zb7,xk,zi9 (by omega),←ze5 (k:=k)]
    rfl
   ·simp only [r9]
    rw [bz (by omega)];rfl
  simp only [sj]
  rw [cz (by omega),qc (jl hi),qc ⟨by omega,by omega,by omega⟩,qc (jl (by omega)),zb7,ji a,qc (jq (by omega)),←hY,←ze5 (k:=i)]
  rfl
 ·simp only [sj]
  rw [bz (by omega)];rfl
theorem zqa{N:Nat}{m:Mach}{ts:List Mach}{l:List (List Int)}(h:KSm m ts l)(i:5000≤N):z2s N m ts l=some (if zd3 m ts l≠0 then(⟨[]⟩,zd3 m ts l) else(⟨z5m m ts l⟩,0)):=by
 have p:=h.n
 have q:=h.l.n
 unfold z2s zd3
 rw [ji (ze8 h.m (by omega))]
 by_cases hc:z1q m≠0
 ·rw [cz hc,if_pos hc,if_pos hc]
 ·rw [bz hc,if_neg hc,bz (by omega)]
  have r:rq N m ts N 0=some (match (ts.map (zb0 m)).find? (fun c=>decide (c≠0)) with|some c=>Ex.rt (⟨[]⟩,c)|none=>Ex.go ()):=by
   refine z4k (σ:=Unit) (fun F k _=>rq N m ts F (k:Int)) ts.length (fun k _=> ∀ j,j<k→(ts.map (zb0 m)).getD j default=0) _ (fun F k _ a hi=>?_) (fun F _ hi=>?_) N 0 () (Nat.zero_le _) (by omega) (fun j o=>absurd o (by omega))
   ·have s:=h.t k a
    simp only [rq]
    rw [cz (by omega),qc (jl a),ji (show z1c N ⟨(ix ts (k:Int)).inputs,(ix ts (k:Int)).outputs,(ix ts (k:Int)).rows⟩=some (z1q (ts.getD k default)) from ze8 s (by omega))]
    by_cases c1:z1q (ts.getD k default)≠0
    ·left
     have e:zb0 m (ts.getD k default)=z1q (ts.getD k default):=if_pos c1
     rw [cz c1,zec (k:=k) (by rw [List.length_map];exact a) hi (by rw [z8h a,e];exact c1),z8h a,e]
    ·rw [bz c1]
     by_cases c2:(ts.getD k default).inputs≠m.inputs
     ·left
      have e:zb0 m (ts.getD k default)=5:=by unfold zb0;rw [if_neg c1,if_pos c2]
      rw [cz (show (ix ts (k:Int)).inputs≠m.inputs from c2),zec (k:=k) (by rw [List.length_map];exact a) hi (by rw [z8h a,e];decide),z8h a,e]
     ·right
      have e:zb0 m (ts.getD k default)=0:=by unfold zb0;rw [if_neg c1,if_neg c2]
      refine⟨(),fun j o=>?_,by rw [bz (show¬(ix ts (k:Int)).inputs≠m.inputs from c2),qc (jq (by omega))];rfl⟩
      by_cases e':j=k
      ·subst e';rw [z8h a];exact e
      ·exact hi j (by omega)
   ·simp only [rq]
    rw [bz (by omega),zce (by rw [List.length_map];exact hi)]
  rw [ji r]
  cases hf:(ts.map (zb0 m)).find? (fun c=>decide (c≠0)) with
  |some c=>
   have b:c≠0:=by have:=List.find?_some hf;simpa using this
   dsimp only
   rw [zrh,if_pos b]
  |none=>
   dsimp only
   rw [znb,ji (zm9 h.l i)]
   by_cases ht:zbr l m.inputs≠0
   ·rw [cz ht,if_pos ht]
   ·have hmul:(ts.length:Int)*(l.length:Int)≤20*100:=by
     have:ts.length*l.length≤20*100:=Nat.mul_le_mul p q
     exact_mod_cast this
    have d:0≤(ts.length:Int)*(l.length:Int):=Int.mul_nonneg (by omega) (by omega)
    have u:MOk m:=(z4y m).1 (by simpa using hc)
    have f: ∀ k,k<ts.length→MOk (ts.getD k default)∧(ts.getD k default).inputs=m.inputs:=fun k a=>by
     have:=List.find?_eq_none.1 hf (zb0 m (ts.getD k default)) (by rw [List.mem_map];exact⟨_,z2u a,rfl⟩)
     exact zqi (by simpa using this)
    have g:=zld (l:=l) (n:=m.inputs) (by simpa using ht)
    rw [bz ht,if_neg ht,qc (jq (by omega)),bz (by omega),qc ⟨by omega,by omega,by omega⟩,ji (zm5 h i u f g)]
theorem zew{α:Type}{n:Nat}{d:α}{f:Nat→α}:z4g n d f n=(List.range n).map f:=by
 apply List.ext_getElem
 ·simp [z4g]
 ·intro i a b
  simp only [z4g,List.length_map,List.length_range] at a
  simp [z4g,a]
theorem zph{N:Nat}{m:Mach}{ts:List Mach}{l:List (List Int)}(h:KSm m ts l)(o:5000≤N)(a:zd3 m ts l=0):z13 N m ts l=some ⟨z5m m ts l⟩:=by
 have t:=h.n
 have u:=h.l.n
 unfold zd3 at a
 have b: ¬z1q m≠0:=by intro b;rw [if_pos b] at a;exact b a
 rw [if_neg b] at a
 have p:MOk m:=(z4y m).1 (by simpa using b)
 cases hf:(ts.map (zb0 m)).find? (fun c=>decide (c≠0)) with
 |some c=>rw [hf] at a;have:=List.find?_some hf;simp only at a;rw [a] at this;simp at this
 |none=>
  rw [hf] at a
  have e: ∀ k,k<ts.length→MOk (ts.getD k default)∧(ts.getD k default).inputs=m.inputs:=fun k d=>by
   have:=List.find?_eq_none.1 hf (zb0 m (ts.getD k default)) (by rw [List.mem_map];exact⟨_,z2u d,rfl⟩)
   exact zqi (by simpa using this)
  have f:=zld (l:=l) (n:=m.inputs) a
  have g: ∀ i,i<ts.length→dz N m ts l (i:Int) N 0 []=some (zas m (ts.getD i default) l):=fun i hi=>by
   obtain⟨q,r⟩:=e i hi
   unfold zas
   rw [zew]
   refine z4l (fun F k s=>dz N m ts l (i:Int) F (k:Int) s) l.length (fun k=>(List.range k).map fun k=>zdw m (ts.getD i default) (l.getD k default)) _ (fun F k d=>?_) (fun F=>?_) (by omega)
   ·simp only [dz]
    rw [cz (by omega),qc (jl hi),qc (jl d),xk,xk,ji (zpi p q r (f k d) o),qc ⟨by simp only [List.length_singleton,List.length_map,List.length_range];omega,by simp only [List.length_singleton,List.length_map,List.length_range];omega⟩,qc (jq (by omega)),List.range_succ,List.map_append];rfl
   ·simp only [dz]
    rw [bz (by omega)]
  have j:pu N m ts l N 0 []=some (z5m m ts l):=by
   unfold z5m
   rw [zew]
   refine z4l (fun F i s=>pu N m ts l F (i:Int) s) ts.length (fun i=>(List.range i).map fun i=>zas m (ts.getD i default) l) _ (fun F i hi=>?_) (fun F=>?_) (by omega)
   ·simp only [pu]
    rw [cz (by omega),ji (g i hi),qc ⟨by simp only [List.length_singleton,List.length_map,List.length_range];omega,by simp only [List.length_singleton,List.length_map,List.length_range];omega⟩,qc (jq (by omega)),List.range_succ,List.map_append];rfl
   ·simp only [pu]
    rw [bz (by omega)]
  unfold z13
  rw [ji j]
theorem zmb{N:Nat}{X:List (List Int)}(d:X.length≤1000)(b: ∀ k,k<X.length→(X.getD k default).length≤4000)(e:5000≤N):z10 N X X=some true:=by
 have c:dh N X X N 0=some (Ex.go ()):=by
  refine z4l (σ:=Unit) (fun F k _=>dh N X X F (k:Int)) X.length (fun _=>()) _ (fun F k a=>?_) (fun F=>?_) (by omega)
  ·have:=b k a
   simp only [dh]
   rw [cz (by omega),qc (jl a),qc (jl a),xk,ji (zib (by omega) (by omega)),(cmpL_eq _ _).2 rfl,bz (by decide),qc (jq (by omega))];rfl
  ·simp only [dh]
   rw [bz (by omega)]
 unfold z10
 rw [bz (by omega),ji c];rfl
theorem zkc{N:Nat}{X:List (List Int)}(a:X.length≤1000)(b: ∀ k,k<X.length→(X.getD k default).length≤4000)(c:5000≤N):iy N ⟨X⟩ ⟨X⟩=some true:=by
 unfold iy
 rw [ji (zmb a b c)]
end GV
end Go.Proofs.YtkhihcleegljhaaGreat

namespace Go.Proofs.YtkhihcleegljhaaGreat
namespace GV
set_option maxRecDepth 100000
theorem zg4{α:Type}[Inhabited α]{z y:List α}{j:Nat}(h:j<z.length):(z++y).getD j default=z.getD j default:=by
 rw [List.getD_eq_getElem?_getD,List.getD_eq_getElem?_getD,List.getElem?_append_left h]
theorem zke{α:Type}[Inhabited α]{z:List α}{v:α}:(z++[v]).getD z.length default=v:=by
 rw [List.getD_eq_getElem?_getD,List.getElem?_append_right (Nat.le_refl _),Nat.sub_self];rfl
/-! ### the order of words-/
def cL(a b:List Int):Prop:=cmpL a b<0
theorem zg8: ∀ {a b c:List Int},a.length=b.length→b.length=c.length→z6b a b<0→z6b b c<0→z6b a c<0
 | [],b,c,d,f,h,_=>by simp [z6b] at h
 |x::a,[],c,d,f,h,_=>by simp at d
 |x::a,y::b,[],d,f,h,_=>by simp at f
 |x::a,y::b,z::c,d,f,h,k=>by
  unfold z6b at h k⊢
  by_cases e1:x<y
  ·by_cases e2:y<z
   ·rw [if_pos (by omega)];decide
   ·rw [if_neg e2] at k
    by_cases e3:z<y
    ·rw [if_pos e3] at k;exact absurd k (by decide)
    ·rw [if_pos (by omega)];decide
  ·rw [if_neg e1] at h
   by_cases e2:y<x
   ·rw [if_pos e2] at h;exact absurd h (by decide)
   ·rw [if_neg e2] at h
    have e:x=y:=by omega
    subst e
    by_cases e3:x<z
    ·rw [if_pos e3];decide
    ·rw [if_neg e3] at k⊢
     by_cases e4:z<x
     ·rw [if_pos e4] at k;exact absurd k (by decide)
     ·rw [if_neg e4] at k⊢
      exact zg8 (by simpa using d) (by simpa using f) h k
theorem zhj: ∀ (a b:List Int),z6b b a= -z6b a b
 | [],[]=>rfl
 | [],y::b=>rfl
 |x::a,[]=>rfl
 |x::a,y::b=>by
  unfold z6b
  by_cases h1:x<y
  ·rw [if_neg (by omega),if_pos h1,if_pos h1];rfl
  ·by_cases h2:y<x
   ·rw [if_pos h2,if_neg h1,if_pos h2]
   ·rw [if_neg h2,if_neg h1,if_neg h1,if_neg h2];exact zhj a b
theorem zma(a b:List Int):cmpL b a= -cmpL a b:=by
 unfold cmpL
 by_cases h1:a.length<b.length
 ·rw [if_neg (by omega),if_pos h1,if_pos h1];rfl
 ·by_cases h2:b.length<a.length
  ·rw [if_pos h2,if_neg h1,if_pos h2]
  ·rw [if_neg h2,if_neg h1,if_neg h1,if_neg h2];exact zhj a b
theorem zft{a b c:List Int}(h:cL a b)(k:cL b c):cL a c:=by
 unfold cL cmpL at*
 by_cases h1:a.length<b.length
 ·by_cases k1:b.length<c.length
  ·rw [if_pos (by omega)];decide
  ·rw [if_neg k1] at k
   by_cases k2:c.length<b.length
   ·rw [if_pos k2] at k;exact absurd k (by decide)
   ·rw [if_pos (by omega)];decide
 ·rw [if_neg h1] at h
  by_cases h2:b.length<a.length
  ·rw [if_pos h2] at h;exact absurd h (by decide)
  ·rw [if_neg h2] at h
   by_cases k1:b.length<c.length
   ·rw [if_pos (by omega)];decide
   ·rw [if_neg k1] at k
    by_cases k2:c.length<b.length
    ·rw [if_pos k2] at k;exact absurd k (by decide)
    ·rw [if_neg k2] at k
     rw [if_neg (by omega),if_neg (by omega)]
     exact zg8 (by omega) (by omega) h k
def SL(l:List (List Int)):Prop:= ∀ i j,i<j→j<l.length→cL (l.getD i default) (l.getD j default)
theorem SL.ord{l:List (List Int)}(h:SL l):zkz l=false:=by
 unfold zkz
 rw [z81]
 intro k a
 have:cmpL (l.getD k default) (l.getD (k+1) default)<0:=h k (k+1) (by omega) (by omega)
 exact decide_eq_false (by omega)
theorem zbn{Y:List (List Int)}{k j:Nat}{v:List Int}(h:j≠k):(Y.set k v).getD j default=Y.getD j default:=by
 rw [List.getD_eq_getElem?_getD,List.getD_eq_getElem?_getD,List.getElem?_set,if_neg (fun e=>h e.symm)]
theorem zi8{Y:List (List Int)}{k:Nat}{v:List Int}(h:k<Y.length):(Y.set k v).getD k default=v:=by
 rw [List.getD_eq_getElem?_getD,List.getElem?_set,if_pos rfl,if_pos h];rfl
theorem zoo{l:List (List Int)}{w:List Int}(p:l.length≤100)(g: ∀ k,k<l.length→(l.getD k default).length≤300)(f:SL l): ∀ (F a b:Nat),a≤b→b≤l.length→(∀ j,j<a→cL (l.getD j default) w)→(∀ j,b≤j→j<l.length→ ¬cL (l.getD j default) w)→b-a<F→
 ∃ o:Nat,xw 5000 l w F (a:Int) (b:Int)=some (o:Int)∧o≤l.length∧(∀ j,j<o→cL (l.getD j default) w)∧ ∀ j,o≤j→j<l.length→ ¬cL (l.getD j default) w
 |0,a,b,_,_,_,_,h=>by omega
 |F+1,a,b,t,q,r,s,z=>by
  simp only [xw]
  by_cases e:a=b
  ·subst e
   rw [bz (by omega)];exact⟨a,rfl,q,r,s⟩
  ·have u:((a:Int)+(b:Int))/2=(((a+b)/2:Nat):Int):=by omega
   have v:(a+b)/2<b:=by omega
   have i:a≤(a+b)/2:=by omega
   have c:(a+b)/2<l.length:=by omega
   have x:=g _ c
   rw [cz (by omega),qc (jq (by omega)),qc ⟨by omega,by omega,by omega⟩,u]
   generalize (a+b)/2=m at*
   rw [qc (jl c),xk,ji (zib (by omega) (by omega))]
   by_cases hc:cmpL (l.getD m default) w<0
   ·rw [cz hc,qc (jq (by omega))]
    refine zoo p g f F (m+1) b (by omega) q (fun j y=>?_) s (by omega)
    by_cases ej:j=m
    ·subst ej;exact hc
    ·exact zft (f j m (by omega) c) hc
   ·rw [bz hc]
    refine zoo p g f F a m i (by omega) r (fun j y n d=>?_) (by omega)
    by_cases ej:j=m
    ·subst ej;exact hc d
    ·exact hc (zft (f m j (by omega) n) d)
theorem zp5{l:List (List Int)}{o:Nat}(f:l.length≤100): ∀ (F p:Nat) (Y:List (List Int)),o≤p→p≤l.length→Y.length=l.length+1→(∀ j,j<p→Y.getD j default=l.getD j default)→(∀ j,p<j→j≤l.length→Y.getD j default=l.getD (j-1) default)→p-o<F→
 ∃ Z:List (List Int),eu 5000 (o:Int) F (p:Int) Y=some Z∧Z.length=l.length+1∧(∀ j,j<o→Z.getD j default=l.getD j default)∧ ∀ j,o<j→j≤l.length→Z.getD j default=l.getD (j-1) default
 |0,p,Y,_,_,_,_,_,h=>by omega
 |F+1,p,Y,k,m,c,a,d,n=>by
  simp only [eu]
  by_cases e:o=p
  ·subst e
   rw [bz (by omega)];exact⟨Y,rfl,c,a,d⟩
  ·have g:(p:Int)-1=((p-1:Nat):Int):=by omega
   rw [cz (by omega),qc (jq (by omega)),g,qc (jl (by omega)),qc (jl (by omega)),qc (jq (by omega)),xk,zb7,a _ (by omega)]
   refine zp5 f F (p-1) _ (by omega) (by omega) (by rw [List.length_set];exact c) (fun j i=>by rw [zbn (by omega)];exact a j (by omega)) (fun j i b=>?_) (by omega)
   by_cases ej:j=p
   ·subst ej;exact zi8 (by omega)
   ·rw [zbn ej];exact d j (by omega) b
theorem zs3{P:List Int→Prop}{l:List (List Int)}{w:List Int}(u: ∀ z,P z→z.length≤300)(I:l.length≤99)(d: ∀ k,k<l.length→P (l.getD k default))(f:P w)(g:SL l): ∃ r,z1l 5000 l w=some r∧SL r∧r.length≤l.length+1∧ ∀ k,k<r.length→P (r.getD k default):=by
 obtain⟨o,E,F,C,G⟩:=zoo (w:=w) (by omega) (fun k p=>u _ (d k p)) g 5000 0 l.length (Nat.zero_le _) (Nat.le_refl _) (fun j a=>by omega) (fun j a b=>by omega) (by omega)
 have H:=u _ f
 unfold z1l
 rw [ji (show xw 5000 l w 5000 0 (l.length:Int)=_ from E)]
 by_cases hlt:o<l.length
 ·have v:(true&&(decide ((o:Int)<(l.length:Int))==true))=true:=by rw [decide_eq_true (show (o:Int)<(l.length:Int) by omega)];rfl
  rw [qc (fun _=>jl hlt),xk,zib (by have:=u _ (d o hlt);omega) (by have:=u _ (d o hlt);omega),zj0 v,Option.map_some,z9s,decide_eq_true (show (o:Int)<(l.length:Int) by omega)]
  by_cases hz:cmpL (l.getD o default) w=0
  ·refine⟨l,ct (by rw [decide_eq_true (show (some (cmpL (l.getD o default) w)).getD default=0 from hz)];rfl),g,by omega,d⟩
  ·rw [cf (by rw [decide_eq_false (show¬(some (cmpL (l.getD o default) w)).getD default=0 from hz)];rfl)]
   have x:=G o (Nat.le_refl _) hlt
   have q:cL w (l.getD o default):=by
    unfold cL at x⊢
    rw [zma];omega
   obtain⟨Z,y,s,A,D⟩:=zp5 (l:=l) (o:=o) (by omega) 5000 l.length (l++[[]]) (by omega) (Nat.le_refl _) (by simp) (fun j a=>by rw [zg4 a]) (fun j a b=>by omega) (by omega)
   have el:((l++([[]]:List (List Int))).length:Int)-1=(l.length:Int):=by simp
   rw [qc ⟨by simp only [List.length_singleton];omega,by simp only [List.length_singleton];omega⟩,qc (jq (by rw [el];omega)),el,ji y,qc ⟨by simp only [List.length_nil];omega,by simp only [List.length_nil];omega⟩,qc (jl (by omega)),List.nil_append,zb7]
   have m: ∀ j,j<o→(Z.set o w).getD j default=l.getD j default:=fun j a=>by rw [zbn (by omega)];exact A j a
   have n:(Z.set o w).getD o default=w:=zi8 (by omega)
   have t: ∀ j,o<j→j≤l.length→(Z.set o w).getD j default=l.getD (j-1) default:=fun j a b=>by rw [zbn (by omega)];exact D j a b
   refine⟨_,rfl,fun i j c a=>?_,by rw [List.length_set];omega,fun k p=>?_⟩
   ·rw [List.length_set,s] at a
    rcases Nat.lt_trichotomy i o with hi|hi|hi
    ·rw [m i hi]
     rcases Nat.lt_trichotomy j o with hj'|hj'|hj'
     ·rw [m j hj'];exact g i j c (by omega)
     ·subst hj';rw [n];exact C i hi
     ·rw [t j hj' (by omega)]
      exact g i (j-1) (by omega) (by omega)
    ·subst hi
     rw [n,t j c (by omega)]
     by_cases e:j-1=i
     ·rw [e];exact q
     ·exact zft q (g i (j-1) (by omega) (by omega))
    ·rw [t i hi (by omega),t j (by omega) (by omega)]
     exact g (i-1) (j-1) (by omega) (by omega)
   ·rw [List.length_set,s] at p
    rcases Nat.lt_trichotomy k o with hi|hi|hi
    ·rw [m k hi];exact d k (by omega)
    ·subst hi;rw [n];exact f
    ·rw [t k hi (by omega)];exact d _ (by omega)
 ·have B:o=l.length:=by omega
  subst B
  have v:(true&&(decide ((l.length:Int)<(l.length:Int))==true))=false:=by rw [decide_eq_false (show¬(l.length:Int)<(l.length:Int) by omega)];rfl
  rw [qc (fun h=>by rw [v] at h;cases h),zte v,z9s,decide_eq_false (show¬(l.length:Int)<(l.length:Int) by omega)]
  rw [Bool.false_and,cond_false]
  obtain⟨Z,y,s,A,D⟩:=zp5 (l:=l) (o:=l.length) (by omega) 5000 l.length (l++[[]]) (by omega) (Nat.le_refl _) (by simp) (fun j a=>by rw [zg4 a]) (fun j a b=>by omega) (by omega)
  have el:((l++([[]]:List (List Int))).length:Int)-1=(l.length:Int):=by simp
  rw [qc ⟨by simp only [List.length_singleton];omega,by simp only [List.length_singleton];omega⟩,qc (jq (by rw [el];omega)),el,ji y,qc ⟨by simp only [List.length_nil];omega,by simp only [List.length_nil];omega⟩,qc (jl (by omega)),List.nil_append,zb7]
  have m: ∀ j,j<l.length→(Z.set l.length w).getD j default=l.getD j default:=fun j a=>by rw [zbn (by omega)];exact A j a
  have n:(Z.set l.length w).getD l.length default=w:=zi8 (by omega)
  refine⟨_,rfl,fun i j c a=>?_,by rw [List.length_set];omega,fun k p=>?_⟩
  ·rw [List.length_set,s] at a
   rw [m i (by omega)]
   by_cases e:j=l.length
   ·subst e;rw [n];exact C i (by omega)
   ·rw [m j (by omega)];exact g i j c (by omega)
  ·rw [List.length_set,s] at p
   by_cases e:k=l.length
   ·subst e;rw [n];exact f
   ·rw [m k (by omega)];exact d k (by omega)
theorem zlu{P:List Int→Prop}{l:List (List Int)}(d: ∀ z,P z→z.length≤300)(o:l.length≤90)(e: ∀ k,k<l.length→P (l.getD k default)): ∃ r,z14 5000 l=some r∧SL r∧r.length≤l.length∧ ∀ k,k<r.length→P (r.getD k default):=by
 have f: ∃ r,dn 5000 l 5000 [] 0=some r∧SL r∧r.length≤l.length∧ ∀ k,k<r.length→P (r.getD k default):=by
  refine z19 (fun F k s=>dn 5000 l F s (k:Int)) l.length (fun k s=>SL s∧s.length≤k∧ ∀ k,k<s.length→P (s.getD k default)) _ (fun F k s a b=> .inr ?_) (fun F s b=>?_) 5000 0 [] (Nat.zero_le _) (by omega) ⟨fun i j _ g=>by simp at g,Nat.le_refl _,fun k a=>by simp at a⟩
  ·obtain⟨r,c,m,p,n⟩:=zs3 (w:=l.getD k default) d (by omega) b.2.2 (e k a) b.1
   simp only [dn]
   refine⟨r,⟨m,by omega,n⟩,?_⟩
   rw [cz (by omega),qc (jl a),xk,ji c,qc (jq (by omega))];rfl
  ·simp only [dn]
   rw [bz (by omega)]
   exact⟨s,rfl,b⟩
 obtain⟨r,c,h⟩:=f
 unfold z14
 rw [ji c]
 exact⟨r,rfl,h⟩
/-! ### words as plain data-/
structure LOk (y:Sc):Prop where
 inp:0≤y.fO∧y.fO≤255
 w: ∀ k,k<y.fI.length→ ∀ j,j<(y.fI.getD k default).length→0≤(y.fI.getD k default).getD j default∧(y.fI.getD k default).getD j default≤255
def WN(z:List Int):Prop:=z.length≤12∧ ∀ j,j<z.length→0≤z.getD j default
theorem zne{z:List Int}{v:Int}{j:Nat}(a:j<(z++[v]).length)(Q:Int→Prop)(h: ∀ j,j<z.length→Q (z.getD j default))(b:Q v):Q ((z++[v]).getD j default):=by
 by_cases e:j<z.length
 ·rw [zg4 e];exact h j e
 ·rw [List.length_append,List.length_singleton] at a
  have e':j=z.length:=by omega
  subst e'
  rw [zke];exact b
theorem zm8{z:List (List Int)}{v:List Int}{j:Nat}(a:j<(z++[v]).length)(Q:List Int→Prop)(h: ∀ j,j<z.length→Q (z.getD j default))(b:Q v):Q ((z++[v]).getD j default):=by
 by_cases e:j<z.length
 ·rw [zg4 e];exact h j e
 ·rw [List.length_append,List.length_singleton] at a
  have e':j=z.length:=by omega
  subst e'
  rw [zke];exact b
theorem zr9{y:Sc}(h:LOk y): ∃ r,z1m 5000 y=some r∧r.length≤40∧ ∀ k,k<r.length→WN (r.getD k default):=by
 have g:=h.inp
 have t:0≤y.fO%3:=Int.emod_nonneg _ (by decide)
 have u:y.fO%3<3:=Int.emod_lt_of_pos _ (by decide)
 have l:lu 5000 y=some (1+y.fO%3):=by
  unfold lu
  rw [qc ⟨by omega,by omega⟩,qc (jq (by omega)),qc (jq (by omega))]
 have c: ∀ k,k<y.fI.length→ ∃ z,xu 5000 y (k:Int) 5000 0 []=some z∧WN z:=fun k b=>by
  refine z19 (fun F j s=>xu 5000 y (k:Int) F (j:Int) s) (min (y.fI.getD k default).length 12) (fun j s=>s.length=j∧ ∀ i,i<s.length→0≤s.getD i default) _ (fun F j s x a=> .inr ?_) (fun F s a=>?_) 5000 0 [] (Nat.zero_le _) (by omega) ⟨rfl,fun i hi=>by simp at hi⟩
  ·have A:=h.w k b j (by omega)
   have m:=Int.emod_nonneg ((y.fI.getD k default).getD j default) (show (1+y.fO%3)≠0 by omega)
   simp only [xu]
   refine⟨s++[(y.fI.getD k default).getD j default%(1+y.fO%3)],⟨by rw [List.length_append,List.length_singleton,a.1],fun i hi=>zne hi (fun v=>0≤v) a.2 m⟩,?_⟩
   rw [qc (jl b),xk,decide_eq_true (show (j:Int)<((y.fI.getD k default).length:Int) by omega),decide_eq_true (show (j:Int)<12 by omega)]
   refine(ct rfl).trans ?_
   rw [qc (jl b),qc (jl (by omega)),xk,qc (jq (by omega)),ji l,qc ⟨by omega,by omega⟩,qc ⟨by simp only [List.length_singleton];omega,by simp only [List.length_singleton];omega⟩,qc (jq (by omega))];rfl
  ·simp only [xu]
   rw [qc (jl b),xk,cf (by
    by_cases e:(y.fI.getD k default).length≤12
    ·rw [decide_eq_false (show¬((min (y.fI.getD k default).length 12:Nat):Int)<((y.fI.getD k default).length:Int) by omega)];rfl
    ·rw [decide_eq_false (show¬((min (y.fI.getD k default).length 12:Nat):Int)<12 by omega),Bool.and_false])]
   exact⟨s,rfl,by omega,a.2⟩
 have d: ∃ r,xx 5000 y 5000 [] 0=some r∧r.length≤40∧ ∀ k,k<r.length→WN (r.getD k default):=by
  refine z19 (fun F k s=>xx 5000 y F s (k:Int)) (min y.fI.length 40) (fun k s=>s.length=k∧ ∀ i,i<s.length→WN (s.getD i default)) _ (fun F k s b a=> .inr ?_) (fun F s a=>?_) 5000 0 [] (Nat.zero_le _) (by omega) ⟨rfl,fun i hi=>by simp at hi⟩
  ·obtain⟨z,n,f⟩:=c k (by omega)
   simp only [xx]
   refine⟨s++[z],⟨by rw [List.length_append,List.length_singleton,a.1],fun i hi=>zm8 hi WN a.2 f⟩,?_⟩
   rw [decide_eq_true (show (k:Int)<(y.fI.length:Int) by omega),decide_eq_true (show (k:Int)<40 by omega)]
   refine(ct rfl).trans ?_
   rw [ji n,qc ⟨by simp only [List.length_singleton];omega,by simp only [List.length_singleton];omega⟩,qc (jq (by omega))];rfl
  ·simp only [xx]
   rw [cf (by
    by_cases e:y.fI.length≤40
    ·rw [decide_eq_false (show¬((min y.fI.length 40:Nat):Int)<(y.fI.length:Int) by omega)];rfl
    ·rw [decide_eq_false (show¬((min y.fI.length 40:Nat):Int)<40 by omega),Bool.and_false])]
   exact⟨s,rfl,by omega,a.2⟩
 obtain⟨r,o,p,q⟩:=d
 unfold z1m
 rw [ji o]
 exact⟨r,rfl,p,q⟩
theorem zrn{y:Sc}(h:LOk y): ∃ r,z1u 5000 y=some r∧r.length≤40∧ ∀ k,k<r.length→WN (r.getD k default):=by
 obtain⟨r,a,f,b⟩:=zr9 h
 obtain⟨q,c,_,g,d⟩:=zlu (P:=WN) (fun z e=>by have:=e.1;omega) (by omega) b
 unfold z1u
 rw [ji a,ji c]
 exact⟨q,rfl,by omega,d⟩
end GV
end Go.Proofs.YtkhihcleegljhaaGreat

namespace Go.Proofs.YtkhihcleegljhaaGreat
namespace GV
set_option maxRecDepth 100000
def EB(m:Mach)(B:Int)(e:Edge):Prop:=(e.to= -1∧e.out= -1)∨(0≤e.to∧e.to<B∧0≤e.out∧e.out<m.outputs)
def RowB(m:Mach)(B:Int)(r:List Edge):Prop:=(r.length:Int)=m.inputs∧ ∀ i,i<r.length→EB m B (r.getD i default)
def RowsB(m:Mach)(B:Int)(R:List (List Edge)):Prop:= ∀ k,k<R.length→RowB m B (R.getD k default)
theorem EB.mono{m:Mach}{B C:Int}{e:Edge}(h:EB m B e)(a:B≤C):EB m C e:=by
 rcases h with h|⟨b,d,c⟩
 ·exact .inl h
 ·exact .inr ⟨b,by omega,c⟩
theorem RowB.mono{m:Mach}{B C:Int}{r:List Edge}(h:RowB m B r)(a:B≤C):RowB m C r:=⟨h.1,fun i hi=>(h.2 i hi).mono a⟩
theorem RowsB.mono{m:Mach}{B C:Int}{R:List (List Edge)}(h:RowsB m B R)(a:B≤C):RowsB m C R:=fun k b=>(h k b).mono a
theorem z5z{m:Mach}(a:MOk m):RowsB m (m.rows.length:Int) m.rows:=fun k b=>⟨a.row k b,fun i hi=>a.edge k i b hi⟩
theorem zjm{m:Mach}(a:MOk m){R:List (List Edge)}(h:RowsB m (R.length:Int) R)(c:1≤R.length)(d:R.length≤64):MOk ⟨m.inputs,m.outputs,R⟩:=⟨a.i1,a.i2,a.o1,a.o2,c,d,fun s b=>(h s b).1,fun s i b hi=>(h s b).2 i hi⟩
theorem ztf{α:Type}{b:Bool}{v:α}:gop b (some v)=some (bif b then some v else none):=by cases b<;>rfl
theorem zet{α:Type}[Inhabited α]{z:List α}{v:α}{Q:α→Prop}(h: ∀ j,j<z.length→Q (z.getD j default))(a:Q v){j:Nat}(b:j<(z++[v]).length):Q ((z++[v]).getD j default):=by
 by_cases e:j<z.length
 ·rw [zg4 e];exact h j e
 ·rw [List.length_append,List.length_singleton] at b
  have e':j=z.length:=by omega
  subst e'
  rw [zke];exact a
theorem zod{α:Type}[Inhabited α]{z:List α}{v:α}{k:Nat}{Q:α→Prop}(h: ∀ j,j<z.length→Q (z.getD j default))(b:Q v){j:Nat}(a:j<(z.set k v).length):Q ((z.set k v).getD j default):=by
 rw [List.length_set] at a
 rw [List.getD_eq_getElem?_getD,List.getElem?_set]
 by_cases e:k=j
 ·rw [if_pos e,if_pos (by omega)];exact b
 ·rw [if_neg e,←List.getD_eq_getElem?_getD];exact h j a
theorem zqk{α:Type}[Inhabited α]{s:List α}{a:Nat}(h:a<s.length):s.take (a+1)=s.take a++[s.getD a default]:=by
 rw [List.take_add_one,List.getD_eq_getElem?_getD,List.getElem?_eq_getElem h];rfl
theorem ze1{m:Mach}(a:MOk m){k:Nat}(b:k<m.rows.length):(m.rows.getD k default).length≤16:=by
 have c:=a.row k b;have d:=a.i2;omega
/-! ### copies and changes-/
structure TOk (x:Sg):Prop where
 c: ∀ k,k<x.fH.length→0≤x.fH.getD k default∧x.fH.getD k default≤255
 g: ∀ k,k<x.fD.length→(0≤(x.fD.getD k default).1∧(x.fD.getD k default).1≤255)∧(0≤(x.fD.getD k default).2.1∧(x.fD.getD k default).2.1≤255)∧(0≤(x.fD.getD k default).2.2.1∧(x.fD.getD k default).2.2.1≤255)∧(0≤(x.fD.getD k default).2.2.2∧(x.fD.getD k default).2.2.2≤255)
theorem zra{x:Sg}{m:Mach}(G:TOk x)(b:MOk m)(h6:m.rows.length≤20): ∃ t,z15 5000 x m=some t∧MOk t∧t.inputs=m.inputs∧t.rows.length≤22:=by
 have H:=b.r1;have I:=b.r2
 have o:dx 5000 m 5000 0 []=some m.rows:=by
  refine z4l (fun F k s=>dx 5000 m F (k:Int) s) m.rows.length (fun k=>m.rows.take k) _ (fun F k f=>?_) (fun F=>?_) (by omega)
  ·have r:=ze1 b f
   have l:(m.rows.take k).length=k:=by rw [List.length_take];omega
   simp only [dx]
   rw [cz (by omega),qc (jl f),xk,qc ⟨by simp only [List.length_nil];omega,by simp only [List.length_nil];omega⟩,qc ⟨by rw [l];simp only [List.length_singleton];omega,by rw [l];simp only [List.length_singleton];omega⟩,qc (jq (by omega)),zqk f,List.nil_append];rfl
  ·simp only [dx]
   rw [bz (by omega),List.take_length]
 have u: ∃ R,pz 5000 x m 5000 0 m.rows=some R∧RowsB m (m.rows.length:Int) R∧m.rows.length≤R.length∧R.length≤m.rows.length+2:=by
  refine z19 (fun F k s=>pz 5000 x m F (k:Int) s) (min x.fH.length 2) (fun k R=>RowsB m (m.rows.length:Int) R∧R.length=m.rows.length+k) _ (fun F k s f d=> .inr ?_) (fun F s d=>?_) 5000 0 m.rows (Nat.zero_le _) (by omega) ⟨z5z b,rfl⟩
  ·have hc:=G.c k (by omega)
   obtain⟨q,v,a⟩: ∃ q:Nat,x.fH.getD k default%(m.rows.length:Int)=(q:Int)∧q<m.rows.length:=by
    have n:=Int.emod_nonneg (x.fH.getD k default) (show (m.rows.length:Int)≠0 by omega)
    have w:=Int.emod_lt_of_pos (x.fH.getD k default) (show (0:Int)<(m.rows.length:Int) by omega)
    exact⟨(x.fH.getD k default%(m.rows.length:Int)).toNat,by omega,by omega⟩
   have r:=ze1 b a
   simp only [pz]
   refine⟨s++[m.rows.getD q default],⟨fun j y=>zet (Q:=RowB m (m.rows.length:Int)) d.1 (z5z b q a) y,by rw [List.length_append,List.length_singleton,d.2];omega⟩,?_⟩
   rw [decide_eq_true (show (k:Int)<(x.fH.length:Int) by omega),decide_eq_true (show (k:Int)<2 by omega)]
   refine(ct rfl).trans ?_
   rw [qc (jl (by omega)),xk,qc (jq (by omega)),qc ⟨by omega,by omega⟩,v,qc (jl a),xk,qc ⟨by simp only [List.length_nil];omega,by simp only [List.length_nil];omega⟩,qc ⟨by simp only [List.length_singleton];omega,by simp only [List.length_singleton];omega⟩,qc (jq (by omega)),List.nil_append];rfl
  ·simp only [pz]
   rw [cf (by
    by_cases e:x.fH.length≤2
    ·rw [decide_eq_false (show¬((min x.fH.length 2:Nat):Int)<(x.fH.length:Int) by omega)];rfl
    ·rw [decide_eq_false (show¬((min x.fH.length 2:Nat):Int)<2 by omega),Bool.and_false])]
   exact⟨s,rfl,d.1,by omega,by omega⟩
 obtain⟨R,J,z,K,L⟩:=u
 have M:=b.i1;have N:=b.i2;have O:=b.o1;have P:=b.o2
 have A: ∃ Z,dm 5000 x m 5000 0 R=some Z∧RowsB m (R.length:Int) Z∧Z.length=R.length:=by
  refine z19 (fun F k s=>dm 5000 x m F (k:Int) s) (min x.fD.length 40) (fun k Z=>RowsB m (R.length:Int) Z∧Z.length=R.length) _ (fun F k s f d=> .inr ?_) (fun F s d=>?_) 5000 0 R (Nat.zero_le _) (by omega) ⟨z.mono (by omega),rfl⟩
  ·obtain⟨S,T,U,V⟩:=G.g k (by omega)
   simp only [dm]
   have ec:ix x.fD (k:Int)=x.fD.getD k default:=rfl
   rw [ec]
   generalize x.fD.getD k default=c at S T U V⊢
   have n:=Int.emod_nonneg c.2.2.1 (show (s.length:Int)≠0 by omega)
   have w:=Int.emod_lt_of_pos c.2.2.1 (show (0:Int)<(s.length:Int) by omega)
   have W:=Int.emod_nonneg c.2.2.2 (show m.outputs+1≠0 by omega)
   have b1:=Int.emod_lt_of_pos c.2.2.2 (show (0:Int)<m.outputs+1 by omega)
   obtain⟨q,v,a⟩: ∃ q:Nat,c.1%(s.length:Int)=(q:Int)∧q<s.length:=by
    have n:=Int.emod_nonneg c.1 (show (s.length:Int)≠0 by omega)
    have w:=Int.emod_lt_of_pos c.1 (show (0:Int)<(s.length:Int) by omega)
    exact⟨(c.1%(s.length:Int)).toNat,by omega,by omega⟩
   have hrow:=d.1 q a
   obtain⟨p,X,B⟩: ∃ p:Nat,c.2.1%m.inputs=(p:Int)∧p<(s.getD q default).length:=by
    have n:=Int.emod_nonneg c.2.1 (show m.inputs≠0 by omega)
    have w:=Int.emod_lt_of_pos c.2.1 (show (0:Int)<m.inputs by omega)
    have:=hrow.1
    exact⟨(c.2.1%m.inputs).toNat,by omega,by omega⟩
   obtain⟨e,Y,C⟩: ∃ e:Int×Int,(bif decide (c.2.2.2%(m.outputs+1)=m.outputs) then some ((-1:Int),(-1:Int)) else some (c.2.2.1%(s.length:Int),c.2.2.2%(m.outputs+1)))=some e∧EB m (R.length:Int) ⟨e.1,e.2⟩:=by
    by_cases h:c.2.2.2%(m.outputs+1)=m.outputs
    ·rw [cz h];exact⟨_,rfl,.inl ⟨rfl,rfl⟩⟩
    ·rw [bz h];exact⟨_,rfl,.inr ⟨n,by show c.2.2.1%(s.length:Int)<_;omega,W,by show c.2.2.2%(m.outputs+1)<_;omega⟩⟩
   refine⟨s.set q ((s.getD q default).set p ⟨e.1,e.2⟩),⟨fun j y=>zod (Q:=RowB m (R.length:Int)) d.1 ⟨by rw [List.length_set];exact hrow.1,fun i hi=>zod (Q:=EB m (R.length:Int)) hrow.2 C hi⟩ y,by rw [List.length_set,d.2]⟩,?_⟩
   rw [decide_eq_true (show (k:Int)<(x.fD.length:Int) by omega),decide_eq_true (show (k:Int)<40 by omega)]
   refine(ct rfl).trans ?_
   rw [qc (jl (by omega)),qc (jq (by omega)),qc ⟨by omega,by omega⟩,qc (jq (by omega)),qc (jq (by omega)),qc ⟨by omega,by omega⟩,ji Y,qc (jq (by omega)),qc ⟨by omega,by omega⟩,v,qc (jl a),qc (jq (by omega)),qc ⟨by omega,by omega⟩,X,xk,qc (jl B),qc (jq (by omega))];rfl
  ·simp only [dm]
   rw [cf (by
    by_cases e:x.fD.length≤40
    ·rw [decide_eq_false (show¬((min x.fD.length 40:Nat):Int)<(x.fD.length:Int) by omega)];rfl
    ·rw [decide_eq_false (show¬((min x.fD.length 40:Nat):Int)<40 by omega),Bool.and_false])]
   exact⟨s,rfl,d.1,d.2⟩
 obtain⟨Z,hZ,D,E⟩:=A
 unfold z15
 rw [ji o,ji J,ji hZ]
 exact⟨_,rfl,zjm b (by rw [E];exact D) (by omega) (by omega),rfl,by show Z.length≤22;omega⟩
/-! ### faults-/
structure FOk (m:Mach) (f:Sb):Prop where
 st:0≤f.fB∧f.fB<m.rows.length
 inp:0≤f.fC∧f.fC<m.inputs
 df:((m.rows.getD f.fB.toNat default).getD f.fC.toNat default).to≠ -1
 k:(f.fK=0∧0≤f.fF∧f.fF<m.outputs)∨(f.fK=1∧0≤f.fG∧f.fG<m.rows.length)∨f.fK=2∨(f.fK=3∧0≤f.fG∧f.fG<m.rows.length)∨
  (f.fK=4∧(0≤f.fF∧f.fF<m.outputs)∧(0≤f.fJ∧f.fJ<m.inputs)∧((m.rows.getD ((m.rows.getD f.fB.toNat default).getD f.fC.toNat default).to.toNat default).getD f.fJ.toNat default).to≠ -1)
theorem zg2{m:Mach}(g:MOk m)(s i:Int):lg 5000 m s i=some (decide (0≤s∧s<m.rows.length∧0≤i∧i<m.inputs∧((m.rows.getD s.toNat default).getD i.toNat default).to≠ -1)):=by
 unfold lg
 by_cases h:0≤s∧s<(m.rows.length:Int)∧0≤i∧i<m.inputs
 ·obtain⟨b,c,d,f⟩:=h
  have hrow:=g.row s.toNat (by omega)
  rw [qc (fun _=>⟨b,c⟩),qc (fun _=>⟨d,by rw [zab];omega⟩),decide_eq_true b,decide_eq_true c,decide_eq_true d,decide_eq_true f]
  congr 1
  rw [Bool.eq_iff_iff]
  simp only [Bool.and_self,Bool.true_and,decide_eq_true_eq]
  exact⟨fun h=>⟨b,c,d,f,h⟩,fun h=>h.2.2.2.2⟩
 ·have e:(((decide (0≤s)&&decide (s<(m.rows.length:Int)))&&decide (0≤i))&&decide (i<m.inputs))=false:=by
   rw [←Bool.not_eq_true]
   simp only [Bool.and_eq_true,decide_eq_true_eq]
   exact fun a=>h ⟨a.1.1.1,a.1.1.2,a.1.2,a.2⟩
  rw [e,qc (fun h=>by cases h),qc (fun h=>by cases h),Bool.false_and]
  congr 1
  exact(decide_eq_false fun a=>h ⟨a.1,a.2.1,a.2.2.1,a.2.2.2.1⟩).symm
theorem zth{m:Mach}(k:MOk m)(f:Sb): ∃ b,z2x 5000 m f=some b∧(b=true→FOk m f):=by
 unfold z2x
 rw [ji (zg2 k _ _)]
 by_cases h:0≤f.fB∧f.fB<(m.rows.length:Int)∧0≤f.fC∧f.fC<m.inputs∧((m.rows.getD f.fB.toNat default).getD f.fC.toNat default).to≠ -1
 ·obtain⟨c,d,g,i,j⟩:=h
  have hrow:=k.row f.fB.toNat (by omega)
  rw [decide_eq_true ⟨c,d,g,i,j⟩]
  rw [cf (by rfl),qc ⟨c,d⟩,qc ⟨g,by rw [zab];omega⟩]
  by_cases k0:f.fK=0
  ·rw [cz k0]
   refine⟨_,rfl,fun a=>⟨⟨c,d⟩,⟨g,i⟩,j,.inl ?_⟩⟩
   simp only [Bool.and_eq_true,decide_eq_true_eq] at a
   exact⟨k0,a.1.2.1,a.1.2.2⟩
  rw [bz k0]
  by_cases k1:f.fK=1
  ·rw [cz k1]
   refine⟨_,rfl,fun a=>⟨⟨c,d⟩,⟨g,i⟩,j,.inr (.inl ?_)⟩⟩
   simp only [Bool.and_eq_true,decide_eq_true_eq] at a
   exact⟨k1,a.1.2.1,a.1.2.2⟩
  rw [bz k1]
  by_cases k2:f.fK=2
  ·rw [cz k2]
   exact⟨_,rfl,fun a=>⟨⟨c,d⟩,⟨g,i⟩,j,.inr (.inr (.inl k2))⟩⟩
  rw [bz k2]
  by_cases k3:f.fK=3
  ·rw [cz k3]
   refine⟨_,rfl,fun a=>⟨⟨c,d⟩,⟨g,i⟩,j,.inr (.inr (.inr (.inl ?_)))⟩⟩
   simp only [Bool.and_eq_true,decide_eq_true_eq] at a
   exact⟨k3,a.2.1,a.2.2⟩
  rw [bz k3]
  by_cases k4:f.fK=4
  ·rw [cz k4]
   have et:(ix (ix m.rows f.fB) f.fC).to=((m.rows.getD f.fB.toNat default).getD f.fC.toNat default).to:=rfl
   rw [et,zg2 k,ztf,z9s]
   generalize hte:((m.rows.getD f.fB.toNat default).getD f.fC.toNat default).to=t
   by_cases hd:0≤t∧t<(m.rows.length:Int)∧0≤f.fJ∧f.fJ<m.inputs∧((m.rows.getD t.toNat default).getD f.fJ.toNat default).to≠ -1
   ·obtain⟨o,p,n,q,r⟩:=hd
    have l:=k.row t.toNat (by omega)
    rw [qc (fun _=>⟨o,p⟩),qc (fun _=>⟨n,by rw [zab];omega⟩)]
    refine⟨_,rfl,fun a=>⟨⟨c,d⟩,⟨g,i⟩,j,.inr (.inr (.inr (.inr ?_)))⟩⟩
    simp only [Bool.and_eq_true,decide_eq_true_eq] at a
    exact⟨k4,⟨a.1.2.1,a.1.2.2⟩,⟨n,q⟩,by rw [hte];exact r⟩
   ·rw [decide_eq_false hd]
    have e: ∀ b:Bool,((decide (f.fG=0)&&(bif b then some false else none).getD default)&&(decide (0≤f.fF)&&decide (f.fF<m.outputs)))=false:=fun b=>by cases b<;>simp<;>rfl
    rw [e,qc (fun h=>by cases h),qc (fun h=>by cases h)]
    exact⟨_,rfl,fun a=>by cases a⟩
  rw [bz k4]
  exact⟨_,rfl,fun a=>by cases a⟩
 ·rw [decide_eq_false h]
  exact⟨false,cf (x:=some false) rfl|>.trans rfl,fun h=>by cases h⟩
def FL(m:Mach)(s:List Sb):Prop:= ∀ k,k<s.length→FOk m (s.getD k default)
section
variable {m : Mach}
theorem zqz(g:MOk m){ks:List Int}{a b c d e:Int}(i:okI ks a){s:List Sb}(n:FL m s)(t:s.length≤1000000000): ∃ r,gy 5000 m ks a b c d e 5000 0 s=some r∧FL m r∧r.length≤s.length+16:=by
 have u:=g.o1;have v:=g.o2
 have: ∃ r,gy 5000 m ks a b c d e 5000 0 s=some r∧FL m r∧r.length≤s.length+m.outputs.toNat:=by
  refine z19 (fun F k r=>gy 5000 m ks a b c d e F (k:Int) r) m.outputs.toNat (fun k r=>FL m r∧r.length≤s.length+k) _ (fun F k r w f=> .inr ?_) (fun F r f=>?_) 5000 0 s (Nat.zero_le _) (by omega) ⟨n,Nat.le_refl _⟩
  ·obtain⟨q,l,h⟩:=zth g (⟨ix ks a,b,c,d,e,(k:Int)⟩:Sb)
   simp only [gy]
   cases q
   ·refine⟨r,⟨f.1,by omega⟩,?_⟩
    rw [cz (by omega),qc i,ji l,cond_false,z9s,qc (jq (by omega))];rfl
   ·refine⟨r++[⟨ix ks a,b,c,d,e,(k:Int)⟩],⟨fun j o=>zet (Q:=FOk m) f.1 (h rfl) o,by rw [List.length_append,List.length_singleton];omega⟩,?_⟩
    rw [cz (by omega),qc i,ji l,cond_true,qc ⟨by simp only [List.length_singleton];omega,by simp only [List.length_singleton];omega⟩,z9s,qc (jq (by omega))];rfl
  ·simp only [gy]
   rw [bz (by omega)]
   exact⟨r,rfl,f⟩
 obtain⟨r,f,p,x⟩:=this
 exact⟨r,f,p,by omega⟩
theorem zr2(g:MOk m){ks:List Int}{a b c d:Int}(h:okI ks a){s:List Sb}(i:FL m s)(o:s.length≤900000000): ∃ r,gq 5000 m ks a b c d 5000 0 s=some r∧FL m r∧r.length≤s.length+256:=by
 have p:=g.i1;have t:=g.i2
 have: ∃ r,gq 5000 m ks a b c d 5000 0 s=some r∧FL m r∧r.length≤s.length+m.inputs.toNat*16:=by
  refine z19 (fun F k r=>gq 5000 m ks a b c d F (k:Int) r) m.inputs.toNat (fun k r=>FL m r∧r.length≤s.length+k*16) _ (fun F k r u f=> .inr ?_) (fun F r f=>?_) 5000 0 s (Nat.zero_le _) (by omega) ⟨i,by omega⟩
  ·obtain⟨q,j,l,v⟩:=zqz g (b:=b) (c:=c) (d:=d) (e:=(k:Int)) h f.1 (by omega)
   simp only [gq]
   exact⟨q,⟨l,by omega⟩,by rw [cz (by omega),ji j,qc (jq (by omega))];rfl⟩
  ·simp only [gq]
   rw [bz (by omega)]
   exact⟨r,rfl,f⟩
 obtain⟨r,f,n,w⟩:=this
 exact⟨r,f,n,by omega⟩
theorem zr3(f:MOk m){ks:List Int}{a b c:Int}(g:okI ks a){s:List Sb}(h:FL m s)(n:s.length≤800000000): ∃ r,gp 5000 m ks a b c 5000 0 s=some r∧FL m r∧r.length≤s.length+16384:=by
 have o:=f.r1;have p:=f.r2
 have: ∃ r,gp 5000 m ks a b c 5000 0 s=some r∧FL m r∧r.length≤s.length+m.rows.length*256:=by
  refine z19 (fun F k r=>gp 5000 m ks a b c F (k:Int) r) m.rows.length (fun k r=>FL m r∧r.length≤s.length+k*256) _ (fun F k r t e=> .inr ?_) (fun F r e=>?_) 5000 0 s (Nat.zero_le _) (by omega) ⟨h,by omega⟩
  ·obtain⟨q,i,j,u⟩:=zr2 f (b:=b) (c:=c) (d:=(k:Int)) g e.1 (by omega)
   simp only [gp]
   exact⟨q,⟨j,by omega⟩,by rw [cz (by omega),ji i,qc (jq (by omega))];rfl⟩
  ·simp only [gp]
   rw [bz (by omega)]
   exact⟨r,rfl,e⟩
 obtain⟨r,e,l,v⟩:=this
 exact⟨r,e,l,by omega⟩
theorem zqy(e:MOk m){ks:List Int}{a b:Int}(f:okI ks a){s:List Sb}(g:FL m s)(l:s.length≤700000000): ∃ r,xz 5000 m ks a b 5000 0 s=some r∧FL m r∧r.length≤s.length+262144:=by
 have n:=e.i1;have o:=e.i2
 have: ∃ r,xz 5000 m ks a b 5000 0 s=some r∧FL m r∧r.length≤s.length+m.inputs.toNat*16384:=by
  refine z19 (fun F k r=>xz 5000 m ks a b F (k:Int) r) m.inputs.toNat (fun k r=>FL m r∧r.length≤s.length+k*16384) _ (fun F k r p d=> .inr ?_) (fun F r d=>?_) 5000 0 s (Nat.zero_le _) (by omega) ⟨g,by omega⟩
  ·obtain⟨q,h,i,t⟩:=zr3 e (b:=b) (c:=(k:Int)) f d.1 (by omega)
   simp only [xz]
   exact⟨q,⟨i,by omega⟩,by rw [cz (by omega),ji h,qc (jq (by omega))];rfl⟩
  ·simp only [xz]
   rw [bz (by omega)]
   exact⟨r,rfl,d⟩
 obtain⟨r,d,j,u⟩:=this
 exact⟨r,d,j,by omega⟩
theorem zs9(d:MOk m){ks:List Int}{a:Int}(e:okI ks a){s:List Sb}(f:FL m s)(j:s.length≤600000000): ∃ r,bg 5000 m ks a 5000 0 s=some r∧FL m r∧r.length≤s.length+16777216:=by
 have l:=d.r1;have n:=d.r2
 have: ∃ r,bg 5000 m ks a 5000 0 s=some r∧FL m r∧r.length≤s.length+m.rows.length*262144:=by
  refine z19 (fun F k r=>bg 5000 m ks a F (k:Int) r) m.rows.length (fun k r=>FL m r∧r.length≤s.length+k*262144) _ (fun F k r o c=> .inr ?_) (fun F r c=>?_) 5000 0 s (Nat.zero_le _) (by omega) ⟨f,by omega⟩
  ·obtain⟨q,g,h,p⟩:=zqy d (b:=(k:Int)) e c.1 (by omega)
   simp only [bg]
   exact⟨q,⟨h,by omega⟩,by rw [cz (by omega),ji g,qc (jq (by omega))];rfl⟩
  ·simp only [bg]
   rw [bz (by omega)]
   exact⟨r,rfl,c⟩
 obtain⟨r,c,i,t⟩:=this
 exact⟨r,c,i,by omega⟩
theorem zrx(d:MOk m): ∃ r,z2k 5000 m [0,1,2,3,4]=some r∧FL m r∧r.length≤100000000:=by
 have: ∃ r,ma 5000 m [0,1,2,3,4] 5000 [] 0=some r∧FL m r∧r.length≤5*16777216:=by
  refine z19 (fun F k r=>ma 5000 m [0,1,2,3,4] F r (k:Int)) 5 (fun k r=>FL m r∧r.length≤k*16777216) _ (fun F k r c b=> .inr ?_) (fun F r b=>?_) 5000 0 [] (Nat.zero_le _) (by omega) ⟨fun k c=>by simp at c,by simp⟩
  ·obtain⟨q,e,f,h⟩:=zs9 d (ks:=[0,1,2,3,4]) (a:=(k:Int)) (jl (by simp only [List.length_cons,List.length_nil];omega)) b.1 (by omega)
   simp only [ma]
   exact⟨q,⟨f,by omega⟩,by rw [cz (by simp only [List.length_cons,List.length_nil];omega),ji e,qc (jq (by omega))];rfl⟩
  ·simp only [ma]
   rw [bz (by simp only [List.length_cons,List.length_nil];omega)]
   exact⟨r,rfl,b⟩
 obtain⟨r,b,g,i⟩:=this
 unfold z2k
 rw [ji b]
 exact⟨r,rfl,g,by omega⟩
theorem zs6(b:MOk m){n:Int}(f:0≤n∧n≤65535): ∃ y,z1z 5000 ⟨n⟩ m=some y∧(y.2=true→FOk m y.1):=by
 obtain⟨l,c,d,hlen⟩:=zrx b
 unfold z1z
 rw [ji c]
 by_cases h:(l.length:Int)=0
 ·rw [cz h];exact⟨_,rfl,fun h=>by cases h⟩
 ·obtain⟨q,e,a⟩: ∃ q:Nat,n%(l.length:Int)=(q:Int)∧q<l.length:=by
   have g:=Int.emod_nonneg n h
   have i:=Int.emod_lt_of_pos n (show (0:Int)<(l.length:Int) by omega)
   exact⟨(n%(l.length:Int)).toNat,by omega,by omega⟩
  rw [bz h,qc (show in64 (Sj.mk n).fAa from show in64 n from jq (by omega)),qc (show okR (Sj.mk n).fAa (l.length:Int) from show okR n (l.length:Int) from⟨by omega,by omega⟩)]
  show ∃ y,gd (okI l (n%(l.length:Int))) _=some y∧_
  rw [e,qc (jl a)]
  exact⟨_,rfl,fun _=>d q a⟩
theorem zpl(c:MOk m)(I:m.rows.length≤20){f:Sb}(w:FOk m f): ∃ t,z0o 5000 m f=some t∧MOk t∧t.inputs=m.inputs∧t.rows.length≤21:=by
 have J:=c.r1
 obtain⟨D,K⟩:=w.st
 obtain⟨E,O⟩:=w.inp
 have n:=w.df
 have x:xy 5000 m 5000 0 []=some m.rows:=by
  refine z4l (fun F k s=>xy 5000 m F (k:Int) s) m.rows.length (fun k=>m.rows.take k) _ (fun F k l=>?_) (fun F=>?_) (by omega)
  ·have p:=ze1 c l
   have q:(m.rows.take k).length=k:=by rw [List.length_take];omega
   simp only [xy]
   rw [cz (by omega),qc (jl l),xk,qc ⟨by simp only [List.length_nil];omega,by simp only [List.length_nil];omega⟩,qc ⟨by rw [q];simp only [List.length_singleton];omega,by rw [q];simp only [List.length_singleton];omega⟩,qc (jq (by omega)),zqk l,List.nil_append];rfl
  ·simp only [xy]
   rw [bz (by omega),List.take_length]
 have hrow:=c.row f.fB.toNat (by omega)
 have u:EB m (m.rows.length:Int) ((m.rows.getD f.fB.toNat default).getD f.fC.toNat default):=c.edge _ _ (by omega) (by omega)
 have d:0≤((m.rows.getD f.fB.toNat default).getD f.fC.toNat default).to∧((m.rows.getD f.fB.toNat default).getD f.fC.toNat default).to<m.rows.length∧0≤((m.rows.getD f.fB.toNat default).getD f.fC.toNat default).out∧((m.rows.getD f.fB.toNat default).getD f.fC.toNat default).out<m.outputs:=by
  rcases u with h|h
  ·exact absurd h.1 n
  ·exact h
 unfold z0o
 rw [ji x,qc ⟨D,K⟩,qc ⟨E,by rw [zab];omega⟩]
 have et:(ix (ix m.rows f.fB) f.fC)=(m.rows.getD f.fB.toNat default).getD f.fC.toNat default:=rfl
 rw [et]
 have l:=w.k
 generalize (m.rows.getD f.fB.toNat default).getD f.fC.toNat default=ed at u d n l⊢
 have tail: ∀ (o:List (List Edge)×Int×Int),RowsB m (o.1.length:Int) o.1→m.rows.length≤o.1.length→o.1.length≤m.rows.length+1→EB m (o.1.length:Int) ⟨o.2.1,o.2.2⟩→
  ∃ t,(gd (okI o.1 f.fB)<|gd (okI (ix o.1 f.fB) f.fC)<|some (⟨m.inputs,m.outputs,up o.1 f.fB (up (ix o.1 f.fB) f.fC ⟨o.2.1,o.2.2⟩)⟩:Mach))=some t∧MOk t∧t.inputs=m.inputs∧t.rows.length≤21:=by
  intro o G P R L
  have b:=G f.fB.toNat (by omega)
  have g:=b.1
  refine⟨⟨m.inputs,m.outputs,up o.1 f.fB (up (ix o.1 f.fB) f.fC ⟨o.2.1,o.2.2⟩)⟩,by rw [qc ⟨D,by omega⟩,qc ⟨E,by rw [zab];omega⟩],zjm c (fun j e=>?_) (by rw [up,List.length_set];omega) (by rw [up,List.length_set];omega),rfl,by show (up _ _ _).length≤21;rw [up,List.length_set];omega⟩
  rw [show ((up o.1 f.fB (up (ix o.1 f.fB) f.fC ⟨o.2.1,o.2.2⟩)).length:Int)=(o.1.length:Int) by simp only [up,List.length_set]]
  exact zod (Q:=RowB m (o.1.length:Int)) (v:=(o.1.getD f.fB.toNat default).set f.fC.toNat ⟨o.2.1,o.2.2⟩) G ⟨by rw [List.length_set];exact b.1,fun i hi=>zod (Q:=EB m (o.1.length:Int)) b.2 L hi⟩ e
 rcases l with⟨k,y,z⟩|⟨k,A,B⟩|k|⟨k,A,B⟩|⟨k,⟨y,z⟩,⟨M,S⟩,N⟩
 ·rw [k,cz rfl,z9s]
  exact tail (m.rows,ed.to,f.fF) (z5z c) (Nat.le_refl _) (Nat.le_succ _) (.inr ⟨d.1,d.2.1,y,z⟩)
 ·rw [k,bz (by decide),cz rfl,z9s]
  exact tail (m.rows,f.fG,ed.out) (z5z c) (Nat.le_refl _) (Nat.le_succ _) (.inr ⟨A,B,d.2.2.1,d.2.2.2⟩)
 ·rw [k,bz (by decide),bz (by decide),cz rfl,z9s]
  exact tail (m.rows,-1,-1) (z5z c) (Nat.le_refl _) (Nat.le_succ _) (.inl ⟨rfl,rfl⟩)
 ·have p:=ze1 c (show f.fG.toNat<m.rows.length by omega)
  rw [k,bz (by decide),bz (by decide),bz (by decide),cz rfl,qc ⟨A,B⟩,zab,qc ⟨by simp only [List.length_nil];omega,by simp only [List.length_nil];omega⟩,qc ⟨by simp only [List.length_singleton];omega,by simp only [List.length_singleton];omega⟩,z9s,List.nil_append]
  have a:(m.rows++[m.rows.getD f.fG.toNat default]).length=m.rows.length+1:=by rw [List.length_append,List.length_singleton]
  refine tail (m.rows++[m.rows.getD f.fG.toNat default],(m.rows.length:Int),ed.out) (fun j e=>?_) (by rw [a];omega) (Nat.le_of_eq (a)) (.inr ⟨by show (0:Int)≤(m.rows.length:Int);omega,by show (m.rows.length:Int)<_;rw [a];omega,d.2.2.1,d.2.2.2⟩)
  refine zet (Q:=RowB m _) (fun j e=>((z5z c) j e).mono (by rw [a];omega)) (((z5z c) f.fG.toNat (by omega)).mono (by rw [a];omega)) e
 ·have H:ed.to.toNat<m.rows.length:=by omega
  have p:=ze1 c H
  have b:=z5z c ed.to.toNat H
  have g:=b.1
  have C:=b.2 f.fJ.toNat (by omega)
  rw [k,bz (by decide),bz (by decide),bz (by decide),bz (by decide),cz rfl,qc ⟨d.1,d.2.1⟩,zab m.rows ed.to,qc ⟨by simp only [List.length_nil];omega,by simp only [List.length_nil];omega⟩,List.nil_append,qc ⟨M,by omega⟩,qc ⟨by simp only [List.length_singleton];omega,by simp only [List.length_singleton];omega⟩,z9s]
  have a: ∀ r:List Edge,(m.rows++[r]).length=m.rows.length+1:=fun r=>by rw [List.length_append,List.length_singleton]
  refine tail (m.rows++[up (m.rows.getD ed.to.toNat default) f.fJ ⟨(ix (m.rows.getD ed.to.toNat default) f.fJ).to,f.fF⟩],(m.rows.length:Int),ed.out) (fun j e=>?_) (by rw [a];omega) (Nat.le_of_eq (a _)) (.inr ⟨by show (0:Int)≤(m.rows.length:Int);omega,by show (m.rows.length:Int)<_;rw [a];omega,d.2.2.1,d.2.2.2⟩)
  refine zet (Q:=RowB m _) (v:=(m.rows.getD ed.to.toNat default).set f.fJ.toNat ⟨(ix (m.rows.getD ed.to.toNat default) f.fJ).to,f.fF⟩) (fun j e=>((z5z c) j e).mono (by rw [a];omega)) ⟨by rw [List.length_set];exact g,fun i hi=>zod (Q:=EB m _) (fun i hi=>(b.2 i hi).mono (by rw [a];omega)) ?_ hi⟩ e
  rcases C with h|h
  ·exact absurd h.1 N
  ·exact .inr ⟨h.1,by rw [a];have:=h.2.1;show (ix (m.rows.getD ed.to.toNat default) f.fJ).to<_;rw [zab];omega,y,z⟩
def ML(m:Mach)(s:List Mach):Prop:= ∀ k,k<s.length→MOk (s.getD k default)∧(s.getD k default).inputs=m.inputs∧(s.getD k default).rows.length≤22
theorem zkw(d:MOk m)(b:m.rows.length≤20){n:List Int}(i: ∀ k,k<n.length→0≤n.getD k default∧n.getD k default≤65535): ∃ s,il 5000 m n=some s∧ML m s∧s.length≤12:=by
 have: ∃ s,wy 5000 m n 5000 [] 0=some s∧ML m s∧s.length≤12:=by
  refine z19 (fun F k s=>wy 5000 m n F s (k:Int)) (min n.length 12) (fun k s=>ML m s∧s.length≤k) _ (fun F k s f a=> .inr ?_) (fun F s a=>?_) 5000 0 [] (Nat.zero_le _) (by omega) ⟨fun k f=>by simp at f,Nat.le_refl _⟩
  ·obtain⟨y,g,c⟩:=zs6 d (i k (by omega))
   simp only [wy]
   rw [decide_eq_true (show (k:Int)<(n.length:Int) by omega),decide_eq_true (show (k:Int)<12 by omega)]
   cases hy2:y.2
   ·refine⟨s,⟨a.1,by omega⟩,(ct rfl).trans ?_⟩
    rw [qc (jl (by omega)),xk,ji g,hy2,cond_false,z9s,qc (jq (by omega))];rfl
   ·obtain⟨t,l,o,p,r⟩:=zpl d b (c hy2)
    refine⟨s++[t],⟨fun j q=>zet (Q:=fun t=>MOk t∧t.inputs=m.inputs∧t.rows.length≤22) a.1 ⟨o,p,by omega⟩ q,by rw [List.length_append,List.length_singleton];omega⟩,(ct rfl).trans ?_⟩
    rw [qc (jl (by omega)),xk,ji g,hy2,cond_true,ji (show z0o 5000 m ⟨y.1.fK,y.1.fB,y.1.fC,y.1.fG,y.1.fJ,y.1.fF⟩=some t from l),qc ⟨by simp only [List.length_singleton];omega,by simp only [List.length_singleton];omega⟩,z9s,qc (jq (by omega))];rfl
  ·simp only [wy]
   rw [cf (by
    by_cases e:n.length≤12
    ·rw [decide_eq_false (show¬((min n.length 12:Nat):Int)<(n.length:Int) by omega)];rfl
    ·rw [decide_eq_false (show¬((min n.length 12:Nat):Int)<12 by omega),Bool.and_false])]
   exact⟨s,rfl,a.1,by omega⟩
 obtain⟨s,a,h⟩:=this
 unfold il
 rw [ji a]
 exact⟨s,rfl,h⟩
end
end GV
end Go.Proofs.YtkhihcleegljhaaGreat

namespace Go.Proofs.YtkhihcleegljhaaGreat
namespace GV
set_option maxRecDepth 100000
theorem zp9:z2t 5000=some true:=by decide+kernel
def WI(n:Int)(z:List Int):Prop:=z.length≤12∧ ∀ j,j<z.length→0≤z.getD j default∧z.getD j default<n
theorem zr7{m:Mach}(h:MOk m){l:List (List Int)}(y:l.length≤40)(n: ∀ k,k<l.length→WN (l.getD k default)): ∃ r,uk 5000 m l 5000 [] 0=some r∧r.length≤40∧ ∀ k,k<r.length→WI m.inputs (r.getD k default):=by
 have o:=h.i1
 have d: ∀ k,k<l.length→ ∃ z,ul 5000 m l (k:Int) 5000 [] 0=some z∧WI m.inputs z:=fun k b=>by
  have c:=n k b
  have p:=c.1
  have: ∃ z,ul 5000 m l (k:Int) 5000 [] 0=some z∧z.length=(l.getD k default).length∧ ∀ i,i<z.length→0≤z.getD i default∧z.getD i default<m.inputs:=by
   refine z19 (fun F j s=>ul 5000 m l (k:Int) F s (j:Int)) (l.getD k default).length (fun j s=>s.length=j∧ ∀ i,i<s.length→0≤s.getD i default∧s.getD i default<m.inputs) _ (fun F j s g a=> .inr ?_) (fun F s a=>?_) 5000 0 [] (Nat.zero_le _) (by omega) ⟨rfl,fun i hi=>by simp at hi⟩
   ·have A:=c.2 j g
    have q:=Int.emod_nonneg ((l.getD k default).getD j default) (show m.inputs≠0 by omega)
    have t:=Int.emod_lt_of_pos ((l.getD k default).getD j default) (show 0<m.inputs by omega)
    simp only [ul]
    refine⟨s++[(l.getD k default).getD j default%m.inputs],⟨by rw [List.length_append,List.length_singleton,a.1],fun i hi=>zet (Q:=fun v=>0≤v∧v<m.inputs) a.2 ⟨q,t⟩ hi⟩,?_⟩
    rw [qc (jl b),xk,cz (by omega),qc (jl b),qc (jl g),xk,qc ⟨by omega,by omega⟩,qc ⟨by simp only [List.length_singleton];omega,by simp only [List.length_singleton];omega⟩,qc (jq (by omega))];rfl
   ·simp only [ul]
    rw [qc (jl b),xk,bz (by omega)]
    exact⟨s,rfl,a⟩
  obtain⟨z,e,B,u⟩:=this
  exact⟨z,e,by omega,u⟩
 have: ∃ r,uk 5000 m l 5000 [] 0=some r∧r.length=l.length∧ ∀ k,k<r.length→WI m.inputs (r.getD k default):=by
  refine z19 (fun F k s=>uk 5000 m l F s (k:Int)) l.length (fun k s=>s.length=k∧ ∀ i,i<s.length→WI m.inputs (s.getD i default)) _ (fun F k s b a=> .inr ?_) (fun F s a=>?_) 5000 0 [] (Nat.zero_le _) (by omega) ⟨rfl,fun i hi=>by simp at hi⟩
  ·obtain⟨z,e,f⟩:=d k b
   simp only [uk]
   refine⟨s++[z],⟨by rw [List.length_append,List.length_singleton,a.1],fun i hi=>zet (Q:=WI m.inputs) a.2 f hi⟩,?_⟩
   rw [cz (by omega),ji e,qc ⟨by simp only [List.length_singleton];omega,by simp only [List.length_singleton];omega⟩,qc (jq (by omega))];rfl
  ·simp only [uk]
   rw [bz (by omega)]
   exact⟨s,rfl,a⟩
 obtain⟨r,w,C,x⟩:=this
 exact⟨r,w,by omega,x⟩
theorem znp(a b:List Int): -1≤zh7 a b∧zh7 a b<max (a.length:Int) 1:=by
 unfold zh7
 cases h:(List.range a.length).find? (zme a b) with
 |none=>exact⟨by decide,by show (-1:Int)<_;omega⟩
 |some i=>
  have:=List.mem_range.1 (List.mem_of_find?_eq_some h)
  exact⟨by show (-1:Int)≤(i:Int);omega,by show (i:Int)<_;omega⟩
theorem znn{m:Mach}{ts:List Mach}{l:List (List Int)}(g:MOk m)(e: ∀ k,k<l.length→WI m.inputs (l.getD k default))(h:l.length≤40)(i:ts.length≤20):VX (z5m m ts l)∧(z5m m ts l).length=ts.length:=by
 have hlen:(z5m m ts l).length=ts.length:=by unfold z5m;rw [z6y]
 have hrow: ∀ k,k<ts.length→(z5m m ts l).getD k default=zas m (ts.getD k default) l:=fun k a=>by
  unfold z5m
  rw [ze2 a a]
 have b: ∀ k,k<(z5m m ts l).length→((z5m m ts l).getD k default).length=l.length:=fun k a=>by
  rw [hlen] at a
  rw [hrow k a];unfold zas;rw [z6y]
 have hcol:cols (z5m m ts l)=if(z5m m ts l).length=0 then 0 else l.length:=zj4 _ b
 have htot:tot (z5m m ts l)≤3000:=by
  have: ∀ n,n≤ts.length→z7g (z5m m ts l) n≤n*40:=by
   intro n
   induction n with
   |zero=>intro _;exact Nat.le_refl _
   |succ n ih=>
    intro o
    have f:=ih (by omega)
    have d:=b n (by omega)
    show z7g _ n+_≤_
    rw [d];omega
  have:=this ts.length (Nat.le_refl _)
  unfold tot
  rw [hlen];omega
 refine⟨⟨⟨by omega,htot⟩,fun k a=>?_,fun k a j c=>?_⟩,hlen⟩
 ·rw [b k a,hcol,if_neg (by omega)]
 ·have hk':k<ts.length:=by omega
  rw [b k a] at c
  rw [hrow k hk']
  unfold zas
  rw [ze2 c c]
  have f:=znp (z4z m 0 (l.getD j default)) (z4z (ts.getD k default) 0 (l.getD j default))
  have d:(z4z m 0 (l.getD j default)).length≤(l.getD j default).length:=Nat.le_of_eq (z3e _ _ _)
  have p:=(e j c).1
  unfold zdw
  omega
theorem zoh{x:MDat}{y:Sc}{z:Sd}(p:MDOk x)(I:LOk y)(J: ∀ k,k<z.fZ.length→0≤z.fZ.getD k default∧z.fZ.getD k default≤65535)(K:TOk z.fAf):si 5000 x y z=some true:=by
 have a:=zsg p
 have g:=zse (N:=5000) p (by decide)
 have L:(mOf x).rows.length≤6:=by
  have:=p.st
  have:x.n≤6:=by unfold MDat.n;omega
  simp [mOf];omega
 generalize mOf x=m at a g L
 obtain⟨l0,r,u,v⟩:=zrn I
 obtain⟨Z,w,M,A⟩:=zr7 a u v
 obtain⟨l,O,lS,ln,lw⟩:=zlu (P:=WI m.inputs) (fun z R=>by have:=R.1;omega) (by omega) A
 obtain⟨s,S,sM,sn⟩:=zkw a (by omega) J
 obtain⟨t,T,U,V,W⟩:=zra K a (by omega)
 have hall:ML m (s++[t]):=fun j b=>zet (Q:=fun t=>MOk t∧t.inputs=m.inputs∧t.rows.length≤22) sM ⟨U,V,W⟩ b
 have Y:(s++[t]).length=s.length+1:=by rw [List.length_append,List.length_singleton]
 have h: ∀ {q:Mach},MOk q→Small q:=fun {q} G=>⟨by have:=G.r2;omega,fun k d=>by have:=ze1 G d;omega⟩
 have H:KSm m (s++[t]) l:=⟨h a,by omega,fun k d=>h (hall k d).1,⟨by omega⟩⟩
 have B: ∀ k,k<l.length→z02 (l.getD k default) m.inputs=0:=fun k d=>zml a.i1 a.i2 (lw k d).2 (by have:=(lw k d).1;omega)
 have hready:zd3 m (s++[t]) l=0:=by
  unfold zd3
  rw [if_neg (by rw [(z4y m).2 a];decide)]
  have e:((s++[t]).map (zb0 m)).find? (fun c=>decide (c≠0))=none:=zce fun j b=>by
   rw [List.length_map] at b
   rw [z8h b]
   unfold zb0
   rw [if_neg (by rw [(z4y _).2 (hall j b).1];decide),if_neg (by rw [(hall j b).2.1];simp)]
  rw [e]
  show zbr l m.inputs=0
  have hloose:z8o l m.inputs=0:=by
   unfold z8o
   rw [if_neg (by have:=a.i2;omega),if_neg (by have:=a.i1;omega),zce fun j b=>by
    rw [List.length_map] at b
    rw [zc9 b];exact B j b]
   rfl
  unfold zbr
  rw [if_neg (by rw [hloose];decide),if_neg (by rw [lS.ord];decide)]
 obtain⟨f,o⟩:=znn (ts:=s++[t]) a lw (by omega) (by omega)
 have hkill:=zqa H (N:=5000) (by decide)
 rw [if_neg (by rw [hready];decide)] at hkill
 have hrkill:=zph H (N:=5000) (by decide) hready
 have hcols:=f.toBx.cols
 have hsame:iy 5000 ⟨z5m m (s++[t]) l⟩ ⟨z5m m (s++[t]) l⟩=some true:=zkc (by omega) (fun k d=>by rw [f.len k d];omega) (by decide)
 generalize z5m m (s++[t]) l=X at f o hkill hrkill hsame hcols
 unfold si
 refine(ji g).trans ?_
 refine(ji r).trans ?_
 refine(ji w).trans ?_
 refine(ji O).trans ?_
 refine(ji (show il 5000 ⟨m.inputs,m.outputs,m.rows⟩ z.fZ=some s from S)).trans ?_
 refine(ji (show z15 5000 z.fAf ⟨m.inputs,m.outputs,m.rows⟩=some t from T)).trans ?_
 refine(qc ⟨by simp only [List.length_singleton];omega,by simp only [List.length_singleton];omega⟩).trans ?_
 refine(ji (show z2s 5000 ⟨m.inputs,m.outputs,m.rows⟩ (s++[⟨t.inputs,t.outputs,t.rows⟩]) l=some (⟨X⟩,0) from hkill)).trans ?_
 refine(ji (x:=some ⟨X⟩) ((zj0 rfl).trans (by show (z13 5000 m (s++[t]) l).map some=_;rw [hrkill];rfl))).trans ?_
 refine(ji (x:=some true) ((zj0 rfl).trans (by show (iy 5000 ⟨X⟩ ⟨X⟩).map some=_;rw [hsame];rfl))).trans ?_
 refine(ji (x:=some 0) ((zj0 rfl).trans (by show (ae 5000 ⟨X⟩).map some=_;rw [zji f.toBx (by decide),zfg f];rfl))).trans ?_
 refine(cf (by
  show (((false||false)||false)||decide ((X.length:Int)≠(X.length:Int)))=false
  simp)).trans ?_
 refine(ji (show z1i 5000 ⟨X⟩=some (z7b X,0) from zij f (by decide))).trans ?_
 have C:(z7b X).length=X.length:=by unfold z7b;rw [z6y]
 refine(cf (by
  show (false||decide (((z7b X).length:Int)≠((s++[t]).length:Int)))=false
  rw [C,o];simp)).trans ?_
 have D:uw 5000 s t (⟨X⟩,0) (z7b X,0) 5000 0=some (Ex.go ()):=by
  refine z4l (fun F i (_:Unit)=>uw 5000 s t (⟨X⟩,0) (z7b X,0) F (i:Int)) X.length (fun _=>()) _ (fun F i hi=>?_) (fun F=>?_) (by omega)
  ·simp only [uw]
   have E:ix (z7b X) (i:Int)=z6g X i:=by
    rw [xk];unfold z7b;exact ze2 hi hi
   rw [cz (by show (i:Int)<((s++[t]).length:Int);omega),qc (jl (by omega)),ji (zl1 f (by decide) hi),E]
   refine(qc (fun _=>jl hi)).trans ?_
   refine(qc (fun _=>jl hi)).trans ?_
   refine(cf (by simp)).trans ?_
   rw [qc (jq (by omega))];rfl
  ·simp only [uw]
   rw [bz (by show¬(X.length:Int)<((s++[t]).length:Int);omega)]
 refine(ji D).trans ?_
 rw [znb,ji zp9]
end GV
end Go.Proofs.YtkhihcleegljhaaGreat

namespace Go.Proofs.YtkhihcleegljhaaGreat
namespace GV
theorem wf_u8{x:Int}(h:(Lit.int .u8 x).wf=true):0≤x∧x≤255:=by simpa [Lit.wf,IntKind.min,IntKind.max,IntKind.signed,IntKind.bits] using h
theorem wf_u16{x:Int}(h:(Lit.int .u16 x).wf=true):0≤x∧x≤65535:=by simpa [Lit.wf,IntKind.min,IntKind.max,IntKind.signed,IntKind.bits] using h
theorem zmv{x:MDat}{y:Sc}{z:Sd}(b:ztq x)(d:ztt y)(c:zss z):si 5000 x y z=some true:=by
 refine zoh ⟨wf_u8 b.1,wf_u8 b.2.1,wf_u8 b.2.2.1,fun k a=>wf_u16 (b.2.2.2.2.1 _ (z2u a))⟩ ⟨wf_u8 d.1,fun k a j e=>wf_u8 ((d.2.1 _ (z2u a)).1 _ (z2u e))⟩ (fun k a=>wf_u16 (c.1.1 _ (z2u a))) ⟨fun k a=>wf_u8 (c.2.1.1 _ (z2u a)),fun k a=>?_⟩
 have:=c.2.2.1 _ (z2u a)
 exact⟨wf_u8 this.1,wf_u8 this.2.1,wf_u8 this.2.2.1,wf_u8 this.2.2.2⟩
end GV
end Go.Proofs.YtkhihcleegljhaaGreat
