
import Derived.Test.YtnnobdkjgafdmaaSpec09a
import Derived.Test.YtnnobdkjgafdmaaLaw04c
import Derived.Test.YtnnobdkjgafdmaaSpec06g
set_option linter.unusedVariables false
set_option linter.unusedSimpArgs false
set_option linter.unusedSectionVars false
namespace Go.Proofs.Ytnnobdkjgafdmaa
namespace GV
set_option maxRecDepth 100000
/-! ### First ones,merged-/
theorem zgx{m:Mach}:(z97 m).length=m.rows.length:=zlh _
theorem zhi{m:Mach}{s:Nat}(a:s<m.rows.length):(z97 m).getD s default=(cls m s:Int):=zpy a
section
variable {N : Nat} {m : Mach}
/-! ### The map-/
end
end GV
end Go.Proofs.Ytnnobdkjgafdmaa

namespace Go.Proofs.Ytnnobdkjgafdmaa
namespace GV
set_option maxRecDepth 100000
/-! ### First ones-/
section
variable {N : Nat} {m : Mach}
end
end GV
end Go.Proofs.Ytnnobdkjgafdmaa

namespace Go.Proofs.Ytnnobdkjgafdmaa
namespace GV
set_option maxRecDepth 100000
theorem zw6{m:Mach}(a:MOk m):zln m=z7c m:=by
 have b:lh m=0:=(z3b m).2 a
 have hmul:=a.mul
 have c:=zjc a m.rows.length (Nat.le_refl _)
 have d:(zkn m).length=(z5e m (m.rows.length*m.inputs.toNat)).length:=rfl
 have e:zt8 m=z8p m m.rows.length:=rfl
 unfold zln z7c
 rw [if_neg (by rw [b];simp),hmul.2]
 by_cases h:(zkn m).length=0
 ·rw [decide_eq_true (by omega),decide_eq_true (by omega)]
 ·rw [decide_eq_false (by omega),decide_eq_false (by omega)]
theorem zf5{κ:Type}[DecidableEq κ]{f:Nat→κ}: ∀ {n:Nat},cntF f n=n↔ ∀ u,u<n→z2q f u=true
 |0=>⟨fun _ u b=>by omega,fun _=>rfl⟩
 |n+1=>by
  have ih:=zf5 (f:=f) (n:=n)
  have c:=zg3 f n
  have a:cntF f (n+1)=cntF f n+if z2q f n=true then 1 else 0:=rfl
  by_cases h:z2q f n=true
  ·rw [if_pos h] at a
   rw [a]
   constructor
   ·intro e u b
    by_cases e':u=n
    ·subst e';exact h
    ·exact ih.1 (by omega) u (by omega)
   ·intro e
    have:=ih.2 fun u b=>e u (by omega)
    omega
  ·rw [if_neg h] at a
   rw [a]
   exact⟨fun e=>by omega,fun e=>absurd (e n (by omega)) h⟩
theorem zyf{m:Mach}{k:Nat}(d:1≤k):max ((cntF (cls m) k:Int)-1) (cls m k:Int)=(cntF (cls m) (k+1):Int)-1:=by
 have b:cntF (cls m) (k+1)=cntF (cls m) k+if z2q (cls m) k=true then 1 else 0:=rfl
 have c:=zn2 (m:=m) k
 by_cases h:z2q (cls m) k=true
 ·rw [if_pos h] at b
  rw [zej h] at c
  omega
 ·rw [if_neg h] at b
  have f:=z2r (cls m) k
  have a:=z8u (cls m) k
  have g:z7q (cls m) k≠k:=fun e=>h (by rw [e] at a;exact a)
  have i:=zga (cls m) (show z7q (cls m) k<k by omega) a
  have j:cntF (cls m) (z7q (cls m) k)=cls m k:=c
  omega
def zj2(m:Mach):Bool:=decide (cntF (cls m) m.rows.length=m.rows.length)
noncomputable def properM(m:Mach):Int:=if lh m≠0 then lh m else if z7c m=false then 9 else if connB m=false then 11 else if zj2 m=false then 12 else 0
section
variable {N : Nat} {m : Mach}
theorem zxn(f:Nat→Nat):cntF f 1=1:=by
 have:z2q f 0=true:=ll.2 fun t a=>by omega
 show 0+(if z2q f 0=true then 1 else 0)=1
 rw [if_pos this]
theorem q0v(c:MOk m)(l:200≤N):slices_Max_int N (z97 m)=some ((cntF (cls m) m.rows.length:Int)-1):=by
 have e:(z97 m).length=m.rows.length:=zgx
 have a:=c.r1;have f:=c.r2
 have g:ix (z97 m) 0=(cntF (cls m) 1:Int)-1:=by
  have:ix (z97 m) 0=((cls m 0:Nat):Int):=zhi (s:=0) (by omega)
  rw [this,zvf,zxn];rfl
 have h:ny N (z97 m) N ((cntF (cls m) 1:Int)-1) 1=some ((cntF (cls m) m.rows.length:Int)-1):=by
  refine oh (σ:=Int) (fun F k st=>ny N (z97 m) F st (k:Int)) m.rows.length (fun k st=>1≤k∧st=(cntF (cls m) k:Int)-1) _ (fun F k st i b=> .inr ?_) (fun F st b=>?_) N 1 _ a (by omega) ⟨Nat.le_refl _,rfl⟩
  ·obtain⟨d,rfl⟩:=b
   refine⟨_,⟨by omega,rfl⟩,?_⟩
   simp only [ny]
   have j:ix (z97 m) (k:Int)=((cls m k:Nat):Int):=zhi i
   rw [xu (by omega),zl (jk (by omega)),zl (jb (by omega)),j,zyf d]
   rfl
  ·obtain⟨d,rfl⟩:=b
   simp only [ny]
   rw [yo (by omega)]
 unfold slices_Max_int
 rw [yo (by omega),zl ⟨by omega,by omega⟩,g,qc h]
theorem zte(a:MOk m)(b:200≤N):z1e N m=some (zj2 m):=by
 have c:(z97 m).length=m.rows.length:=zgx
 have d:=a.r2
 obtain⟨j,e⟩:=zoc (N:=N) a b
 unfold z1e
 rw [qc e,qc (q0v a b),zl (jb (by dsimp only;omega))]
 unfold zj2
 by_cases h:cntF (cls m) m.rows.length=m.rows.length
 ·rw [decide_eq_true h,decide_eq_true (by dsimp only;omega)]
 ·rw [decide_eq_false h,decide_eq_false (by dsimp only;omega)]
theorem zs5(a:MOk m)(b:200≤N):z18 N m=some (connB m):=by
 unfold z18
 rw [qc (zlp a.small b),(z3b m).2 a];rfl
theorem zs6(a:MOk m)(b:200≤N):z1b N m=some (z7c m):=by
 unfold z1b
 rw [qc (znl a.small b),zw6 a]
theorem zsi(c:Small m)(a:200≤N):z1q N m=some (properM m):=by
 unfold z1q properM
 rw [qc (zdd c a)]
 by_cases h:lh m≠0
 ·rw [xu h,if_pos h]
 ·rw [yo h,if_neg h]
  have b:=(z3b m).1 (by omega)
  refine(zcb (x:=(m,m,m))).trans ?_
  refine(qc (zs6 b a)).trans ?_
  cases z7c m
  ·rfl
  refine(cf rfl).trans ?_
  refine(qc (zs5 b a)).trans ?_
  cases connB m
  ·rfl
  refine(cf rfl).trans ?_
  refine(qc (zte b a)).trans ?_
  cases zj2 m<;>rfl
theorem zon(a:Small m)(b:200≤N):lg N m=some (properM m):=by
 unfold lg properM
 rw [qc (zsc a b)]
 by_cases h:lh m≠0
 ·rw [xu h,if_pos h]
 ·rw [yo h,if_neg h]
  have c:=(z3b m).1 (by omega)
  have j:=c.r2
  have k:(z97 m).length=m.rows.length:=zgx
  refine(qc (zla c b)).trans ?_
  cases z7c m
  ·rfl
  refine(cf rfl).trans ?_
  refine(qc (ztx c b)).trans ?_
  cases connB m
  ·rfl
  refine(cf rfl).trans ?_
  refine(qc (zmu c b)).trans ?_
  have hget: ∀ s,s<m.rows.length→ix (z97 m) (s:Int)=((cls m s:Nat):Int):=fun s a=>zhi a
  have f: ∀ s,s<m.rows.length→yl N (z97 m) (s:Int) N 0=some (if z2q (cls m) s=true then Ex.go () else Ex.rt (Ex.rt 12)):=fun s a=>by
   refine oh (σ:=Unit) (fun F t _=>yl N (z97 m) (s:Int) F (t:Int)) s (fun t _=> ∀ u,u<t→cls m u≠cls m s) _ (fun F t _ d hi=>?_) (fun F _ hi=>?_) N 0 () (Nat.zero_le _) (by omega) (fun u g=>by omega)
   ·simp only [yl]
    rw [xu (by omega),zl (jk (by omega)),zl (jk (by omega)),hget s a,hget t (by omega)]
    by_cases e:cls m s=cls m t
    ·left
     rw [xu (by omega),if_neg (fun l=>ll.1 l t d e.symm)]
    ·right
     refine⟨(),fun u g=>?_,?_⟩
     ·by_cases e':u=t
      ·subst e';exact fun h=>e h.symm
      ·exact hi u (by omega)
     ·rw [yo (by omega),zl (jb (by omega))];rfl
   ·simp only [yl]
    rw [yo (by omega),if_pos (ll.2 hi)]
  have i:yj N (z97 m) N 0=some (if zj2 m=true then Ex.go () else Ex.rt 12):=by
   refine oh (σ:=Unit) (fun F t _=>yj N (z97 m) F (t:Int)) m.rows.length (fun t _=> ∀ u,u<t→z2q (cls m) u=true) _ (fun F t _ d hi=>?_) (fun F _ hi=>?_) N 0 () (Nat.zero_le _) (by omega) (fun u g=>by omega)
   ·simp only [yj]
    rw [xu (by omega),qc (f t d)]
    by_cases e:z2q (cls m) t=true
    ·right
     refine⟨(),fun u g=>?_,?_⟩
     ·by_cases e':u=t
      ·subst e';exact e
      ·exact hi u (by omega)
     ·rw [if_pos e,zgk,zl (jb (by omega))];rfl
    ·left
     have:zj2 m=false:=decide_eq_false fun h=>e (zf5.1 h t d)
     rw [if_neg e,this];rfl
   ·simp only [yj]
    have:zj2 m=true:=decide_eq_true (zf5.2 hi)
    rw [yo (by omega),if_pos this]
  refine(qc i).trans ?_
  cases zj2 m<;>rfl
end
/-! ### Homomorphisms-/
section
variable {N : Nat} {a b : Mach} {f : List Int}
structure HOk (a b:Mach) (f:List Int):Prop where
 ha:MOk a
 hb:MOk b
 hi:a.inputs=b.inputs
 hl:f.length=a.rows.length
 hr: ∀ k,k<f.length→0≤f.getD k default∧f.getD k default<b.rows.length
end
end GV
end Go.Proofs.Ytnnobdkjgafdmaa

namespace Go.Proofs.Ytnnobdkjgafdmaa
namespace GV
set_option maxRecDepth 100000
section
variable {m : Mach}
end
end GV
end Go.Proofs.Ytnnobdkjgafdmaa

namespace Go.Proofs.Ytnnobdkjgafdmaa
namespace GV
section sea
variable {T : Type} [DecidableEq T]
abbrev LS (T:Type):=List (T×List Int)×List T
def zcy(s:LS T)(x:T)(w:List Int):LS T:=if x∈s.2 then s else(s.1++[(x,w)],s.2++[x])
def z6q(next:T→Int→T)(x:T)(w:List Int)(s:LS T):Nat→LS T
 |0=>s
 |i+1=>zcy (z6q next x w s i) (next x (i:Int)) (w++[(i:Int)])
def zai(next:T→Int→T)(ni:Nat)(s:LS T):List (T×List Int)→LS T
 | []=>s
 |p::L=>zai next ni (z6q next p.1 p.2 s ni) L
def zeb(next:T→Int→T)(isb:T→Bool)(ni:Nat):Nat→List (T×List Int)→List T→Option (List Int)
 |0,_,_=>none
 |g+1,L,S=>if L=[] then none else match L.find? fun p=>isb p.1 with
  |some p=>some p.2
  |none=>zeb next isb ni g (zai next ni ([],S) L).1 (zai next ni ([],S) L).2
def runT(next:T→Int→T)(x:T)(w:List Int):T:=w.foldl next x
def WIn(ni:Nat)(w:List Int):Prop:= ∀ i∈w,0≤i∧i<(ni:Int)
theorem z4d{next:T→Int→T}{x:T}{w:List Int}{i:Int}:runT next x (w++[i])=next (runT next x w) i:=by simp [runT]
theorem WIn.snoc{ni:Nat}{w:List Int}{i:Int}(h:WIn ni w)(b:0≤i)(c:i<(ni:Int)):WIn ni (w++[i]):=fun j a=>by
 rcases List.mem_append.1 a with a|a
 ·exact h j a
 ·rw [List.mem_singleton.1 a];exact⟨b,c⟩
theorem WIn.append{ni:Nat}{w v:List Int}(h:WIn ni w)(k:WIn ni v):WIn ni (w++v):=fun j a=>by
 rcases List.mem_append.1 a with a|a
 ·exact h j a
 ·exact k j a
theorem WIn.init{ni:Nat}{w:List Int}{i:Int}(h:WIn ni (w++[i])):WIn ni w∧0≤i∧i<(ni:Int):=
 ⟨fun j a=>h j (List.mem_append.2 (.inl a)),h i (List.mem_append.2 (.inr (List.mem_singleton.2 rfl)))⟩
theorem zkh{w:List Int}{k:Nat}(h:w.length=k+1): ∃ v i,w=v++[i]∧v.length=k:=by
 have a:w≠[]:=by intro e;rw [e] at h;simp at h
 refine⟨w.dropLast,w.getLast a,(List.dropLast_concat_getLast a).symm,?_⟩
 rw [List.length_dropLast];omega
structure PS (S0:List T) (Q:T→List Int→Prop) (s:LS T):Prop where
 seen:s.2=S0++s.1.map Prod.fst
 nd:s.2.Nodup
 ord:s.1.Pairwise fun a b=>llt a.2 b.2
 out: ∀ q∈s.1,Q q.1 q.2
 got: ∀ x w,Q x w→x∈S0∨ ∃ q∈s.1,q.1=x∧lle q.2 w
theorem PS.congr{S0:List T}{Q Q':T→List Int→Prop}{s:LS T}(h:PS S0 Q s)(e: ∀ x w,Q x w↔Q' x w):PS S0 Q' s:=
 ⟨h.seen,h.nd,h.ord,fun q a=>(e _ _).1 (h.out q a),fun x w b=>h.got x w ((e _ _).2 b)⟩
theorem zxl{S0:List T}{Q:T→List Int→Prop}{s:LS T}{x:T}{w:List Int}(h:PS S0 Q s)(i: ∀ x' w',Q x' w'→llt w' w):PS S0 (fun x' w'=>Q x' w'∨(x'=x∧w'=w)) (zcy s x w):=by
 unfold zcy
 by_cases d:x∈s.2
 ·rw [if_pos d]
  refine⟨h.seen,h.nd,h.ord,fun q c=> .inl (h.out q c),fun x' w' hw'=>?_⟩
  rcases hw' with hw'|⟨rfl,rfl⟩
  ·exact h.got x' w' hw'
  ·rw [h.seen] at d
   rcases List.mem_append.1 d with d|d
   ·exact .inl d
   ·obtain⟨q,c,rfl⟩:=List.mem_map.1 d
    exact .inr ⟨q,c,rfl,.inr (i _ _ (h.out q c))⟩
 ·rw [if_neg d]
  refine⟨?_,?_,?_,fun q c=>?_,fun x' w' hw'=>?_⟩
  ·show s.2++[x]=S0++(s.1++[(x,w)]).map Prod.fst
   rw [h.seen,List.map_append,List.append_assoc];rfl
  ·show (s.2++[x]).Nodup
   rw [List.nodup_append]
   refine⟨h.nd,List.nodup_cons.2 ⟨List.not_mem_nil,List.nodup_nil⟩,fun a f b g e=>?_⟩
   rw [List.mem_singleton.1 g] at e
   exact d (e▸f)
  ·show (s.1++[(x,w)]).Pairwise _
   rw [List.pairwise_append]
   exact⟨h.ord,List.pairwise_singleton ..,fun a f b g=>by rw [List.mem_singleton.1 g];exact i _ _ (h.out a f)⟩
  ·rcases List.mem_append.1 c with c|c
   ·exact .inl (h.out q c)
   ·rw [List.mem_singleton.1 c];exact .inr ⟨rfl,rfl⟩
  ·rcases hw' with hw'|⟨rfl,rfl⟩
   ·rcases h.got x' w' hw' with k|⟨q,c,k⟩
    ·exact .inl k
    ·exact .inr ⟨q,List.mem_append.2 (.inl c),k⟩
   ·exact .inr ⟨(x',w'),List.mem_append.2 (.inr (List.mem_singleton.2 rfl)),rfl,.inl rfl⟩
theorem zqg{next:T→Int→T}{S0:List T}{Q:T→List Int→Prop}{s:LS T}{x:T}{w:List Int}(h:PS S0 Q s)(b: ∀ x' w',Q x' w'→ ∀ j:Int,llt w' (w++[j])):
 ∀ k:Nat,PS S0 (fun x' w'=>Q x' w'∨ ∃ j:Nat,j<k∧x'=next x (j:Int)∧w'=w++[(j:Int)]) (z6q next x w s k)
 |0=>h.congr fun x' w'=>⟨.inl,fun h=>h.resolve_right fun⟨j,a,_⟩=>by omega⟩
 |k+1=>by
  refine(zxl (zqg h b k) (x:=next x (k:Int)) (w:=w++[(k:Int)]) fun x' w' hw'=>?_).congr fun x' w'=>?_
  ·rcases hw' with hw'|⟨j,a,_,rfl⟩
   ·exact b x' w' hw' _
   ·exact zlz w (by omega)
  ·constructor
   ·rintro((h|⟨j,a,h⟩)|h)
    ·exact .inl h
    ·exact .inr ⟨j,by omega,h⟩
    ·exact .inr ⟨k,by omega,h⟩
   ·rintro(h|⟨j,a,h⟩)
    ·exact .inl (.inl h)
    ·by_cases e:j=k
     ·subst e;exact .inr h
     ·exact .inl (.inr ⟨j,by omega,h⟩)
theorem zr9{next:T→Int→T}{ni:Nat}{S0:List T}: ∀ {L:List (T×List Int)} {Q:T→List Int→Prop} {s:LS T},PS S0 Q s→L.Pairwise (fun a b=>llt a.2 b.2)→(∀ x' w',Q x' w'→ ∀ p∈L,∀ j:Int,llt w' (p.2++[j]))→
 PS S0 (fun x' w'=>Q x' w'∨ ∃ p∈L,∃ j:Nat,j<ni∧x'=next p.1 (j:Int)∧w'=p.2++[(j:Int)]) (zai next ni s L)
 | [],Q,s,h,_,_=>h.congr fun x' w'=>⟨.inl,fun h=>h.resolve_right fun⟨p,d,_⟩=>absurd d List.not_mem_nil⟩
 |p::L,Q,s,h,e,c=>by
  obtain⟨f,g⟩:=List.pairwise_cons.1 e
  refine(zr9 (L:=L) (zqg h (fun x' w' hw' j=>c x' w' hw' p (List.mem_cons_self ..) j) ni) g fun x' w' hw' p' hp' j=>?_).congr fun x' w'=>?_
  ·rcases hw' with hw'|⟨i,hi,_,rfl⟩
   ·exact c x' w' hw' p' (List.mem_cons_of_mem _ hp') j
   ·exact zhz _ _ (f p' hp')
  ·constructor
   ·rintro((h|h)|⟨p',hp',h⟩)
    ·exact .inl h
    ·exact .inr ⟨p,List.mem_cons_self ..,h⟩
    ·exact .inr ⟨p',List.mem_cons_of_mem _ hp',h⟩
   ·rintro(h|⟨p',hp',h⟩)
    ·exact .inl (.inl h)
    ·rcases List.mem_cons.1 hp' with rfl|hp'
     ·exact .inl (.inr h)
     ·exact .inr ⟨p',hp',h⟩
structure LI (next:T→Int→T) (isb:T→Bool) (ni:Nat) (x0:T) (k:Nat) (L:List (T×List Int)) (S:List T):Prop where
 wd: ∀ p∈L,p.2.length=k∧WIn ni p.2∧p.1=runT next x0 p.2
 nd:S.Nodup
 ord:L.Pairwise fun a b=>llt a.2 b.2
 seen: ∀ x,x∈S↔ ∃ v,v.length≤k∧WIn ni v∧x=runT next x0 v
 rep: ∀ v,v.length=k→WIn ni v→(∃ p∈L,p.1=runT next x0 v∧lle p.2 v)∨ ∃ u,u.length<k∧WIn ni u∧runT next x0 u=runT next x0 v
 no: ∀ v,v.length<k→WIn ni v→isb (runT next x0 v)=false
 num:L≠[]→k<S.length
 sub: ∀ p∈L,p.1∈S
theorem zvn{next:T→Int→T}{isb:T→Bool}{ni:Nat}{a:T}:LI next isb ni a 0 [(a,[])] [a]:=by
 have d: ∀ p∈[(a,([]:List Int))],p=(a,[]):=fun p b=>List.mem_singleton.1 b
 refine⟨fun p b=>?_,List.nodup_cons.2 ⟨List.not_mem_nil,List.nodup_nil⟩,List.pairwise_singleton ..,fun x=>?_,fun v c e=>?_,fun v c=>by omega,fun _=>Nat.zero_lt_one,fun p b=>?_⟩
 ·rw [d p b];exact⟨rfl,fun i hi=>absurd hi List.not_mem_nil,rfl⟩
 ·rw [List.mem_singleton]
  constructor
  ·rintro rfl;exact⟨[],Nat.le_refl _,fun i hi=>absurd hi List.not_mem_nil,rfl⟩
  ·rintro⟨v,c,_,rfl⟩
   rw [List.length_eq_zero_iff.1 (Nat.le_zero.1 c)];rfl
 ·rw [List.length_eq_zero_iff.1 c]
  exact .inl ⟨(a,[]),List.mem_singleton.2 rfl,rfl,.inl rfl⟩
 ·rw [d p b];exact List.mem_singleton.2 rfl
theorem q0c{next:T→Int→T}{isb:T→Bool}{ni:Nat}{a:T}{k:Nat}{L:List (T×List Int)}{S:List T}(h:LI next isb ni a k L S):
 PS S (fun x' w'=> ∃ p∈L,∃ j:Nat,j<ni∧x'=next p.1 (j:Int)∧w'=p.2++[(j:Int)]) (zai next ni ([],S) L):=by
 refine(zr9 (next:=next) (ni:=ni) (L:=L) (Q:=fun _ _=>False) (s:=([],S)) (S0:=S) ⟨by simp,h.nd,List.Pairwise.nil,fun q b=>absurd b List.not_mem_nil,fun _ _ h=>h.elim⟩ h.ord fun _ _ h=>h.elim).congr fun x' w'=>?_
 exact⟨fun h=>h.resolve_left id,.inr⟩
theorem zg4{next:T→Int→T}{isb:T→Bool}{ni:Nat}{t:T}{k:Nat}{L:List (T×List Int)}{S:List T}(h:LI next isb ni t k L S)(A: ∀ p∈L,isb p.1=false):
 LI next isb ni t (k+1) (zai next ni ([],S) L).1 (zai next ni ([],S) L).2:=by
 have n:=q0c h
 generalize zai next ni ([],S) L=s at n
 have hseen: ∀ x,x∈s.2↔x∈S∨ ∃ q∈s.1,q.1=x:=fun x=>by rw [n.seen,List.mem_append,List.mem_map]
 have hout: ∀ q∈s.1,q.2.length=k+1∧WIn ni q.2∧q.1=runT next t q.2:=fun q f=>by
  obtain⟨p,d,j,J,o,y⟩:=n.out q f
  obtain⟨B,C,D⟩:=h.wd p d
  rw [o,y]
  exact⟨by simp [B],C.snoc (by omega) (by omega),by rw [z4d,D]⟩
 have hnew: ∀ v,v.length=k+1→WIn ni v→(runT next t v∈S)∨ ∃ q∈s.1,q.1=runT next t v∧lle q.2 v:=fun v r l=>by
  obtain⟨v',i,rfl,hv'⟩:=zkh r
  obtain⟨hw',E,F⟩:=l.init
  rcases h.rep v' hv' hw' with⟨p,d,o,y⟩|⟨u,z,m,e⟩
  ·obtain⟨j,rfl⟩: ∃ j:Nat,i=(j:Int):=⟨i.toNat,by omega⟩
   rcases n.got (next p.1 (j:Int)) (p.2++[(j:Int)]) ⟨p,d,j,by omega,rfl,rfl⟩ with g|⟨q,f,G,H⟩
   ·left;rw [z4d,←o];exact g
   ·right;exact⟨q,f,by rw [G,z4d,←o],zel H (zm4 _ y)⟩
  ·left
   rw [z4d,←e,←z4d (next:=next),h.seen]
   exact⟨u++[i],by simp;omega,m.snoc E F,rfl⟩
 refine⟨hout,n.nd,n.ord,fun x=>?_,fun v r l=>?_,fun v r l=>?_,fun w=>?_,fun q f=>(hseen _).2 (.inr ⟨q,f,rfl⟩)⟩
 ·rw [hseen]
  constructor
  ·rintro(I|⟨q,f,rfl⟩)
   ·obtain⟨v,r,l,e⟩:=(h.seen x).1 I
    exact⟨v,by omega,l,e⟩
   ·obtain⟨a,b,c⟩:=hout q f
    exact⟨q.2,by omega,b,c⟩
  ·rintro⟨v,r,l,rfl⟩
   by_cases e:v.length=k+1
   ·rcases hnew v e l with g|⟨q,f,g,_⟩
    ·exact .inl g
    ·exact .inr ⟨q,f,g⟩
   ·exact .inl ((h.seen _).2 ⟨v,by omega,l,rfl⟩)
 ·rcases hnew v r l with g|g
  ·obtain⟨u,z,m,e⟩:=(h.seen _).1 g
   exact .inr ⟨u,by omega,m,e.symm⟩
  ·exact .inl g
 ·by_cases e:v.length=k
  ·rcases h.rep v e l with⟨p,d,o,_⟩|⟨u,z,m,o⟩
   ·rw [←o];exact A p d
   ·rw [←o];exact h.no u z m
  ·exact h.no v (by omega) l
 ·have hlen:s.2.length=S.length+s.1.length:=by rw [n.seen,List.length_append,List.length_map]
  have K:0<s.1.length:=List.length_pos_iff.2 w
  by_cases hL:L=[]
  ·exfalso
   obtain⟨q,f⟩:=List.exists_mem_of_ne_nil _ w
   obtain⟨p,d,_⟩:=n.out q f
   rw [hL] at d;exact absurd d List.not_mem_nil
  ·have:=h.num hL;omega
theorem ziq{isb:T→Bool}: ∀ {L:List (T×List Int)} {p:T×List Int},L.Pairwise (fun a b=>llt a.2 b.2)→L.find? (fun p=>isb p.1)=some p→ ∀ q∈L,isb q.1=true→lle p.2 q.2
 | [],p,_,h,q,c,_=>absurd c List.not_mem_nil
 |a::L,p,e,h,q,c,d=>by
  obtain⟨f,g⟩:=List.pairwise_cons.1 e
  rw [List.find?_cons] at h
  cases ha:isb a.1 with
  |true=>
   rw [ha] at h
   obtain rfl:=Option.some.inj h
   rcases List.mem_cons.1 c with rfl|c
   ·exact .inl rfl
   ·exact .inr (f q c)
  |false=>
   rw [ha] at h
   rcases List.mem_cons.1 c with rfl|c
   ·rw [ha] at d;cases d
   ·exact ziq g h q c d
def Lst(next:T→Int→T)(isb:T→Bool)(ni:Nat)(a:T)(w:List Int):Prop:=WIn ni w∧isb (runT next a w)=true∧ ∀ v,WIn ni v→isb (runT next a v)=true→lle w v
theorem zzz{next:T→Int→T}{isb:T→Bool}{ni:Nat}{b:T}{k:Nat}{S:List T}(h:LI next isb ni b k [] S): ∀ v,WIn ni v→isb (runT next b v)=false:=by
 have key: ∀ n v,v.length=n→WIn ni v→ ∃ u,u.length<k∧WIn ni u∧runT next b u=runT next b v:=by
  have base: ∀ v,v.length≤k→WIn ni v→ ∃ u,u.length<k∧WIn ni u∧runT next b u=runT next b v:=fun v c a=>by
   by_cases e:v.length=k
   ·exact(h.rep v e a).resolve_left fun⟨p,l,_⟩=>absurd l List.not_mem_nil
   ·exact⟨v,by omega,a,rfl⟩
  intro n
  induction n with
  |zero=>intro v c a;exact base v (by omega) a
  |succ n ih=>
   intro v c a
   obtain⟨v',i,rfl,hv'⟩:=zkh c
   obtain⟨hw',m,o⟩:=a.init
   obtain⟨u,r,d,e⟩:=ih v' hv' hw'
   obtain⟨q,f,g,j⟩:=base (u++[i]) (by simp;omega) (d.snoc m o)
   exact⟨q,f,g,by rw [j,z4d,z4d,e]⟩
 intro v a
 obtain⟨u,f,g,j⟩:=key v.length v rfl a
 rw [←j];exact h.no u f g
theorem zji{next:T→Int→T}{isb:T→Bool}{ni:Nat}{f:T}{w:List Int}: ∀ {g k:Nat} {L:List (T×List Int)} {S:List T},LI next isb ni f k L S→zeb next isb ni g L S=some w→Lst next isb ni f w
 |0,k,L,S,h,e=>by cases e
 |g+1,k,L,S,h,e=>by
  unfold zeb at e
  by_cases hL:L=[]
  ·rw [if_pos hL] at e;cases e
  ·rw [if_neg hL] at e
   cases hf:L.find? (fun p=>isb p.1) with
   |some p=>
    rw [hf] at e
    obtain rfl:=Option.some.inj e
    have b:=List.mem_of_find?_eq_some hf
    have j:=List.find?_some hf
    obtain⟨t,l,m⟩:=h.wd p b
    refine⟨l,by rw [←m];exact j,fun v i a=>?_⟩
    by_cases hk:v.length<k
    ·rw [h.no v hk i] at a;cases a
    ·by_cases hk2:v.length=k
     ·rcases h.rep v hk2 i with⟨q,n,c,o⟩|⟨u,r,d,c⟩
      ·exact zel (ziq h.ord hf q n (by rw [c];exact a)) o
      ·rw [←c,h.no u r d] at a;cases a
     ·exact .inr (.inl (by omega))
   |none=>
    rw [hf] at e
    exact zji (zg4 h fun p s=>by simpa using List.find?_eq_none.1 hf p s) e
theorem zjy{next:T→Int→T}{isb:T→Bool}{ni:Nat}{b:T}: ∀ {g k:Nat} {L:List (T×List Int)} {S:List T},LI next isb ni b k L S→zeb next isb ni g L S=none→ ∀ v,WIn ni v→v.length<k+g→isb (runT next b v)=false
 |0,k,L,S,h,e,v,a,c=>h.no v (by omega) a
 |g+1,k,L,S,h,e,v,a,c=>by
  unfold zeb at e
  by_cases hL:L=[]
  ·subst hL;exact zzz h v a
  ·rw [if_neg hL] at e
   cases hf:L.find? (fun p=>isb p.1) with
   |some p=>rw [hf] at e;cases e
   |none=>
    rw [hf] at e
    exact zjy (zg4 h fun p d=>by simpa using List.find?_eq_none.1 hf p d) e v a (by omega)
end sea
end GV
end Go.Proofs.Ytnnobdkjgafdmaa

namespace Go.Proofs.Ytnnobdkjgafdmaa
namespace GV
set_option maxRecDepth 100000
theorem zni(m:Mach)(a:MOk m): ∀ k,k≤m.rows.length→z8p m k≤m.inputs.toNat*k
 |0,_=>by simp [z8p]
 |k+1,h=>by
  have b:=zni m a k (by omega)
  have c:=a.row k (by omega)
  have d:=zg8 (m.rows.getD k default) (m.rows.getD k default).length
  rw [z8x m k (by omega),Nat.mul_succ]
  omega
theorem zrd{m:Mach}(a:MOk m){k i:Nat}(b:k<m.rows.length)(hi:i<(m.rows.getD k default).length)(c:((m.rows.getD k default).getD i default).to<0): ∀ j,k<j→j≤m.rows.length→z8p m j<m.inputs.toNat*j
 |0,h,_=>by omega
 |j+1,h,g=>by
  have hrow:=a.row j (by omega)
  have l:=zg8 (m.rows.getD j default) (m.rows.getD j default).length
  rw [z8x m j (by omega),Nat.mul_succ]
  by_cases e:k=j
  ·subst e
   have n:z8p m k≤m.inputs.toNat*k:=zni m a k (by omega)
   have o:zcj (m.rows.getD k default) (m.rows.getD k default).length<(m.rows.getD k default).length:=by
    unfold zcj
    rw [List.take_length]
    refine Nat.lt_of_le_of_ne List.countP_le_length fun d=>?_
    have f:=List.countP_eq_length.1 d _ (z1o hi)
    exact absurd (of_decide_eq_true f) (by omega)
   omega
  ·have:=zrd a b hi c j (by omega) (by omega)
   omega
theorem zso{m:Mach}(a:MOk m)(h:z7c m=true){k i:Nat}(b:k<m.rows.length)(hi:i<(m.rows.getD k default).length):0≤((m.rows.getD k default).getD i default).to:=by
 by_cases hn:((m.rows.getD k default).getD i default).to<0
 ·have e:=zrd a b hi hn m.rows.length b (Nat.le_refl _)
  unfold z7c at h
  have c:=of_decide_eq_true h
  rw [a.mul.2] at c
  have d:zt8 m=m.rows.length*m.inputs.toNat:=Int.ofNat.inj c
  unfold zt8 at d
  rw [Nat.mul_comm] at d
  omega
 ·omega
theorem zwy{m:Mach}(h:properM m=0):MOk m∧z7c m=true∧connB m=true∧zj2 m=true:=by
 unfold properM at h
 by_cases hc:lh m=0
 ·rw [if_neg (by omega)] at h
  refine⟨(z3b m).1 hc,?_⟩
  cases h1:z7c m
  ·rw [h1,if_pos rfl] at h;omega
  cases h2:connB m
  ·rw [h1,h2,if_neg Bool.noConfusion,if_pos rfl] at h;omega
  cases h3:zj2 m
  ·rw [h1,h2,h3,if_neg Bool.noConfusion,if_neg Bool.noConfusion,if_pos rfl] at h;omega
  exact⟨rfl,rfl,rfl⟩
 ·rw [if_pos hc] at h;exact absurd h hc
theorem zi8{κ β:Type}[DecidableEq κ](z:β)(M:List (κ×β))(k:κ)(v:β)(j:κ):z3s z (z5m M k v) j=if j=k then v else z3s z M j:=by
 induction M with
 |nil=>unfold z5m z3s;rfl
 |cons p M ih=>
  unfold z5m
  by_cases h:k=p.1
  ·rw [if_pos h]
   unfold z3s
   by_cases e:j=k
   ·rw [if_pos e,if_pos e]
   ·rw [if_neg e,if_neg e,if_neg (fun q=>e (q.trans h.symm))]
  ·rw [if_neg h]
   unfold z3s
   by_cases e:j=p.1
   ·rw [if_pos e,if_pos e,if_neg (fun q=>h (q.symm.trans e))]
   ·rw [if_neg e,if_neg e];exact ih
theorem zxq{α:Type}[Inhabited α]{s:List α}{a:Nat}(h:a<s.length):s.take (a+1)=s.take a++[s.getD a default]:=by
 rw [List.take_add_one,List.getD_eq_getElem?_getD,List.getElem?_eq_getElem h];rfl
theorem z5o{α:Type}[Inhabited α]{L:List α}{i:Nat}(h:i<L.length):L.getD i default∈L:=by
 rw [List.getD_eq_getElem?_getD,List.getElem?_eq_getElem h];exact List.getElem_mem h
theorem z6s{σ ρ:Type}(L:Nat→Nat→σ→Option ρ)(n:Nat)(st:Nat→σ)(r:ρ)(step: ∀ F k,k<n→L (F+1) k (st k)=L F (k+1) (st (k+1)))(fin: ∀ F,L (F+1) n (st n)=some r){F:Nat}(c:n<F):L F 0 (st 0)=some r:=
 oh L n (fun k s=>s=st k) r (fun F k s b a=> .inr ⟨_,rfl,by rw [a];exact step F k b⟩) (fun F s a=>by rw [a];exact fin F) F 0 (st 0) (Nat.zero_le _) (by omega) rfl
theorem zd9{α:Type}{b:Bool}{e:Option α}{x:α}(h:b=true)(a:e=some x):gop b e=some (some x):=by rw [zyp h,a];rfl
structure CM (m:Mach):Prop where
 ok:MOk m
 full: ∀ s i,s<m.rows.length→i<(m.rows.getD s default).length→0≤((m.rows.getD s default).getD i default).to
def InS(m:Mach)(s:Int):Prop:=0≤s∧s<(m.rows.length:Int)
def edI(m:Mach)(s i:Int):Edge:=ix (ix m.rows s) i
abbrev nIn (m:Mach):Nat:=m.inputs.toNat
theorem CM.nin{m:Mach}(h:CM m):((nIn m:Nat):Int)=m.inputs:=by have:=h.ok.i1;show ((m.inputs.toNat:Nat):Int)=_;omega
theorem CM.row{m:Mach}(h:CM m){s:Int}(c:InS m s):((ix m.rows s).length:Int)=m.inputs:=by
 obtain⟨a,b⟩:=c
 exact h.ok.row s.toNat (by omega)
theorem CM.edge{m:Mach}(h:CM m){s i:Int}(d:InS m s)(j:0≤i)(k:i<m.inputs):InS m (edI m s i).to∧0≤(edI m s i).out∧(edI m s i).out<m.outputs:=by
 obtain⟨a,b⟩:=d
 have l:((m.rows.getD s.toNat default).length:Int)=m.inputs:=h.ok.row s.toNat (by omega)
 have n:=h.full s.toNat i.toNat (by omega) (by omega)
 rcases h.ok.edge s.toNat i.toNat (by omega) (by omega) with⟨c,_⟩|⟨c,e,f,g⟩
 ·omega
 ·exact⟨⟨c,e⟩,f,g⟩
theorem CM.okr{m:Mach}(h:CM m){s i:Int}(a:InS m s)(b:0≤i)(c:i<m.inputs):okI (ix m.rows s) i:=⟨b,by rw [h.row a];exact c⟩
theorem zie{m:Mach}{s i:Int}(c:InS m s):z1h m s i=edI m s i:=by
 obtain⟨a,b⟩:=c
 unfold z1h;rw [if_neg (by omega)];rfl
theorem WIn.head{n:Nat}{i:Int}{w:List Int}(h:WIn n (i::w)):0≤i∧i<(n:Int):=h i (List.mem_cons_self ..)
theorem WIn.tail{n:Nat}{i:Int}{w:List Int}(h:WIn n (i::w)):WIn n w:=fun j a=>h j (List.mem_cons_of_mem _ a)
theorem WIn.cons{n:Nat}{i:Int}{w:List Int}(b:0≤i)(c:i<(n:Int))(h:WIn n w):WIn n (i::w):=fun j a=>by
 rcases List.mem_cons.1 a with rfl|a
 ·exact⟨b,c⟩
 ·exact h j a
theorem WIn.nil{n:Nat}:WIn n []:=fun j a=>absurd a List.not_mem_nil
theorem CM.wok{m:Mach}(h:CM m){w:List Int}:WIn (nIn m) w↔WOk m.inputs w:=by
 have c:=h.nin
 constructor
 ·intro b k a
  have:=b _ (z5o a)
  rw [c] at this;exact this
 ·intro b i hi
  obtain⟨k,a,rfl⟩:=List.mem_iff_getElem.1 hi
  have:=b k a
  rw [List.getD_eq_getElem?_getD,List.getElem?_eq_getElem a] at this
  rw [c];exact this
theorem CM.aft{m:Mach}(h:CM m): ∀ {w:List Int} {s:Int},InS m s→WIn (nIn m) w→InS m (z1s m s w)
 | [],s,a,_=>a
 |i::w,s,a,b=>by
  have:=b.head
  rw [h.nin] at this
  have:=(h.edge a this.1 this.2).1
  unfold z1s
  rw [zie a]
  exact h.aft this b.tail
def tgt(m:Mach)(s i:Nat):Nat:=(edI m (s:Int) (i:Int)).to.toNat
theorem CM.tgt{m:Mach}(h:CM m){s i:Nat}(c:s<m.rows.length)(hi:i<nIn m):GV.tgt m s i<m.rows.length∧(edI m (s:Int) (i:Int)).to=(GV.tgt m s i:Int):=by
 have d:=h.nin
 obtain⟨⟨a,b⟩,_⟩:=h.edge (s:=(s:Int)) (i:=(i:Int)) ⟨by omega,by omega⟩ (by omega) (by omega)
 unfold GV.tgt
 exact⟨by omega,by omega⟩
def tb(x:Int)(s:Nat):Bool:=x.toNat.testBit s
theorem zao(k s:Nat):p9 (k:Int) (s:Int)=((k/2^s:Nat):Int):=by
 show Int.fdiv (k:Int) (2^((s:Int).toNat))=_
 rw [Int.toNat_natCast,Int.fdiv_eq_ediv_of_nonneg _ (by exact_mod_cast Nat.zero_le _)]
 norm_cast
theorem ze1(a b:Nat):z0j (a:Int) (b:Int)=((a&&&b:Nat):Int):=rfl
theorem zl7{x:Int}(a:0≤x)(s:Nat):decide (z0j (p9 x (s:Int)) 1=1)=tb x s:=by
 obtain⟨k,rfl⟩: ∃ k:Nat,x=(k:Int):=⟨x.toNat,by omega⟩
 rw [zao,show (1:Int)=((1:Nat):Int) from rfl,ze1,Nat.and_one_is_mod]
 unfold tb
 rw [Int.toNat_natCast,Nat.testBit_eq_decide_div_mod_eq]
 by_cases h:k/2^s%2=1
 ·rw [decide_eq_true h,decide_eq_true (by omega)]
 ·rw [decide_eq_false h,decide_eq_false (by omega)]
theorem zbi{x:Int}(a:0≤x∧x≤65535)(s:Nat):0≤p9 x (s:Int)∧p9 x (s:Int)≤65535:=by
 obtain⟨k,rfl⟩: ∃ k:Nat,x=(k:Int):=⟨x.toNat,by omega⟩
 rw [zao]
 have:=Nat.div_le_self k (2^s)
 generalize k/2^s=q at this⊢
 omega
theorem zd7{t:Nat}(h:t<16):1≤2^t∧2^t≤32768:=⟨Nat.one_le_two_pow,by
 have:=Nat.pow_le_pow_right (n:=2) (by decide) (show t≤15 by omega)
 omega⟩
theorem z6y{t:Nat}(h:t<16):su .u16 1 (t:Int)=((2^t:Nat):Int):=by
 have:=zd7 h
 unfold su
 rw [Int.toNat_natCast,Int.one_mul,show ((2:Int)^t)=((2^t:Nat):Int) by norm_cast]
 exact z4h _ (by omega) (by show ((2^t:Nat):Int)≤65535;omega)
theorem zuz{x:Int}(a:0≤x)(t s:Nat):tb (ior x ((2^t:Nat):Int)) s=(tb x s||decide (s=t)):=by
 unfold tb ior
 rw [Int.toNat_natCast,Int.toNat_natCast,Nat.testBit_or,Nat.testBit_two_pow]
 by_cases h:s=t
 ·subst h;simp
 ·rw [decide_eq_false h,decide_eq_false (fun e=>h e.symm)]
theorem zv2{x:Int}{n t:Nat}(b:0≤x)(c:x<((2^n:Nat):Int))(a:t<n):0≤ior x ((2^t:Nat):Int)∧ior x ((2^t:Nat):Int)<((2^n:Nat):Int):=by
 refine⟨Int.natCast_nonneg _,?_⟩
 unfold ior
 rw [Int.toNat_natCast]
 exact Int.ofNat_lt.2 (Nat.or_lt_two_pow (by omega) (Nat.pow_lt_pow_right (by decide) a))
theorem zvz{x y:Int}(a:0≤x)(b:0≤y)(h: ∀ s,tb x s=tb y s):x=y:=by
 have:=Nat.eq_of_testBit_eq h
 omega
theorem zwj{x:Int}{n s:Nat}(b:x<((2^n:Nat):Int))(a:n≤s):tb x s=false:=by
 unfold tb
 by_cases h0:0≤x
 ·exact Nat.testBit_lt_two_pow (Nat.lt_of_lt_of_le (show x.toNat<2^n by omega) (Nat.pow_le_pow_right (by decide) a))
 ·rw [show x.toNat=0 by omega,Nat.zero_testBit]
theorem zg9(s:Nat):tb 0 s=false:=Nat.zero_testBit s
def bmk(p:Nat→Bool):Nat→Int
 |0=>0
 |n+1=>if p n=true then ior (bmk p n) ((2^n:Nat):Int) else bmk p n
theorem z5h(p:Nat→Bool): ∀ n,0≤bmk p n∧bmk p n<((2^n:Nat):Int)
 |0=>⟨Int.le_refl _,by show (0:Int)<((1:Nat):Int);decide⟩
 |n+1=>by
  obtain⟨a,b⟩:=z5h p n
  have c:((2^n:Nat):Int)<((2^(n+1):Nat):Int):=Int.ofNat_lt.2 (Nat.pow_lt_pow_right (by decide) (Nat.lt_succ_self n))
  unfold bmk
  split
  ·exact zv2 a (by omega) (Nat.lt_succ_self n)
  ·exact⟨a,by omega⟩
theorem z4s(p:Nat→Bool): ∀ n s,tb (bmk p n) s=(decide (s<n)&&p s)
 |0,s=>by rw [show bmk p 0=0 from rfl,zg9];simp
 |n+1,s=>by
  unfold bmk
  by_cases hp:p n=true
  ·rw [if_pos hp,zuz (z5h p n).1,z4s p n s]
   by_cases h:s=n
   ·subst h;simp [hp]
   ·rw [decide_eq_false h,Bool.or_false]
    by_cases h2:s<n
    ·rw [decide_eq_true h2,decide_eq_true (by omega)]
    ·rw [decide_eq_false h2,decide_eq_false (by omega)]
  ·rw [if_neg hp,z4s p n s]
   by_cases h:s=n
   ·subst h;simp [hp]
   ·by_cases h2:s<n
    ·rw [decide_eq_true h2,decide_eq_true (by omega)]
    ·rw [decide_eq_false h2,decide_eq_false (by omega)]
theorem zet{x:Int}{n:Nat}{p:Nat→Bool}(a:0≤x)(b:x<((2^n:Nat):Int))(h: ∀ s,s<n→tb x s=p s):x=bmk p n:=by
 refine zvz a (z5h p n).1 fun s=>?_
 rw [z4s]
 by_cases hs:s<n
 ·rw [h s hs,decide_eq_true hs,Bool.true_and]
 ·rw [zwj b (by omega),decide_eq_false hs,Bool.false_and]
theorem z94{p q:Nat→Bool}{n:Nat}(h: ∀ s,s<n→p s=q s):bmk p n=bmk q n:=zet (z5h p n).1 (z5h p n).2 fun s a=>by rw [z4s,decide_eq_true a,Bool.true_and,h s a]
def pcB(x:Int):Nat:=(List.range 16).countP (tb x)
theorem znq: ∀ k,k<256→strT1.getD k default=((List.range 8).countP (fun s=>k.testBit s):Int):=by
 have h:(List.range 256).all (fun k=>decide (strT1.getD k default=((List.range 8).countP (fun s=>k.testBit s):Int)))=true:=by decide+kernel
 intro k a
 exact of_decide_eq_true (List.all_eq_true.1 h k (List.mem_range.2 a))
theorem zsn(k:Nat):pcB (k:Int)=(List.range 8).countP (fun s=>(k/256).testBit s)+(List.range 8).countP (fun s=>(k%256).testBit s):=by
 have e:List.range 16=List.range 8++(List.range 8).map (· +8):=by decide
 unfold pcB
 rw [e,List.countP_append,List.countP_map,Nat.add_comm]
 congr 1
 ·refine List.countP_congr fun s a=>?_
  show (tb (k:Int) (s+8)=true)↔_
  unfold tb
  rw [Int.toNat_natCast,show (256:Nat)=2^8 from rfl,Nat.testBit_div_two_pow,Nat.add_comm]
 ·refine List.countP_congr fun s a=>?_
  have a:=List.mem_range.1 a
  unfold tb
  rw [Int.toNat_natCast,show (256:Nat)=2^8 from rfl,Nat.testBit_mod_two_pow,decide_eq_true a,Bool.true_and]
theorem zk8{N:Nat}{x:Int}(h:0≤x∧x≤65535):om N x=some (pcB x:Int):=by
 obtain⟨k,rfl⟩: ∃ k:Nat,x=(k:Int):=⟨x.toNat,by omega⟩
 have a:k/256<256:=by omega
 have b:k%256<256:=by omega
 have c:p9 (k:Int) (8:Int)=((k/256:Nat):Int):=zao k 8
 have d:z0j (k:Int) 255=((k%256:Nat):Int):=by
  rw [show (255:Int)=((255:Nat):Int) from rfl,ze1]
  have:=Nat.and_two_pow_sub_one_eq_mod k 8
  rw [show (255:Nat)=2^8-1 from rfl,this]
 have l:strT1.length=256:=by decide
 have e:=List.countP_le_length (p:=fun s=>(k/256).testBit s) (l:=List.range 8)
 have f:=List.countP_le_length (p:=fun s=>(k%256).testBit s) (l:=List.range 8)
 rw [List.length_range] at e f
 have g:=zsn k
 have w:IntKind.u8.wrap (strT1.getD (k/256) default+strT1.getD (k%256) default)=(pcB (k:Int):Int):=by
  rw [znq _ a,znq _ b,z4h _ (by omega) (by show _≤(255:Int);omega),g];rfl
 unfold om
 rw [zl ⟨by decide,by decide⟩,c,d,zl (jk (by rw [l];exact a)),zl ⟨⟨by omega,by show (k:Int)≤65535;omega⟩,by decide,by decide⟩,zl (jk (by rw [l];exact b)),z0g,z0g,w,zl (jb (by omega))]
theorem zhl{p:Nat→Bool}: ∀ {l:List Nat},l.Nodup→(1<l.countP p↔ ∃ a b,a∈l∧b∈l∧a≠b∧p a=true∧p b=true)
 | [],_=>by simp
 |c::l,k=>by
  obtain⟨m,n⟩:=List.nodup_cons.1 k
  rw [List.countP_cons]
  by_cases hc:p c=true
  ·rw [if_pos hc]
   constructor
   ·intro h
    obtain⟨a,f,d⟩:=List.countP_pos_iff.1 (show 0<l.countP p by omega)
    exact⟨c,a,List.mem_cons_self ..,List.mem_cons_of_mem _ f,fun e=>m (e▸f),hc,d⟩
   ·rintro⟨a,b,f,g,j,d,i⟩
    have:0<l.countP p:=List.countP_pos_iff.2 (by
     rcases List.mem_cons.1 f with rfl|f
     ·rcases List.mem_cons.1 g with rfl|g
      ·exact absurd rfl j
      ·exact⟨b,g,i⟩
     ·exact⟨a,f,d⟩)
    omega
  ·rw [if_neg hc,Nat.add_zero,zhl n]
   constructor
   ·rintro⟨a,b,f,g,h⟩
    exact⟨a,b,List.mem_cons_of_mem _ f,List.mem_cons_of_mem _ g,h⟩
   ·rintro⟨a,b,f,g,j,d,i⟩
    rcases List.mem_cons.1 f with rfl|f
    ·exact absurd d hc
    ·rcases List.mem_cons.1 g with rfl|g
     ·exact absurd i hc
     ·exact⟨a,b,f,g,j,d,i⟩
theorem zg6{x:Int}(f:x<65536):1<pcB x↔ ∃ a b,a≠b∧tb x a=true∧tb x b=true:=by
 unfold pcB
 rw [zhl List.nodup_range]
 have d: ∀ a,tb x a=true→a∈List.range 16:=fun a c=>by
  rw [List.mem_range]
  by_cases h:a<16
  ·exact h
  ·rw [zwj (n:=16) (by omega) (by omega)] at c;cases c
 constructor
 ·rintro⟨a,b,_,_,h⟩;exact⟨a,b,h⟩
 ·rintro⟨a,b,h,c,e⟩;exact⟨a,b,d a c,d b e,h,c,e⟩
def z9d(m:Mach)(x:Int)(i:Nat)(q:Nat→Bool)(k t:Nat):Bool:=(List.range k).any fun s=>(tb x s&&q s)&&decide (tgt m s i=t)
def zbk(m:Mach)(x:Int)(i:Nat)(q:Nat→Bool):Int:=bmk (z9d m x i q m.rows.length) m.rows.length
theorem zem{m:Mach}{x:Int}{i:Nat}{q:Nat→Bool}{k t:Nat}:z9d m x i q (k+1) t=(z9d m x i q k t||((tb x k&&q k)&&decide (tgt m k i=t))):=by
 unfold z9d;rw [List.range_succ,List.any_append];simp
theorem zin{m:Mach}{x:Int}{i:Nat}{q:Nat→Bool}{k t:Nat}:z9d m x i q k t=true↔ ∃ s,s<k∧tb x s=true∧q s=true∧tgt m s i=t:=by
 unfold z9d
 rw [List.any_eq_true]
 constructor
 ·rintro⟨s,a,h⟩
  rw [Bool.and_eq_true,Bool.and_eq_true,decide_eq_true_iff] at h
  exact⟨s,List.mem_range.1 a,h.1.1,h.1.2,h.2⟩
 ·rintro⟨s,a,b,c,d⟩
  exact⟨s,List.mem_range.2 a,by rw [b,c,decide_eq_true d];rfl⟩
theorem zu0{m:Mach}(h:CM m){x:Int}{i:Nat}(hi:i<nIn m){q:Nat→Bool}{t:Nat}:tb (zbk m x i q) t=true↔ ∃ s,s<m.rows.length∧tb x s=true∧q s=true∧tgt m s i=t:=by
 unfold zbk
 rw [z4s,Bool.and_eq_true,decide_eq_true_iff,zin]
 constructor
 ·rintro⟨_,h⟩;exact h
 ·rintro⟨s,a,b,c,rfl⟩;exact⟨(h.tgt a hi).1,s,a,b,c,rfl⟩
theorem zqf(m:Mach)(x:Int)(i:Nat)(q:Nat→Bool):0≤zbk m x i q∧zbk m x i q<((2^m.rows.length:Nat):Int):=z5h _ _
theorem zlu{m:Mach}{x:Int}{i k n:Nat}{q:Nat→Bool}(c:tgt m k i<n)(j:n≤16):(if(tb x k&&q k)=true then ior (bmk (z9d m x i q k) n) (su .u16 1 (tgt m k i:Int)) else bmk (z9d m x i q k) n)=bmk (z9d m x i q (k+1)) n:=by
 obtain⟨a,d⟩:=z5h (z9d m x i q k) n
 by_cases hb:(tb x k&&q k)=true
 ·rw [if_pos hb,z6y (by omega)]
  obtain⟨f,g⟩:=zv2 a d c
  refine zet f g fun s b=>?_
  rw [zuz a,z4s,decide_eq_true b,Bool.true_and,zem,hb,Bool.true_and]
  congr 1
  by_cases e:s=tgt m k i
  ·rw [decide_eq_true e,decide_eq_true e.symm]
  ·rw [decide_eq_false e,decide_eq_false (fun h=>e h.symm)]
 ·rw [if_neg hb]
  refine z94 fun s b=>?_
  rw [zem,show (tb x k&&q k)=false by simpa using hb,Bool.false_and,Bool.or_false]
end GV
end Go.Proofs.Ytnnobdkjgafdmaa

namespace Go.Proofs.Ytnnobdkjgafdmaa
namespace GV
set_option maxRecDepth 100000
structure PM (m:Mach):Prop extends CM m where
 prop:properM m=0
 r6:m.rows.length≤6
theorem q2g{m:Mach}(h:properM m=0)(c:m.rows.length≤6):PM m:=by
 obtain⟨a,b,_,_⟩:=zwy h
 exact⟨⟨a,fun s i d hi=>zso a b d hi⟩,h,c⟩
theorem PM.pos{m:Mach}(h:PM m):1≤m.rows.length:=h.ok.r1
noncomputable def readyI(m:Mach):Int:=if properM m≠0 then properM m else if 6<m.rows.length then 3 else 0
theorem ready_eq{m:Mach}(a:Small m):z0h 5000 m=some (readyI m):=by
 unfold z0h readyI
 rw [qc (zsi a (by decide))]
 by_cases h:properM m=0
 ·rw [yo (fun e=>e h),if_neg (fun e=>e h)]
  by_cases h6:6<m.rows.length
  ·rw [xu (by omega),if_pos h6]
  ·rw [yo (by omega),if_neg h6]
 ·rw [xu h,if_pos h]
theorem PM.ready{m:Mach}(h:PM m):readyI m=0:=by
 have:=h.r6
 unfold readyI
 rw [if_neg (fun e=>e h.prop),if_neg (by omega)]
theorem zyh{m:Mach}(h:readyI m=0):PM m:=by
 unfold readyI at h
 by_cases hp:properM m=0
 ·rw [if_neg (fun e=>e hp)] at h
  by_cases h6:6<m.rows.length
  ·rw [if_pos h6] at h;cases h
  ·exact q2g hp (by omega)
 ·rw [if_pos hp] at h;exact absurd h hp
theorem PM.ready_eq{m:Mach}(h:PM m):z0h 5000 m=some 0:=by rw [GV.ready_eq h.ok.small,h.ready]
end GV
end Go.Proofs.Ytnnobdkjgafdmaa
