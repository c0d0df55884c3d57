import Derived.Test.YtkkcidhcfkmbjaaGreatDoorClsb
set_option linter.unusedVariables false
set_option linter.unusedSimpArgs false
set_option linter.unusedSectionVars false
namespace Go.Proofs.YtkkcidhcfkmbjaaGreatDoor
namespace GV
set_option maxRecDepth 100000
section
variable {N : Nat} {m : Mach}
/-! ### Words by their numbers-/
def dg(k:Nat):Nat→Nat→List Int
 |_,0=>[]
 |v,i+1=>((v%k:Nat):Int)::dg k (v/k) i
theorem zkw(k:Nat): ∀ i v,(dg k v i).length=i
 |0,v=>rfl
 |i+1,v=>by show (dg k (v/k) i).length+1=_;rw [zkw k i]
theorem zjt{k:Nat}{n:Int}(a:n.toNat=k)(b:1≤n): ∀ i v,WOk n (dg k v i)
 |0,v=>fun j c=>by simp [dg] at c
 |i+1,v=>z7n (by rw [a];exact Nat.mod_lt _ (by omega)) (zjt a b i (v/k))
theorem zit{k:Nat}{n:Int}(a:n.toNat=k): ∀ w:List Int,WOk n w→ ∃ v,v<k^w.length∧dg k v w.length=w
 | [],_=>⟨0,by simp,rfl⟩
 |c::w,h=>by
  obtain⟨i,rfl,hi,b⟩:=zds h
  obtain⟨v,d,e⟩:=zit a w b
  rw [a] at hi
  refine⟨i+k*v,?_,?_⟩
  ·rw [List.length_cons,Nat.pow_succ]
   calc i+k*v<k+k*v:=by omega
    _=(v+1)*k:=by rw [Nat.add_mul,Nat.one_mul,Nat.mul_comm k v,Nat.add_comm]
    _≤k^w.length*k:=Nat.mul_le_mul_right _ d
  ·show ((((i+k*v)%k:Nat):Int)::dg k ((i+k*v)/k) w.length)=_
   rw [Nat.add_mul_mod_self_left,Nat.mod_eq_of_lt hi,Nat.add_mul_div_left _ _ (by omega),Nat.div_eq_of_lt hi,Nat.zero_add,e]
theorem zda{k h:Nat}(b:k≤3)(f:h≤6)(g:10≤N):bg N (k:Int) (h:Int)=some ((k^h:Nat):Int):=by
 have c: ∀ j,j≤6→k^j≤729:=fun j a=>Nat.le_trans (Nat.pow_le_pow_left b j) (Nat.le_trans (Nat.pow_le_pow_right (by decide) a) (by decide))
 have d:jq N (k:Int) (h:Int) N 1 0=some ((k^h:Nat):Int):=by
  refine x9 (σ:=Int) (fun F j st=>jq N (k:Int) (h:Int) F st (j:Int)) h (fun j st=>st=((k^j:Nat):Int)) _ (fun F j st a hi=> .inr ?_) (fun F st hi=>?_) N 0 1 (Nat.zero_le _) (by omega) rfl
  ·subst hi
   have e:((k^j:Nat):Int)*(k:Int)=((k^(j+1):Nat):Int):=by rw [Nat.pow_succ,Int.natCast_mul]
   have:=c (j+1) (by omega)
   refine⟨_,rfl,?_⟩
   simp only [jq]
   rw [xw (by omega),e,zi (qi (by omega)),zi (qi (by omega))];rfl
  ·subst hi
   simp only [jq]
   rw [yj (by omega)]
 unfold bg
 rw [q8 d]
theorem zia{y:Mach}{z:Int×Int}{k h v:Nat}(d:y.inputs=(k:Int))(g:1≤k)(i:z.1=(h:Int))(l:h≤6)(e:v≤1000)(m:10≤N):je N y z N ([]:List Int) (v:Int) 0=some (dg k v h):=by
 refine x9 (σ:=List Int×Int) (fun F j st=>je N y z F st.1 st.2 (j:Int)) h (fun j st=> ∃ u:Nat,u≤1000∧st.2=(u:Int)∧st.1.length=j∧st.1++dg k u (h-j)=dg k v h) _ (fun F j st n hi=> .inr ?_) (fun F st hi=>?_) N 0 ([],(v:Int)) (Nat.zero_le _) (by omega) ⟨v,e,rfl,rfl,by simp⟩
 ·obtain⟨X,x⟩:=st
  obtain⟨u,f,b,c,a⟩:=hi
  dsimp only at b c a⊢
  subst b
  have o:u/k≤u:=Nat.div_le_self u k
  refine⟨(X++[((u%k:Nat):Int)],((u/k:Nat):Int)),⟨u/k,by omega,rfl,by simp [c],?_⟩,?_⟩
  ·rw [←a,List.append_assoc,show h-j=(h-(j+1))+1 by omega];rfl
  ·simp only [je]
   rw [xw (by omega),d,zi (by constructor<;>omega),zi ⟨by simp;omega,by simp;omega⟩,zi (by refine⟨by omega,by omega,by omega⟩),zi (qi (by omega))]
   rfl
 ·obtain⟨X,x⟩:=st
  obtain⟨u,f,b,c,a⟩:=hi
  dsimp only at b c a⊢
  simp only [je]
  rw [yj (by omega),←a,Nat.sub_self]
  show some X=some (X++[])
  rw [List.append_nil]
/-! ### The reference's check-/
theorem zec{κ:Type}[DecidableEq κ]{f:Nat→κ}{n:Nat}(C:300≤N)(D:n≤64):xe N (yt f n)=some 0:=by
 have E:=z6k f n
 have d: ∀ k,k<n→uf N (yt f n) (k:Int) N (k:Int) ((k:Int)-1)=some ((o7 f k:Nat):Int):=by
  intro k b
  obtain⟨v,w,y⟩:=p9 f k
  have key: ∀ F (j:Nat) (x:Nat),j≤k→j<F→(x=k∨f x=f k)→(∀ t,j≤t→t<k→f t=f k→x≤t)→(x≤k∧j≤x)→uf N (yt f n) (k:Int) F (x:Int) ((j:Int)-1)=some ((o7 f k:Nat):Int):=by
   intro F
   induction F with
   |zero=>intro j x g d;omega
   |succ F ih=>
    intro j x g d a c p
    have h3':f x=f k:=by rcases a with rfl|a;rfl;exact a
    simp only [uf]
    by_cases e:j=0
    ·subst e
     rw [yj (by omega)]
     have:o7 f k=x:=by
      refine z6f (bq.2 fun t z A=>?_) h3' p.1
      have:=c t (by omega) (by omega) (A.trans h3')
      omega
     rw [this]
    ·obtain⟨i,rfl⟩: ∃ i,j=i+1:=⟨j-1,by omega⟩
     rw [xw (by omega),show ((i+1:Nat):Int)-1=(i:Int) by omega]
     by_cases e2:f i=f k
     ·refine(q8 (x:=(i:Int)) ?_).trans ?_
      ·rw [zi (j5 (by omega)),zi (j5 (by omega)),ru (by omega),ru b,xw (by rw [ae.2 e2])]
      ·rw [zi (qi (by omega))]
       exact ih i i (by omega) (by omega) (.inr e2) (fun t l m o=>l) ⟨by omega,by omega⟩
     ·refine(q8 (x:=(x:Int)) ?_).trans ?_
      ·rw [zi (j5 (by omega)),zi (j5 (by omega)),ru (by omega),ru b,yj (fun h=>e2 (ae.1 (by omega)))]
      ·rw [zi (qi (by omega))]
       refine ih i x (by omega) (by omega) a (fun t l m o=>?_) ⟨p.1,by omega⟩
       by_cases e3:t=i
       ·subst e3;exact absurd o e2
       ·exact c t (by omega) m o
  exact key N k k (Nat.le_refl _) (by omega) (.inl rfl) (fun t l m _=>by omega) ⟨Nat.le_refl _,Nat.le_refl _⟩
 have c: ∀ j,j<n→jr N (yt f n) (j:Int) N 1 0=some (if fu f j=true then 1 else 0):=by
  intro j q
  refine x9 (σ:=Int) (fun F t st=>jr N (yt f n) (j:Int) F st (t:Int)) j (fun t st=>st=if(∀ u,u<t→f u≠f j) then 1 else 0) _ (fun F t st z hi=> .inr ?_) (fun F st hi=>?_) N 0 1 (Nat.zero_le _) (by omega) (by rw [if_pos (fun u s=>by omega)])
  ·subst hi
   refine⟨_,rfl,?_⟩
   simp only [jr]
   rw [xw (by omega),zi (j5 (by omega)),zi (j5 (by omega)),ru (by omega),ru q]
   by_cases e:f t=f j
   ·rw [xw (by rw [ae.2 e]),zkf,zi (qi (by omega)),if_neg (fun h=>h t (Nat.lt_succ_self t) e)];rfl
   ·rw [yj (fun h=>e (ae.1 (by omega))),zkf,zi (qi (by omega))]
    have hiff:(∀ u,u<t+1→f u≠f j)↔ ∀ u,u<t→f u≠f j:=⟨fun h u s=>h u (by omega),fun h u s=>by
     by_cases e2:u=t
     ·subst e2;exact e
     ·exact h u (by omega)⟩
    by_cases hh: ∀ u,u<t→f u≠f j
    ·rw [if_pos hh,if_pos (hiff.2 hh)];rfl
    ·rw [if_neg hh,if_neg (fun h=>hh (hiff.1 h))];rfl
  ·subst hi
   simp only [jr]
   rw [yj (by omega)]
   by_cases hh: ∀ u,u<j→f u≠f j
   ·rw [if_pos hh,if_pos (bq.2 hh)]
   ·rw [if_neg hh,if_neg (fun h=>hh (bq.1 h))]
 have a: ∀ r,r<n→jo N (yt f n) (r:Int) N 0 0=some (cntF f r:Int):=by
  intro r G
  refine x9 (σ:=Int) (fun F j st=>jo N (yt f n) (r:Int) F st (j:Int)) r (fun j st=>st=(cntF f j:Int)) _ (fun F j st q hi=> .inr ?_) (fun F st hi=>?_) N 0 0 (Nat.zero_le _) (by omega) rfl
  ·subst hi
   have H:=z8t f j
   have B:cntF f (j+1)=cntF f j+if fu f j=true then 1 else 0:=rfl
   refine⟨_,rfl,?_⟩
   simp only [jo]
   rw [xw (by omega),q8 (c j (by omega)),B]
   by_cases e:fu f j=true
   ·rw [if_pos e,if_pos e,zi (qi (by omega)),zi (qi (by omega))];rfl
   ·rw [if_neg e,if_neg e,zi (qi (by omega)),zi (qi (by omega)),Int.add_zero];rfl
  ·subst hi
   simp only [jo]
   rw [yj (by omega)]
 have g:jv N (yt f n) N 0=some (Ex.go ()):=by
  refine x9 (σ:=Unit) (fun F k _=>jv N (yt f n) F (k:Int)) n (fun _ _=>True) _ (fun F k _ b _=> .inr ⟨(),trivial,?_⟩) (fun F _ _=>?_) N 0 () (Nat.zero_le _) (by omega) trivial
  ·obtain⟨v,w,y⟩:=p9 f k
   simp only [jv]
   rw [xw (by omega)]
   refine(q8 (x:=((o7 f k:Nat):Int)) (by rw [zi (qi (by omega))];exact d k b)).trans ?_
   rw [q8 (a _ (by omega)),zi (j5 (by omega)),ru b,yj (fun h=>h rfl),zi (qi (by omega))];rfl
  ·simp only [jv]
   rw [yj (by omega)]
 unfold xe
 rw [yj (by omega),q8 g];rfl
end
end GV
end Go.Proofs.YtkkcidhcfkmbjaaGreatDoor
