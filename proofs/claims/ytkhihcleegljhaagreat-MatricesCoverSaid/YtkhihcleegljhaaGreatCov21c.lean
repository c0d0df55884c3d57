
import Derived.Test.YtkhihcleegljhaaGreatMat21c
import Derived.Test.YtkhihcleegljhaaGreatSort21b
set_option linter.unusedVariables false
set_option linter.unusedSimpArgs false
namespace Go.Proofs.YtkhihcleegljhaaGreat
namespace GV
set_option maxRecDepth 100000
theorem zm0{N:Nat}{X:List (List Int)}{is:Int→Option Bool}{p:Nat→Bool}(h:Bx X)(d:5000≤N)(a: ∀ k,k<X.length→is (k:Int)=some (p k)):rz N ⟨X⟩ is=some (aj p X.length):=by
 have e:=h.rows
 have b:yn N ⟨X⟩ is N [] 0=some (aj p X.length):=by
  refine z0b (fun F k s=>yn N ⟨X⟩ is F s (k:Int)) X.length (fun k=>aj p k) _ (fun F k c=>?_) (fun F=>?_) (by omega)
  ·have f:=z1u p k
   simp only [yn]
   rw [di (by omega),a k c,z1j]
   cases hb:p k
   ·rw [cond_false,z1j,zl (jf (by omega))]
    simp only [aj,hb,cond_false];rfl
   ·rw [cond_true,zl ⟨by simp only [List.length_singleton];omega,by simp only [List.length_singleton];omega⟩,z1j,zl (jf (by omega))]
    simp only [aj,hb,cond_true];rfl
  ·simp only [yn]
   rw [p9 (by omega)]
 unfold rz
 rw [qf b]
theorem zk8{N:Nat}{X:List (List Int)}(h:Bx X)(a:5000≤N):rz N ⟨X⟩ (fun b=>xg N ⟨X⟩ b)=some (z0s X):=zm0 h a fun k c=>zez h a c
theorem zde{N:Nat}{l:List Int}: ∀ (F:Nat) (i:Nat) (o:List Int) (B:Int),l.length<5000→i≤l.length→l.length-i<F→(∀ c∈l,0≤c∧c<o.length)→Bd o B→0≤B→B+((l.length-i:Nat):Int)≤1000000000→yt N l F (i:Int) o=some (addL o (l.drop i))
 |0,i,o,B,_,_,h,_,_,_,_=>by omega
 |F+1,i,o,B,j,hi,n,d,f,b,p=>by
  simp only [yt]
  by_cases e:i=l.length
  ·rw [p9 (by omega),e,List.drop_length];rfl
  ·have hi':i<l.length:=by omega
   have g:=d (l.getD i default) (z00 hi')
   have k:=f (l.getD i default).toNat
   have a:okI o (ix l (i:Int)):=⟨g.1,g.2⟩
   rw [di (by omega),zl (wh hi'),zl a,zl (jf (by rw [ma,zim];omega)),zl a,zl (jf (by omega))]
   have hlen:(incr o (l.getD i default)).length=o.length:=zbc
   have:=zde (N:=N) F (i+1) (incr o (l.getD i default)) (B+1) j hi' (by omega) (by rw [hlen];exact d) (f.incr (by omega) b) (by omega) (by omega)
   have m:l.drop i=l.getD i default::l.drop (i+1):=by
    rw [List.drop_eq_getElem_cons hi',z6r hi']
   rw [m]
   exact this
theorem zdz{N:Nat}{X:List (List Int)}{rows:List Int}(h:VX X)(f:5000≤N)(g: ∀ i∈rows,0≤i∧i<(X.length:Int)): ∀ (F:Nat) (i:Nat) (o:List Int) (B:Int),rows.length≤1000→i≤rows.length→rows.length-i<F→o.length=cols X→Bd o B→0≤B→B+((rows.length-i:Nat):Int)*3000≤900000000→
 yu N ⟨X⟩ rows F (i:Int) o=some (zc0 X (rows.drop i) o)
 |0,i,o,B,_,_,h,_,_,_,_=>by omega
 |F+1,i,o,B,n,hi,q,d,j,b,r=>by
  simp only [yu]
  by_cases e:i=rows.length
  ·rw [p9 (by omega),e,List.drop_length];rfl
  ·have hi':i<rows.length:=by omega
   obtain⟨s,t⟩:=g (rows.getD i default) (z00 hi')
   obtain⟨k,m⟩: ∃ k:Nat,rows.getD i default=(k:Int):=⟨(rows.getD i default).toNat,by omega⟩
   have a:k<X.length:=by omega
   have hlen:=zm2 (X.getD k default)
   have hrow:=h.toBx.row a
   have c:=zg5 h a
   rw [di (by omega),zl (wh hi'),ma,m,qf (z8n h.toBx f a),qf (show yt N (kl (X.getD k default)) N 0 o=_ from zde (N:=N) (l:=kl (X.getD k default)) N 0 o B (by omega) (Nat.zero_le _) (by omega) (by rw [d];exact c) j b (by omega)),zl (jf (by omega))]
   have hstep:=zdz (N:=N) h f g F (i+1) (addL o (kl (X.getD k default))) (B+(kl (X.getD k default)).length) n hi' (by omega) (by rw [zh9];exact d) (j.addL (by rw [d];exact c) b) (by omega) (by omega)
   have p:rows.drop i=rows.getD i default::rows.drop (i+1):=by
    rw [List.drop_eq_getElem_cons hi',z6r hi']
   rw [p,m]
   exact hstep
theorem zhz{N:Nat}{X:List (List Int)}{rows:List Int}(h:VX X)(a:5000≤N)(b: ∀ i∈rows,0≤i∧i<(X.length:Int))(d:rows.length≤100):lm N ⟨X⟩ rows=some (zc0 X rows (List.replicate (cols X) 0)):=by
 have e:=h.toBx.cols
 have c:=zdz (N:=N) h a b N 0 (List.replicate (cols X) 0) 0 (by omega) (Nat.zero_le _) (by omega) (List.length_replicate ..) (fun j=>by
  by_cases hj:j<cols X
  ·rw [z6r (by rw [List.length_replicate];exact hj),List.getElem_replicate];decide
  ·rw [zqq (by rw [List.length_replicate];omega)];decide) (by decide) (by omega)
 unfold lm
 rw [qf (z8q h.toBx (by omega)),zl ⟨by omega,by omega,by omega⟩,zkz,qf (show yu N ⟨X⟩ rows N 0 (List.replicate (cols X) 0)=_ from c)]
 rfl
/-! ### taking out-/
/-! ### the best-/
/-! ### Greedy,Essential-/
theorem zhd{X:List Int}(h:X.length≤1000):slices_Sort_int 5000 X=some (z2g X):=by
 unfold slices_Sort_int
 rw [zl (by omega)]
/-! ### Cover-/
theorem zje{x y:Int}(c:z6m x)(d:z6m y):z6m (ior x y):=by
 refine⟨Int.natCast_nonneg _,?_⟩
 exact zds (k:= .u64) (f:=fun a b=>a|||b) (fun n a b e g=>Nat.or_lt_two_pow e g) ⟨c,d⟩
end GV
end Go.Proofs.YtkhihcleegljhaaGreat

namespace Go.Proofs.YtkhihcleegljhaaGreat
namespace GV
set_option maxRecDepth 100000
def z7g(s:List Int):Nat→List Int
 |0=>[]
 |i+1=>if 0<i∧s.getD i default=s.getD (i-1) default then z7g s i else z7g s i++[s.getD i default]
def cpt(s:List Int):List Int:=z7g s s.length
theorem zay(s:List Int): ∀ i,(z7g s i).length≤i
 |0=>Nat.le_refl _
 |i+1=>by
  have:=zay s i
  unfold z7g
  split
  ·omega
  ·rw [List.length_append,List.length_singleton];omega
theorem z7l{s:List Int}{i:Nat}(h:0<i)(e:s.getD i default=s.getD (i-1) default):z7g s (i+1)=z7g s i:=by
 show (if _ then _ else _)=_
 rw [if_pos ⟨h,e⟩]
theorem zhf{s:List Int}{i:Nat}(e:s.getD i default≠s.getD (i-1) default):z7g s (i+1)=z7g s i++[s.getD i default]:=by
 show (if _ then _ else _)=_
 rw [if_neg (fun h=>e h.2)]
theorem z4v{s:List Int}: ∀ {a:Nat},a≤s.length→(∀ j,0<j→j<a→s.getD j default≠s.getD (j-1) default)→z7g s a=s.take a
 |0,_,_=>rfl
 |a+1,e,h=>by
  have ih:=z4v (s:=s) (a:=a) (by omega) (fun j c f=>h j c (by omega))
  have d:s.take (a+1)=s.take a++[s.getD a default]:=by
   rw [List.take_add_one,List.getD_eq_getElem?_getD,List.getElem?_eq_getElem (show a<s.length by omega)];rfl
  rw [d,←ih]
  show (if _ then _ else _)=_
  rw [if_neg (fun b=>h a b.1 (by omega) b.2)]
theorem zdb{s:List Int}: ∀ {n:Nat} {z:Int},z∈z7g s n↔ ∃ i,i<n∧s.getD i default=z
 |0,z=>⟨fun h=>absurd h (by simp [z7g]),fun⟨i,h,_⟩=>absurd h (by omega)⟩
 |n+1,z=>by
  have ih:=zdb (s:=s) (n:=n) (z:=z)
  by_cases h:0<n∧s.getD n default=s.getD (n-1) default
  ·rw [z7l h.1 h.2,ih]
   constructor
   ·rintro⟨i,b,a⟩;exact⟨i,by omega,a⟩
   ·rintro⟨i,b,a⟩
    by_cases e:i=n
    ·subst e;exact⟨i-1,by omega,by rw [←h.2];exact a⟩
    ·exact⟨i,by omega,a⟩
  ·have c:z7g s (n+1)=z7g s n++[s.getD n default]:=by
    show (if _ then _ else _)=_
    rw [if_neg h]
   rw [c,List.mem_append,List.mem_singleton,ih]
   constructor
   ·rintro(⟨i,b,a⟩|rfl)
    ·exact⟨i,by omega,a⟩
    ·exact⟨n,by omega,rfl⟩
   ·rintro⟨i,b,a⟩
    by_cases e:i=n
    ·subst e;exact .inr a.symm
    ·exact .inl ⟨i,by omega,a⟩
theorem zfn{s:List Int}{z:Int}:z∈cpt s↔z∈s:=by
 unfold cpt
 rw [zdb]
 constructor
 ·rintro⟨i,h,rfl⟩;exact z00 h
 ·intro h
  obtain⟨i,hi,a⟩:=List.mem_iff_getElem.1 h
  exact⟨i,hi,by rw [z6r hi];exact a⟩
theorem zd6{s:List Int}(h:s.Pairwise (· ≤ ·)){i j:Nat}(a:i<j)(b:j<s.length):s.getD i default≤s.getD j default:=by
 rw [z6r b,z6r (by omega)]
 exact List.pairwise_iff_getElem.1 h i j (by omega) b a
theorem zhx{s:List Int}(h:s.Pairwise (· ≤ ·)):(cpt s).Pairwise (· < ·):=by
 have: ∀ n,n≤s.length→(z7g s n).Pairwise (· < ·):=by
  intro n
  induction n with
  |zero=>intro _;exact List.Pairwise.nil
  |succ n ih=>
   intro f
   by_cases hd:0<n∧s.getD n default=s.getD (n-1) default
   ·rw [z7l hd.1 hd.2];exact ih (by omega)
   ·have b:z7g s (n+1)=z7g s n++[s.getD n default]:=by
     show (if _ then _ else _)=_
     rw [if_neg hd]
    rw [b,List.pairwise_append]
    refine⟨ih (by omega),List.pairwise_singleton _ _,fun x c y a=>?_⟩
    rw [List.mem_singleton] at a
    subst a
    obtain⟨i,hi,rfl⟩:=zdb.1 c
    have g:=zd6 h (show n-1<n by omega) (show n<s.length by omega)
    have d:s.getD n default≠s.getD (n-1) default:=fun e=>hd ⟨by omega,e⟩
    by_cases e:i=n-1
    ·subst e;omega
    ·have:=zd6 h (show i<n-1 by omega) (show n-1<s.length by omega)
     omega
 exact this _ (Nat.le_refl _)
theorem zm1{X Y:List Int}(a:X.Pairwise (· < ·))(b:Y.Pairwise (· < ·))(h: ∀ z,z∈X↔z∈Y):X=Y:=by
 refine z6c ((List.perm_ext_iff_of_nodup ?_ ?_).2 h) (a.imp Int.le_of_lt) (b.imp Int.le_of_lt)
 ·exact a.imp fun h=>Int.ne_of_lt h
 ·exact b.imp fun h=>Int.ne_of_lt h
theorem zla{X:List Int}(h:X.Nodup):(z2g X).Pairwise (· < ·):=by
 have a:=z8r X
 have b:(z2g X).Nodup:=((z6j X).nodup_iff).2 h
 exact(a.and b).imp fun h=>by omega
theorem z9a{p:Nat→Bool}: ∀ n,(aj p n).Pairwise (· < ·)
 |0=>List.Pairwise.nil
 |n+1=>by
  have ih:=z9a (p:=p) n
  unfold aj
  cases p n
  ·exact ih
  ·rw [cond_true,List.pairwise_append]
   refine⟨ih,List.pairwise_singleton _ _,fun x b y a=>?_⟩
   rw [List.mem_singleton] at a
   obtain⟨i,hi,rfl,_⟩:=ay.1 b
   subst a;omega
theorem zfh{Y:List Int}{k:Nat}{v:Int}(a:k<Y.length):(Y.set k v).take (k+1)=Y.take k++[v]:=by
 rw [List.take_add_one,List.take_set_of_le (Nat.le_refl _),List.getElem?_set,if_pos rfl,if_pos a];rfl
theorem zfz{Y:List Int}{k j:Nat}{v:Int}(h:j≠k):(Y.set k v).getD j default=Y.getD j default:=by
 rw [List.getD_eq_getElem?_getD,List.getD_eq_getElem?_getD,List.getElem?_set,if_neg (fun e=>h e.symm)]
theorem zmj{s:List Int}{a:Nat}(n:1≤a)(d:a<s.length)(o:s.length≤100): ∀ (F:Nat) (k b:Nat) (Y:List Int),1≤b→k+1≤a+b→b≤s.length-a→Y.length=s.length→Y.take k=z7g s (a+b)→(∀ j,a+b≤j+1→Y.getD j default=s.getD j default)→s.length-a-b<F→
 ∃ Z:List Int,og 5000 s (a:Int) F (k:Int) (b:Int) Y=some (((cpt s).length:Int),Z)∧Z.length=s.length∧Z.take (cpt s).length=cpt s
 |0,k,b,Y,_,_,_,_,_,_,h=>by omega
 |F+1,k,b,Y,u,v,w,i,f,g,x=>by
  simp only [og]
  have c:k=(z7g s (a+b)).length:=by rw [←f,List.length_take];omega
  by_cases h:b<s.length-a
  ·have p:okA Y (a:Int) (s.length-(a:Int).toNat) (b:Int):=⟨by omega,by omega,by omega,by omega⟩
   have r:okA Y (a:Int) (s.length-(a:Int).toNat) ((b:Int)-1):=⟨by omega,by omega,by omega,by omega⟩
   have l:ix Y ((a:Int)+(b:Int))=s.getD (a+b) default:=by
    rw [show (a:Int)+(b:Int)=((a+b:Nat):Int) by omega,ma];exact g _ (by omega)
   have q:ix Y ((a:Int)+((b:Int)-1))=s.getD (a+b-1) default:=by
    rw [show (a:Int)+((b:Int)-1)=((a+b-1:Nat):Int) by omega,ma];exact g _ (by omega)
   rw [di (by omega),zl p,zl (jf (by omega)),zl r]
   by_cases hd:s.getD (a+b) default≠s.getD (a+b-1) default
   ·have m:up Y (k:Int) (ix Y ((a:Int)+(b:Int)))=Y.set k (s.getD (a+b) default):=by rw [l];rfl
    rw [di (by rw [l,q];exact hd),zl p,zl ⟨by omega,by omega⟩,zl (jf (by omega)),z1j,zl (jf (by omega)),m]
    exact zmj n d o F (k+1) (b+1) _ (by omega) (by omega) (by omega) (by rw [List.length_set];exact i) (by
     rw [zfh (by omega),f,←zhf hd];rfl) (fun j t=>by rw [zfz (by omega)];exact g j (by omega)) (by omega)
   ·rw [p9 (by rw [l,q];exact hd),z1j,zl (jf (by omega))]
    exact zmj n d o F k (b+1) Y (by omega) (by omega) (by omega) i (by
     rw [f,←z7l (show 0<a+b by omega) (Decidable.not_not.1 hd)];rfl) (fun j t=>g j (by omega)) (by omega)
  ·have e:a+b=s.length:=by omega
   rw [e] at c f
   rw [p9 (by omega),c]
   exact⟨Y,rfl,i,by unfold cpt;rw [←c];exact f⟩
theorem zqh{s:List Int}(d:s.length≤100):slices_Compact_int 5000 s=some (cpt s):=by
 unfold slices_Compact_int
 by_cases h2:(s.length:Int)<2
 ·rw [di h2]
  unfold cpt
  rw [z4v (Nat.le_refl _) (fun j _ _=>by omega),List.take_length]
 ·rw [p9 h2]
  have f: ∃ q,dx 5000 s 5000 1=some q∧(q=Ex.rt (cpt s)∨q=Ex.go ()∧cpt s=s):=by
   refine z4k (σ:=Unit) (fun F a _=>dx 5000 s F (a:Int)) s.length (fun a _=>1≤a∧ ∀ j,0<j→j<a→s.getD j default≠s.getD (j-1) default) _ (fun F a u hi b=>?_) (fun F u b=>?_) 5000 1 () (by omega) (by omega) ⟨Nat.le_refl _,fun j _ _=>by omega⟩
   ·simp only [dx]
    have g:ix s ((a:Int)-1)=s.getD (a-1) default:=by rw [show (a:Int)-1=((a-1:Nat):Int) by omega,ma]
    rw [di (by omega),zl ⟨by omega,by omega⟩,zl (jf (by omega)),zl ⟨by omega,by omega⟩,ma,g]
    by_cases he:s.getD a default=s.getD (a-1) default
    ·left
     obtain⟨Z,h,p,i⟩:=zmj (s:=s) (a:=a) b.1 hi d 5000 a 1 s (by omega) (by omega) (by omega) rfl (by
      rw [z7l (show 0<a by omega) he,z4v (by omega) b.2]) (fun j _=>rfl) (by omega)
     have k:=zay s s.length
     have hr':og 5000 s (a:Int) 5000 (a:Int) 1 s=some (((cpt s).length:Int),Z):=h
     have l:(z2v Z ((cpt s).length:Int).toNat (List.replicate (Z.length-((cpt s).length:Int).toNat) (0:Int))).length=Z.length:=z5v (by rw [List.length_replicate];unfold cpt;omega)
     have hcut:cut (z2v Z ((cpt s).length:Int).toNat (List.replicate (Z.length-((cpt s).length:Int).toNat) (0:Int))) 0 ((cpt s).length:Int)=Z.take (cpt s).length:=by
      have m:(cpt s).length≤Z.length:=by unfold cpt;omega
      simp only [cut,z2v]
      simp [List.take_append,m]
     refine⟨Ex.rt (cpt s),?_,.inl rfl⟩
     rw [di he,zl ⟨by omega,by omega,by omega⟩,qf hr']
     dsimp only
     rw [zl ⟨by omega,by unfold cpt;omega,by omega⟩,zl ⟨by omega,by omega,by rw [l];unfold cpt;omega⟩,hcut,i]
    ·right
     refine⟨(),⟨by omega,fun j n r=>?_⟩,by rw [p9 he,zl (jf (by omega))];rfl⟩
     by_cases e:j=a
     ·subst e;exact he
     ·exact b.2 j n (by omega)
   ·simp only [dx]
    rw [p9 (by omega)]
    exact⟨_,rfl,.inr ⟨rfl,by unfold cpt;rw [z4v (Nat.le_refl _) b.2,List.take_length]⟩⟩
  obtain⟨q,o,c⟩:=f
  rw [qf o]
  rcases c with rfl|⟨rfl,e⟩
  ·rfl
  ·show some s=_
   rw [e]
theorem zlh{s:List Int}{a:Nat}(n:1≤a)(d:a<s.length)(o:s.length≤100): ∀ (F:Nat) (k b:Nat) (Y:List Int),1≤b→k+1≤a+b→b≤s.length-a→Y.length=s.length→Y.take k=z7g s (a+b)→(∀ j,a+b≤j+1→Y.getD j default=s.getD j default)→s.length-a-b<F→
 ∃ Z:List Int,mg 5000 s (a:Int) F (k:Int) (b:Int) Y=some (((cpt s).length:Int),Z)∧Z.length=s.length∧Z.take (cpt s).length=cpt s
 |0,k,b,Y,_,_,_,_,_,_,h=>by omega
 |F+1,k,b,Y,u,v,w,i,f,g,x=>by
  simp only [mg]
  have c:k=(z7g s (a+b)).length:=by rw [←f,List.length_take];omega
  by_cases h:b<s.length-a
  ·have p:okA Y (a:Int) (s.length-(a:Int).toNat) (b:Int):=⟨by omega,by omega,by omega,by omega⟩
   have r:okA Y (a:Int) (s.length-(a:Int).toNat) ((b:Int)-1):=⟨by omega,by omega,by omega,by omega⟩
   have l:ix Y ((a:Int)+(b:Int))=s.getD (a+b) default:=by
    rw [show (a:Int)+(b:Int)=((a+b:Nat):Int) by omega,ma];exact g _ (by omega)
   have q:ix Y ((a:Int)+((b:Int)-1))=s.getD (a+b-1) default:=by
    rw [show (a:Int)+((b:Int)-1)=((a+b-1:Nat):Int) by omega,ma];exact g _ (by omega)
   rw [di (by omega),zl p,zl (jf (by omega)),zl r]
   by_cases hd:s.getD (a+b) default≠s.getD (a+b-1) default
   ·have m:up Y (k:Int) (ix Y ((a:Int)+(b:Int)))=Y.set k (s.getD (a+b) default):=by rw [l];rfl
    rw [di (by rw [l,q];exact hd),zl p,zl ⟨by omega,by omega⟩,zl (jf (by omega)),z1j,zl (jf (by omega)),m]
    exact zlh n d o F (k+1) (b+1) _ (by omega) (by omega) (by omega) (by rw [List.length_set];exact i) (by
     rw [zfh (by omega),f,←zhf hd];rfl) (fun j t=>by rw [zfz (by omega)];exact g j (by omega)) (by omega)
   ·rw [p9 (by rw [l,q];exact hd),z1j,zl (jf (by omega))]
    exact zlh n d o F k (b+1) Y (by omega) (by omega) (by omega) i (by
     rw [f,←z7l (show 0<a+b by omega) (Decidable.not_not.1 hd)];rfl) (fun j t=>g j (by omega)) (by omega)
  ·have e:a+b=s.length:=by omega
   rw [e] at c f
   rw [p9 (by omega),c]
   exact⟨Y,rfl,i,by unfold cpt;rw [←c];exact f⟩
theorem zpy{s:List Int}(d:s.length≤100):z0x 5000 s=some (cpt s):=by
 unfold z0x
 by_cases h2:(s.length:Int)<2
 ·rw [di h2]
  unfold cpt
  rw [z4v (Nat.le_refl _) (fun j _ _=>by omega),List.take_length]
 ·rw [p9 h2]
  have f: ∃ q,bv 5000 s 5000 1=some q∧(q=Ex.rt (cpt s)∨q=Ex.go ()∧cpt s=s):=by
   refine z4k (σ:=Unit) (fun F a _=>bv 5000 s F (a:Int)) s.length (fun a _=>1≤a∧ ∀ j,0<j→j<a→s.getD j default≠s.getD (j-1) default) _ (fun F a u hi b=>?_) (fun F u b=>?_) 5000 1 () (by omega) (by omega) ⟨Nat.le_refl _,fun j _ _=>by omega⟩
   ·simp only [bv]
    have g:ix s ((a:Int)-1)=s.getD (a-1) default:=by rw [show (a:Int)-1=((a-1:Nat):Int) by omega,ma]
    rw [di (by omega),zl ⟨by omega,by omega⟩,zl (jf (by omega)),zl ⟨by omega,by omega⟩,ma,g]
    by_cases he:s.getD a default=s.getD (a-1) default
    ·left
     obtain⟨Z,h,p,i⟩:=zlh (s:=s) (a:=a) b.1 hi d 5000 a 1 s (by omega) (by omega) (by omega) rfl (by
      rw [z7l (show 0<a by omega) he,z4v (by omega) b.2]) (fun j _=>rfl) (by omega)
     have k:=zay s s.length
     have hr':mg 5000 s (a:Int) 5000 (a:Int) 1 s=some (((cpt s).length:Int),Z):=h
     have l:(z2v Z ((cpt s).length:Int).toNat (List.replicate (Z.length-((cpt s).length:Int).toNat) (0:Int))).length=Z.length:=z5v (by rw [List.length_replicate];unfold cpt;omega)
     have hcut:cut (z2v Z ((cpt s).length:Int).toNat (List.replicate (Z.length-((cpt s).length:Int).toNat) (0:Int))) 0 ((cpt s).length:Int)=Z.take (cpt s).length:=by
      have m:(cpt s).length≤Z.length:=by unfold cpt;omega
      simp only [cut,z2v]
      simp [List.take_append,m]
     refine⟨Ex.rt (cpt s),?_,.inl rfl⟩
     rw [di he,zl ⟨by omega,by omega,by omega⟩,qf hr']
     dsimp only
     rw [zl ⟨by omega,by unfold cpt;omega,by omega⟩,zl ⟨by omega,by omega,by rw [l];unfold cpt;omega⟩,hcut,i]
    ·right
     refine⟨(),⟨by omega,fun j n r=>?_⟩,by rw [p9 he,zl (jf (by omega))];rfl⟩
     by_cases e:j=a
     ·subst e;exact he
     ·exact b.2 j n (by omega)
   ·simp only [bv]
    rw [p9 (by omega)]
    exact⟨_,rfl,.inr ⟨rfl,by unfold cpt;rw [z4v (Nat.le_refl _) b.2,List.take_length]⟩⟩
  obtain⟨q,o,c⟩:=f
  rw [qf o]
  rcases c with rfl|⟨rfl,e⟩
  ·rfl
  ·show some s=_
   rw [e]
/-! ### taking out-/
theorem zor{s:List Int}{f:Int→Option Bool}{q:Int→Bool}(l:s.length≤100)(b: ∀ c∈s,f c=some (q c)): ∃ r,iq 5000 s f=some r∧((r= -1∧ ∀ j,j<s.length→q (s.getD j default)=false)∨ ∃ i:Nat,r=(i:Int)∧i<s.length∧q (s.getD i default)=true∧ ∀ j,j<i→q (s.getD j default)=false):=by
 have d: ∃ r,u6 5000 s f 5000 0=some r∧((∃ i:Nat,r=Ex.rt (i:Int)∧i<s.length∧q (s.getD i default)=true∧ ∀ j,j<i→q (s.getD j default)=false)∨(r=Ex.go ()∧ ∀ j,j<s.length→q (s.getD j default)=false)):=by
  refine z4k (σ:=Unit) (fun F i _=>u6 5000 s f F (i:Int)) s.length (fun i _=> ∀ j,j<i→q (s.getD j default)=false) _ (fun F i u hi a=>?_) (fun F u a=>?_) 5000 0 () (Nat.zero_le _) (by omega) (fun j a=>absurd a (by omega))
  ·simp only [u6]
   rw [di (by omega),zl (wh hi),ma,qf (b _ (z00 hi))]
   cases hq:q (s.getD i default)
   ·right
    refine⟨(),fun j hj'=>?_,by rw [cond_false,zl (jf (by omega))];rfl⟩
    by_cases e:j=i
    ·subst e;exact hq
    ·exact a j (by omega)
   ·left;exact⟨_,rfl,.inl ⟨i,rfl,hi,hq,a⟩⟩
  ·simp only [u6]
   rw [p9 (by omega)];exact⟨_,rfl,.inr ⟨rfl,a⟩⟩
 obtain⟨r,g,h⟩:=d
 unfold iq
 rw [qf g]
 rcases h with⟨i,rfl,k⟩|⟨rfl,h⟩
 ·exact⟨_,rfl,.inr ⟨i,rfl,k⟩⟩
 ·exact⟨_,rfl,.inl ⟨rfl,h⟩⟩
theorem take_snoc'{s:List Int}{a:Nat}(h:a<s.length):s.take (a+1)=s.take a++[s.getD a default]:=by
 rw [List.take_add_one,List.getD_eq_getElem?_getD,List.getElem?_eq_getElem h];rfl
theorem z6h{s:List Int}{q:Int→Bool}: ∀ {i:Nat},i≤s.length→(∀ j,j<i→q (s.getD j default)=false)→(s.take i).filter (fun z=> !q z)=s.take i
 |0,_,_=>by simp
 |i+1,hi,h=>by
  rw [take_snoc' (by omega),List.filter_append,z6h (by omega) (fun j a=>h j (by omega)),List.filter_cons,h i (by omega)];rfl
theorem zld{s:List Int}{del:Int→Option Bool}{q:Int→Bool}(k:s.length≤100)(d: ∀ z∈s,del z=some (q z)): ∀ (F:Nat) (i j:Nat) (Y:List Int),i<j→j≤s.length→Y.length=s.length→Y.take i=(s.take j).filter (fun z=> !q z)→(∀ l,j≤l→Y.getD l default=s.getD l default)→s.length-j<F→
 ∃ Z:List Int,xq 5000 del F (i:Int) (j:Int) Y=some (((s.filter (fun z=> !q z)).length:Int),Z)∧Z.length=s.length∧Z.take (s.filter (fun z=> !q z)).length=s.filter (fun z=> !q z)
 |0,i,j,Y,_,_,_,_,_,h=>by omega
 |F+1,i,j,Y,m,n,f,b,g,o=>by
  simp only [xq]
  have a:i=((s.take j).filter (fun z=> !q z)).length:=by rw [←b,List.length_take];omega
  by_cases h:j<s.length
  ·have c:(s.take (j+1)).filter (fun z=> !q z)=(s.take j).filter (fun z=> !q z)++[s.getD j default].filter (fun z=> !q z):=by rw [take_snoc' h,List.filter_append]
   rw [di (by omega),zl ⟨by omega,by omega⟩,ma,g j (Nat.le_refl _),qf (d _ (z00 h))]
   cases hq:q (s.getD j default)
   ·have e:(bif !false then(gd (okI Y (i:Int))<|gd (in64 ((i:Int)+1))<|some ((i:Int)+1,up Y (i:Int) (s.getD j default))) else some ((i:Int),Y))=some ((i:Int)+1,Y.set i (s.getD j default)):=by
     refine(ct rfl).trans ?_
     rw [zl ⟨by omega,by omega⟩,zl (jf (by omega))];rfl
    rw [qf e,zl (jf (by omega))]
    refine zld k d F (i+1) (j+1) (Y.set i (s.getD j default)) (by omega) (by omega) (by rw [List.length_set];exact f) ?_ (fun l hl'=>by rw [zfz (by omega)];exact g l (by omega)) (by omega)
    rw [zfh (by omega),b,c]
    simp only [List.filter_cons,hq,List.filter_nil];rfl
   ·have e:(bif !true then(gd (okI Y (i:Int))<|gd (in64 ((i:Int)+1))<|some ((i:Int)+1,up Y (i:Int) (s.getD j default))) else some ((i:Int),Y))=some ((i:Int),Y):=cf rfl
    rw [qf e,zl (jf (by omega))]
    refine zld k d F i (j+1) Y (by omega) (by omega) f ?_ (fun l hl'=>g l (by omega)) (by omega)
    rw [b,c,show [s.getD j default].filter (fun z=> !q z)=[] by rw [List.filter_cons,hq];rfl,List.append_nil]
  ·have e:j=s.length:=by omega
   subst e
   rw [List.take_length] at b a
   rw [p9 (by omega),a]
   exact⟨Y,rfl,f,by rw [←a];exact b⟩
theorem del_eq{s:List Int}{del:Int→Option Bool}{q:Int→Bool}(g:s.length≤100)(h: ∀ z∈s,del z=some (q z)):ik 5000 s del=some (s.filter fun z=> !q z):=by
 obtain⟨r,a,b⟩:=zor (f:=del) (q:=q) g h
 unfold ik
 rw [qf a]
 rcases b with⟨rfl,c⟩|⟨i,rfl,hi,d,c⟩
 ·have:=z6h (s:=s) (q:=q) (Nat.le_refl _) c
  rw [List.take_length] at this
  rw [di rfl,this]
 ·have k:(s.take (i+1)).filter (fun z=> !q z)=s.take i:=by
   rw [take_snoc' hi,List.filter_append,z6h (by omega) c]
   simp only [List.filter_cons,d,List.filter_nil];simp
  obtain⟨Z,a,n,j⟩:=zld g h 5000 i (i+1) s (by omega) (by omega) rfl k.symm (fun _ _=>rfl) (by omega)
  have e:=List.length_filter_le (fun z=> !q z) s
  generalize s.filter (fun z=> !q z)=f at a j e⊢
  have l:(z2v Z (f.length:Int).toNat (List.replicate (Z.length-(f.length:Int).toNat) (0:Int))).length=Z.length:=z5v (by rw [List.length_replicate];omega)
  have hcut:cut (z2v Z (f.length:Int).toNat (List.replicate (Z.length-(f.length:Int).toNat) (0:Int))) 0 (f.length:Int)=Z.take f.length:=by
   have m:f.length≤Z.length:=by omega
   simp only [cut,z2v]
   simp [List.take_append,m]
  have hr':xq 5000 del 5000 (i:Int) ((i:Int)+1) s=some ((f.length:Int),Z):=a
  rw [p9 (by omega),zl (jf (by omega)),qf hr']
  dsimp only
  rw [zl ⟨by omega,by omega,by omega⟩,zl ⟨by omega,by omega,by rw [l];omega⟩,hcut,j]
/-! ### the first greatest-/
structure Best (l:List Int) (i:Nat):Prop where
 lt:i<l.length
 pos:0<l.getD i default
 max: ∀ j,j<l.length→l.getD j default≤l.getD i default
 fst: ∀ j,j<i→l.getD j default<l.getD i default
theorem Best.uniq{l:List Int}{i j:Nat}(h:Best l i)(k:Best l j):i=j:=by
 rcases Nat.lt_trichotomy i j with e|e|e
 ·have:=k.fst i e;have:=h.max j k.lt;omega
 ·exact e
 ·have:=h.fst j e;have:=k.max i h.lt;omega
theorem zpn{l:List Int}(n:l.length≤4000)(b:0<l.length): ∃ m,slices_Max_int 5000 l=some m∧m∈l∧ ∀ j,j<l.length→l.getD j default≤m:=by
 have f: ∀ (F i:Nat) (m:Int),1≤i→i≤l.length→m∈l→(∀ j,j<i→l.getD j default≤m)→l.length-i<F→ ∃ r,l6 5000 l F m (i:Int)=some r∧r∈l∧ ∀ j,j<l.length→l.getD j default≤r:=by
  intro F
  induction F with
  |zero=>intro i m _ _ _ _ h;omega
  |succ F ih=>
   intro i m o p a c q
   simp only [l6]
   by_cases h:i<l.length
   ·rw [di (by omega),zl (wh h),zl (jf (by omega)),ma]
    refine ih (i+1) _ (by omega) (by omega) ?_ (fun j hj'=>?_) (by omega)
    ·rcases Int.le_total m (l.getD i default) with d|d
     ·rw [Int.max_eq_right d];exact z00 h
     ·rw [Int.max_eq_left d];exact a
    ·by_cases e:j=i
     ·subst e;exact Int.le_max_right _ _
     ·exact Int.le_trans (c j (by omega)) (Int.le_max_left _ _)
   ·rw [p9 (by omega)];exact⟨m,rfl,a,fun j hj'=>c j (by omega)⟩
 obtain⟨r,g,a⟩:=f 5000 1 (l.getD 0 default) (Nat.le_refl _) b (z00 b) (fun j c=>by rw [show j=0 by omega];exact Int.le_refl _) (by omega)
 unfold slices_Max_int
 rw [p9 (by omega),zl (show okI l 0 from wh (k:=0) b),qf (show l6 5000 l 5000 (ix l 0) 1=_ from g)]
 exact⟨r,rfl,a⟩
theorem zmh{l:List Int}{m:Int}(k:l.length≤4000)(b:m∈l): ∃ i:Nat,slices_Index_int 5000 l m=some (i:Int)∧i<l.length∧l.getD i default=m∧ ∀ j,j<i→l.getD j default≠m:=by
 have c: ∃ r,oh 5000 l m 5000 0=some r∧((∃ i:Nat,r=Ex.rt (i:Int)∧i<l.length∧l.getD i default=m∧ ∀ j,j<i→l.getD j default≠m)∨(r=Ex.go ()∧ ∀ j,j<l.length→l.getD j default≠m)):=by
  refine z4k (σ:=Unit) (fun F i _=>oh 5000 l m F (i:Int)) l.length (fun i _=> ∀ j,j<i→l.getD j default≠m) _ (fun F i u hi a=>?_) (fun F u a=>?_) 5000 0 () (Nat.zero_le _) (by omega) (fun j a=>absurd a (by omega))
  ·simp only [oh]
   rw [di (by omega),zl (wh hi)]
   by_cases hq:m=ix l (i:Int)
   ·left;rw [di hq];exact⟨_,rfl,.inl ⟨i,rfl,hi,hq.symm,a⟩⟩
   ·right
    refine⟨(),fun j hj'=>?_,by rw [p9 hq,zl (jf (by omega))];rfl⟩
    by_cases e:j=i
    ·subst e;exact fun h=>hq h.symm
    ·exact a j (by omega)
  ·simp only [oh]
   rw [p9 (by omega)];exact⟨_,rfl,.inr ⟨rfl,a⟩⟩
 obtain⟨r,d,h⟩:=c
 unfold slices_Index_int
 rw [qf d]
 rcases h with⟨i,rfl,f⟩|⟨rfl,h⟩
 ·exact⟨i,rfl,f⟩
 ·obtain⟨j,a,g⟩:=List.mem_iff_getElem.1 b
  exact absurd (by rw [z6r a];exact g) (h j a)
theorem zn2{l:List Int}(e:l.length≤4000): ∃ y,z2i 5000 l=some y∧((y.2=true∧ ∃ i:Nat,y.1=(i:Int)∧Best l i)∨(y.2=false∧ ∀ j,j<l.length→l.getD j default≤0)):=by
 unfold z2i
 by_cases h:(l.length:Int)=0
 ·rw [di h];exact⟨_,rfl,.inr ⟨rfl,fun j c=>by omega⟩⟩
 ·obtain⟨m,f,hmem,hmax⟩:=zpn e (by omega)
  obtain⟨i,hi,g,d,k⟩:=zmh e hmem
  rw [p9 h,qf f,qf hi]
  refine⟨_,rfl,?_⟩
  by_cases hp:0<m
  ·left
   exact⟨by simpa using hp,i,rfl,g,by rw [d];exact hp,fun j c=>by rw [d];exact hmax j c,fun j c=>by
    have a:=hmax j (by omega);have b:=k j c;rw [d];omega⟩
  ·right
   exact⟨by simpa using hp,fun j c=>by have:=hmax j c;omega⟩
/-! ### equal lists-/
theorem zko{a:List Int}(d:a.length≤1000):lg 5000 a a=some 0:=by
 unfold lg
 have c:xh 5000 a a 5000 0=some (Ex.go ()):=by
  refine z0b (fun F k (_:Unit)=>xh 5000 a a F (k:Int)) a.length (fun _=>()) _ (fun F k b=>?_) (fun F=>?_) (by omega)
  ·simp only [xh]
   rw [di (by omega),zl (wh b),zl (wh b),p9 (by omega),zl (wh b),zl (wh b),p9 (by omega),zl (jf (by omega))];rfl
  ·simp only [xh]
   rw [p9 (by omega)]
 rw [p9 (by omega),qf c];rfl
theorem zc1{a:List Int}(b:a.length≤1000):ky 5000 a a=some true:=by
 have c:z0j 5000 [a] [a]=some true:=by
  unfold z0j
  have d:dn 5000 [a] [a] 5000 0=some (Ex.go ()):=by
   refine z0b (fun F k (_:Unit)=>dn 5000 [a] [a] F (k:Int)) 1 (fun _=>()) _ (fun F k e=>?_) (fun F=>?_) (by omega)
   ·obtain rfl:k=0:=by omega
    simp only [dn]
    rw [di (by simp),zl (wh (by simp)),zl (wh (by simp)),qf (show lg 5000 (ix [a] ((0:Nat):Int)) (ix [a] ((0:Nat):Int))=_ from zko b),p9 (by decide),zl (jf (by omega))];rfl
   ·simp only [dn]
    rw [p9 (by simp)]
  rw [p9 (by simp),qf d];rfl
 unfold ky
 rw [qf c];simp
end GV
end Go.Proofs.YtkhihcleegljhaaGreat

namespace Go.Proofs.YtkhihcleegljhaaGreat
namespace GV
set_option maxRecDepth 100000
theorem zop{α:Type}{b:Bool}{v:α}:gop b (some v)=some (bif b then some v else none):=by cases b<;>rfl
theorem zdg{p:Nat→Bool}{n:Nat}:(List.range (n+1)).any p=((List.range n).any p||p n):=by rw [List.range_succ,List.any_append];simp
theorem zam{p q:Nat→Bool}: ∀ {n:Nat},(∀ k,k<n→p k=q k)→aj p n=aj q n
 |0,_=>rfl
 |n+1,h=>by
  unfold aj
  rw [h n (by omega),zam (fun k a=>h k (by omega))]
theorem zcf{p q:Nat→Bool}{f:Int→Bool}: ∀ {n:Nat},(∀ k,k<n→f (k:Int)=q k)→(aj p n).filter f=aj (fun k=>p k&&q k) n
 |0,_=>rfl
 |n+1,h=>by
  have ih:=zcf (p:=p) (q:=q) (f:=f) (n:=n) (fun k a=>h k (by omega))
  unfold aj
  cases hp:p n
  ·simp only [cond_false,Bool.false_and];exact ih
  ·simp only [cond_true,Bool.true_and]
   rw [List.filter_append,ih,List.filter_cons,h n (by omega)]
   cases q n<;>simp
/-! ### Essential-/
def zbx(X:List (List Int)):Nat→List Int
 |0=>[]
 |k+1=>if(kl (X.getD k default)).length=1 then zbx X k++[(kl (X.getD k default)).getD 0 default] else zbx X k
def zgx(X:List (List Int))(c:Nat):Bool:=(List.range X.length).any fun k=>decide ((kl (X.getD k default)).length=1)&&z1k (X.getD k default) c
theorem zd9(X:List (List Int)): ∀ k,(zbx X k).length≤k
 |0=>Nat.le_refl _
 |k+1=>by
  have:=zd9 X k
  unfold zbx
  split
  ·rw [List.length_append,List.length_singleton];omega
  ·omega
theorem zh5{X:List (List Int)}{z:Int}: ∀ {n:Nat},z∈zbx X n↔ ∃ k,k<n∧(kl (X.getD k default)).length=1∧(kl (X.getD k default)).getD 0 default=z
 |0=>⟨fun h=>absurd h (by simp [zbx]),fun⟨i,h,_⟩=>absurd h (by omega)⟩
 |n+1=>by
  have ih:=zh5 (X:=X) (z:=z) (n:=n)
  unfold zbx
  by_cases h:(kl (X.getD n default)).length=1
  ·rw [if_pos h,List.mem_append,List.mem_singleton,ih]
   constructor
   ·rintro(⟨i,c,a⟩|rfl)
    ·exact⟨i,by omega,a⟩
    ·exact⟨n,by omega,h,rfl⟩
   ·rintro⟨i,c,a,b⟩
    by_cases e:i=n
    ·subst e;exact .inr b.symm
    ·exact .inl ⟨i,by omega,a,b⟩
  ·rw [if_neg h,ih]
   constructor
   ·rintro⟨i,c,a⟩;exact⟨i,by omega,a⟩
   ·rintro⟨i,c,a,b⟩
    by_cases e:i=n
    ·subst e;exact absurd a h
    ·exact⟨i,by omega,a,b⟩
theorem zcv{r:List Int}{c:Nat}(a:(kl r).length=1)(b:c<r.length):z1k r c=true↔(kl r).getD 0 default=(c:Int):=by
 obtain⟨z,d⟩:=List.length_eq_one_iff.1 a
 have f:(c:Int)∈kl r↔z1k r c=true:=by
  unfold kl
  rw [ay]
  constructor
  ·rintro⟨i,h,e,g⟩
   rw [show c=i by omega];exact g
  ·intro h;exact⟨c,b,rfl,h⟩
 rw [←f,d]
 simp only [List.mem_singleton,List.getD_cons_zero]
 exact eq_comm
theorem zou{X:List (List Int)}(h:VX X){k:Nat}(a:k<X.length)(b:(kl (X.getD k default)).length=1): ∃ c:Nat,c<cols X∧(kl (X.getD k default)).getD 0 default=(c:Int):=by
 have:=zg5 h a _ (z00 (show 0<(kl (X.getD k default)).length by omega))
 exact⟨((kl (X.getD k default)).getD 0 default).toNat,by omega,by omega⟩
def z8g(X:List (List Int)):List Int:=aj (zgx X) (cols X)
theorem zpi{X:List (List Int)}(h:VX X):z03 5000 ⟨X⟩=some (z8g X,0):=by
 have l:=h.rows
 have g:=zd9 X X.length
 have i:cu 5000 ⟨X⟩ 5000 [] 0=some (zbx X X.length):=by
  refine z0b (fun F k s=>cu 5000 ⟨X⟩ F s (k:Int)) X.length (zbx X) _ (fun F k a=>?_) (fun F=>?_) (by omega)
  ·have m:=zd9 X k
   simp only [cu]
   rw [di (by omega),qf (z8n h.toBx (by decide) a)]
   by_cases b:(kl (X.getD k default)).length=1
   ·rw [di (by omega),zl (show okI (kl (X.getD k default)) 0 from⟨by decide,by omega⟩),zl ⟨by simp only [List.length_singleton];omega,by simp only [List.length_singleton];omega⟩,z1j,zl (jf (by omega))]
    simp only [zbx,if_pos b];rfl
   ·rw [p9 (by omega),z1j,zl (jf (by omega))]
    simp only [zbx,if_neg b];rfl
  ·simp only [cu]
   rw [p9 (by omega)]
 have n:=z4h (zbx X X.length)
 have e:cpt (z2g (zbx X X.length))=z8g X:=by
  refine zm1 (zhx (z8r _)) (z9a _) fun z=>?_
  rw [zfn,(z6j _).mem_iff,zh5]
  unfold z8g
  rw [ay]
  constructor
  ·rintro⟨k,a,f,j⟩
   obtain⟨c,b,e⟩:=zou h a f
   refine⟨c,b,by rw [←j,e],?_⟩
   unfold zgx
   rw [ae]
   exact⟨k,a,by rw [decide_eq_true f,(zcv f (by rw [h.len k a];exact b)).2 e];rfl⟩
  ·rintro⟨c,b,rfl,d⟩
   unfold zgx at d
   obtain⟨k,a,d⟩:=ae.1 d
   rw [Bool.and_eq_true,decide_eq_true_iff] at d
   exact⟨k,a,d.1,(zcv d.1 (by rw [h.len k a];exact b)).1 d.2⟩
 unfold z03
 rw [qf (zbb h.toBx (by decide)),z8t h,p9 (by decide),qf i,qf (zhd (by omega)),qf (zqh (by omega)),e]
 unfold z1c
 rw [zl (zff _),zg6,z1j]
theorem zni{X:List (List Int)}(h:VX X):z05 5000 ⟨X⟩=some (z8g X):=by
 have r:=h.rows
 have l:=h.toBx.cols
 have e: ∀ k,k<X.length→ww 5000 ⟨X⟩ (k:Int) 5000 0 0=some ((kl (X.getD k default)).length:Int):=fun k a=>by
  have t:=h.toBx.row a
  refine z0b (fun F j s=>ww 5000 ⟨X⟩ (k:Int) F s (j:Int)) (X.getD k default).length (fun j=>((aj (z1k (X.getD k default)) j).length:Int)) _ (fun F j m=>?_) (fun F=>?_) (by omega)
  ·have o:=z1u (z1k (X.getD k default)) j
   simp only [ww]
   rw [zl (wh a),di (by rw [ma];omega),qf (z4s h a m)]
   cases hb:z1k (X.getD k default) j
   ·rw [cond_false,z1j,zl (jf (by omega))]
    simp only [aj,hb,cond_false];rfl
   ·rw [cond_true,zl (jf (by omega)),z1j,zl (jf (by omega))]
    simp only [aj,hb,cond_true,List.length_append,List.length_singleton];rfl
  ·simp only [ww]
   rw [zl (wh a),p9 (by rw [ma];omega)];rfl
 have f: ∀ c,c<cols X→wy 5000 ⟨X⟩ (c:Int) 5000 false 0=some (zgx X c):=fun c g=>by
  refine z0b (fun F k s=>wy 5000 ⟨X⟩ (c:Int) F s (k:Int)) X.length (fun n=>(List.range n).any fun k=>decide ((kl (X.getD k default)).length=1)&&z1k (X.getD k default) c) _ (fun F k a=>?_) (fun F=>?_) (by omega)
  ·simp only [wy]
   rw [di (by omega),qf (e k a),z4s h a (by rw [h.len k a];exact g),zdg]
   have p:decide (((kl (X.getD k default)).length:Int)=1)=decide ((kl (X.getD k default)).length=1):=by
    rw [Bool.eq_iff_iff,decide_eq_true_iff,decide_eq_true_iff];omega
   rw [p]
   generalize (List.range k).any (fun k=>decide ((kl (X.getD k default)).length=1)&&z1k (X.getD k default) c)=b
   generalize decide ((kl (X.getD k default)).length=1)=d
   generalize z1k (X.getD k default) c=q
   rw [zop,z1j,zl (jf (by omega))]
   cases b<;>cases d<;>cases q<;>rfl
  ·simp only [wy]
   rw [p9 (by omega)];rfl
 have i:wz 5000 ⟨X⟩ 5000 [] 0=some (z8g X):=by
  refine z0b (fun F c s=>wz 5000 ⟨X⟩ F s (c:Int)) (cols X) (fun c=>aj (zgx X) c) _ (fun F c g=>?_) (fun F=>?_) (by omega)
  ·have o:=z1u (zgx X) c
   simp only [wz]
   rw [qf (z2u h.toBx (by decide)),di (by omega),qf (f c g)]
   cases hb:zgx X c
   ·rw [cond_false,z1j,zl (jf (by omega))]
    simp only [aj,hb,cond_false];rfl
   ·rw [cond_true,zl ⟨by simp only [List.length_singleton];omega,by simp only [List.length_singleton];omega⟩,z1j,zl (jf (by omega))]
    simp only [aj,hb,cond_true];rfl
  ·simp only [wz]
   rw [qf (z2u h.toBx (by decide)),p9 (by omega)];rfl
 unfold z05
 rw [qf i]
/-! ### Greedy-/
def z8u(X:List (List Int))(C:List Bool)(n k:Nat):Bool:=(List.range n).any fun c=>C.getD c default&&z1k (X.getD k default) c
def z5h(X:List (List Int))(C:List Bool)(k:Nat):Bool:=l8 X k&& !z8u X C (cols X) k
def za8(X:List (List Int))(p:Nat→Bool)(c:Nat):Nat→Nat
 |0=>0
 |k+1=>za8 X p c k+if(p k&&z1k (X.getD k default) c)=true then 1 else 0
theorem zjm{X:List (List Int)}{p:Nat→Bool}{c:Nat}: ∀ n,za8 X p c n≤n
 |0=>Nat.le_refl _
 |n+1=>by
  have:=zjm (X:=X) (p:=p) (c:=c) n
  unfold za8
  split<;>omega
theorem zdl{X:List (List Int)}{p:Nat→Bool}{c:Nat}: ∀ {n},0<za8 X p c n↔ ∃ k,k<n∧p k=true∧z1k (X.getD k default) c=true
 |0=>⟨fun h=>absurd h (by simp [za8]),fun⟨k,h,_⟩=>absurd h (by omega)⟩
 |n+1=>by
  have ih:=zdl (X:=X) (p:=p) (c:=c) (n:=n)
  unfold za8
  by_cases e:(p n&&z1k (X.getD n default) c)=true
  ·rw [if_pos e]
   rw [Bool.and_eq_true] at e
   exact⟨fun _=>⟨n,by omega,e⟩,fun _=>by omega⟩
  ·rw [if_neg e,Nat.add_zero,ih]
   constructor
   ·rintro⟨k,b,a⟩;exact⟨k,by omega,a⟩
   ·rintro⟨k,b,a⟩
    by_cases e':k=n
    ·subst e';exact absurd (by rw [a.1,a.2];rfl) e
    ·exact⟨k,by omega,a⟩
theorem zf2{X:List (List Int)}(h:VX X){p:Nat→Bool}{c:Nat}(a:c<cols X){o:List Int}(b:o.length=cols X): ∀ n,n≤X.length→(zc0 X (aj p n) o).getD c default=o.getD c default+(za8 X p c n:Int)
 |0,_=>by simp [aj,zc0,za8]
 |n+1,d=>by
  have ih:=zf2 h (p:=p) a b n (by omega)
  have hn':n<X.length:=by omega
  unfold aj
  cases hb:p n
  ·simp only [cond_false]
   rw [ih]
   simp only [za8,hb];simp
  ·simp only [cond_true]
   rw [zha]
   show (addL (zc0 X (aj p n) o) (kl (X.getD ((n:Int)).toNat default))).getD c default=_
   rw [Int.toNat_natCast,zlt (by rw [zgl,b];exact zg5 h hn'),ih]
   unfold kl
   rw [zav,h.len n hn']
   simp only [za8,hb]
   cases hk:z1k (X.getD n default) c<;>simp [a]<;>omega
def z5e(X:List (List Int))(C:List Bool):List Int:=zc0 X (aj (z5h X C) X.length) (List.replicate (cols X) 0)
theorem zhe{X:List (List Int)}{C:List Bool}:(z5e X C).length=cols X:=by unfold z5e;rw [zgl,List.length_replicate]
theorem zdj{X:List (List Int)}(h:VX X){C:List Bool}{c:Nat}(a:c<cols X):(z5e X C).getD c default=(za8 X (z5h X C) c X.length:Int):=by
 unfold z5e
 rw [zf2 h a (List.length_replicate ..) _ (Nat.le_refl _),z6r (by rw [List.length_replicate];exact a),List.getElem_replicate];omega
theorem zhp{X:List (List Int)}(h:VX X){k c:Nat}(a:k<X.length)(b:c<cols X)(d:z1k (X.getD k default) c=true):l8 X k=true:=z4a.2 ⟨c,by rw [h.len k a];exact b,d⟩
theorem zq5{X:List (List Int)}(h:VX X){C:List Bool}(m:C.length=cols X){k:Nat}(f:k<X.length)(b:Bool):gq 5000 ⟨X⟩ C (k:Int) 5000 b 0=some (b&& !z8u X C (cols X) k):=by
 have g:=h.toBx.cols
 have:=z0b (fun F c s=>gq 5000 ⟨X⟩ C (k:Int) F s (c:Int)) (cols X) (fun n=>b&& !z8u X C n k) (b&& !z8u X C (cols X) k) (fun F c i=>?_) (fun F=>?_) (F:=5000) (by omega)
 ·have e:(b&& !z8u X C 0 k)=b:=by simp [z8u]
  rw [e] at this
  exact this
 ·simp only [gq]
  have j:z8u X C (c+1) k=(z8u X C c k||(C.getD c default&&z1k (X.getD k default) c)):=zdg
  rw [di (by omega),zl (fun _=>wh (by omega)),z4s h f (by rw [h.len k f];exact i),j]
  have l:ix C (c:Int)=C.getD c default:=rfl
  rw [l]
  generalize (C.getD c default:Bool)=d
  generalize z1k (X.getD k default) c=q
  generalize z8u X C c k=a
  rw [zop,z1j,zl (jf (by omega))]
  cases b<;>cases a<;>cases d<;>cases q<;>rfl
 ·simp only [gq]
  rw [p9 (by omega)]
theorem zqb{X:List (List Int)}(h:VX X){C:List Bool}(d:C.length=cols X){c:Nat}(b:c<cols X):xx 5000 ⟨X⟩ C (c:Int) 5000 0 0=some ((z5e X C).getD c default):=by
 have g:=h.rows
 rw [zdj h b]
 refine z0b (fun F k s=>xx 5000 ⟨X⟩ C (c:Int) F s (k:Int)) X.length (fun n=>(za8 X (z5h X C) c n:Int)) _ (fun F k a=>?_) (fun F=>?_) (by omega)
 ·have f:=zjm (X:=X) (p:=z5h X C) (c:=c) k
  simp only [xx]
  rw [di (by omega),qf (z4s h a (by rw [h.len k a];exact b)),qf (zq5 h d a _)]
  have e:(z1k (X.getD k default) c&& !z8u X C (cols X) k)=(z5h X C k&&z1k (X.getD k default) c):=by
   unfold z5h
   cases hb:z1k (X.getD k default) c
   ·simp
   ·rw [zhp h a b hb];simp
  rw [e]
  cases hq:(z5h X C k&&z1k (X.getD k default) c)
  ·rw [cond_false,z1j,zl (jf (by omega))]
   simp only [za8,hq,Bool.false_eq_true,if_false,Nat.add_zero];rfl
  ·rw [cond_true,zl (jf (by omega)),z1j,zl (jf (by omega))]
   simp only [za8,hq,if_true];rfl
 ·simp only [xx]
  rw [p9 (by omega)]
theorem zq3{X:List (List Int)}(h:VX X){C:List Bool}(p:C.length=cols X): ∃ r,bg 5000 ⟨X⟩ C 5000 (-1) 0 0=some r∧((r= -1∧ ∀ j,j<(z5e X C).length→(z5e X C).getD j default≤0)∨ ∃ i:Nat,r=(i:Int)∧Best (z5e X C) i):=by
 have q:=h.toBx.cols
 have u:=zhe (X:=X) (C:=C)
 refine z4k (σ:=Int×Int) (fun F c s=>bg 5000 ⟨X⟩ C F s.1 s.2 (c:Int)) (cols X)
  (fun c s=>(s.1= -1∧s.2=0∧ ∀ j,j<c→(z5e X C).getD j default≤0)∨ ∃ i:Nat,s.1=(i:Int)∧i<c∧s.2=(z5e X C).getD i default∧0<s.2∧(∀ j,j<c→(z5e X C).getD j default≤s.2)∧ ∀ j,j<i→(z5e X C).getD j default<s.2) _ (fun F c s t f=> .inr ?_) (fun F s f=>?_) 5000 0 (-1,0) (Nat.zero_le _) (by omega) (.inl ⟨rfl,rfl,fun j m=>by omega⟩)
 ·obtain⟨a,b⟩:=s
  dsimp only at f⊢
  simp only [bg]
  rw [di (by omega),qf (zqb h p t)]
  by_cases hb:b<(z5e X C).getD c default
  ·refine⟨((c:Int),(z5e X C).getD c default),.inr ⟨c,rfl,by omega,rfl,?_,fun j m=>?_,fun j m=>?_⟩,?_⟩
   ·rcases f with⟨_,g,_⟩|⟨i,_,_,_,n,_⟩
    ·show 0<(z5e X C).getD c default;omega
    ·show 0<(z5e X C).getD c default;omega
   ·by_cases e:j=c
    ·subst e;exact Int.le_refl _
    ·rcases f with⟨_,g,d⟩|⟨i,_,_,_,n,k,_⟩
     ·have:=d j (by omega);show (z5e X C).getD j default≤(z5e X C).getD c default;omega
     ·have:=k j (by omega);show (z5e X C).getD j default≤(z5e X C).getD c default;omega
   ·rcases f with⟨_,g,d⟩|⟨i,_,_,_,n,k,_⟩
    ·have:=d j (by omega);show (z5e X C).getD j default<(z5e X C).getD c default;omega
    ·have:=k j (by omega);show (z5e X C).getD j default<(z5e X C).getD c default;omega
   ·rw [di hb,z1j,zl (jf (by omega))];rfl
  ·refine⟨(a,b),?_,by rw [p9 hb,z1j,zl (jf (by omega))];rfl⟩
   rcases f with⟨l,g,d⟩|⟨i,l,g,d,n,k,o⟩
   ·refine .inl ⟨l,g,fun j m=>?_⟩
    by_cases e:j=c
    ·subst e;omega
    ·exact d j (by omega)
   ·refine .inr ⟨i,l,by omega,d,n,fun j m=>?_,o⟩
    by_cases e:j=c
    ·subst e;show (z5e X C).getD j default≤b;omega
    ·exact k j (by omega)
 ·obtain⟨a,b⟩:=s
  dsimp only at f⊢
  simp only [bg]
  rw [p9 (by omega)]
  refine⟨a,rfl,?_⟩
  rcases f with⟨l,g,d⟩|⟨i,l,g,d,n,k,o⟩
  ·exact .inl ⟨l,fun j m=>d j (by omega)⟩
  ·subst d
   exact .inr ⟨i,l,by omega,n,fun j m=>k j (by omega),o⟩
theorem zce{X:List (List Int)}(h:VX X): ∀ (F:Nat) (out:List Int) (C:List Bool),C.length=cols X→out.Nodup→(∀ z,z∈out↔ ∃ c:Nat,c<cols X∧z=(c:Int)∧C.getD c default=true)→(aj (z5h X C) X.length).length<F→out.length+(aj (z5h X C) X.length).length≤100→
 ∃ o C',z04 5000 ⟨X⟩ F (aj (z5h X C) X.length) out=some o∧ol 5000 ⟨X⟩ F C=some C'∧C'.length=cols X∧o.Nodup∧(∀ z,z∈o↔ ∃ c:Nat,c<cols X∧z=(c:Int)∧C'.getD c default=true)∧o.length≤100∧ ∀ k,k<X.length→l8 X k=true→z8u X C' (cols X) k=true
 |0,out,C,_,_,_,h,_=>by omega
 |F+1,out,C,B,t,hmem,hF,ho=>by
  have J:=h.toBx.cols
  have h1:=h.rows
  have K:(aj (z5h X C) X.length).length≤X.length:=z1u _ _
  have L:=zhe (X:=X) (C:=C)
  have M: ∀ i∈aj (z5h X C) X.length,0≤i∧i<(X.length:Int):=fun i hi=>by
   obtain⟨k,f,rfl,_⟩:=ay.1 hi;omega
  simp only [z04,ol]
  rw [qf (zhz h (by decide) M (by omega))]
  obtain⟨y,N,hyok⟩:=zn2 (l:=z5e X C) (by omega)
  obtain⟨r,O,hrok⟩:=zq3 h B
  rw [qf (show z2i 5000 (zc0 X (aj (z5h X C) X.length) (List.replicate (cols X) 0))=some y from N),qf O]
  rcases hyok with⟨D,i,E,d⟩|⟨D,g⟩
  ·have u:r=(i:Int):=by
    rcases hrok with⟨_,g⟩|⟨j,v,hb'⟩
    ·have:=g i d.lt;have:=d.pos;omega
    ·rw [v,d.uniq hb']
   have hi:i<cols X:=by have:=d.lt;omega
   have hpos:=d.pos
   rw [zdj h hi] at hpos
   obtain⟨k,f,p,w⟩:=zdl.1 (show 0<za8 X (z5h X C) i X.length by omega)
   have x:C.getD i default=false:=by
    cases e:C.getD i default with
    |false=>rfl
    |true=>
     have:z8u X C (cols X) k=true:=ae.2 ⟨i,hi,by rw [e,w];rfl⟩
     unfold z5h at p
     rw [this] at p;simp at p
   have hdel:ik 5000 (aj (z5h X C) X.length) (fun G=>z09 5000 G ⟨X⟩ y.1)=some (aj (z5h X (C.set i true)) X.length):=by
    rw [del_eq (q:=fun z=>z1k (X.getD z.toNat default) i) (by omega) (fun z g=>by
     obtain⟨k,f,rfl,_⟩:=ay.1 g
     unfold z09
     rw [E,qf (z9s f (by rw [h.len k f];exact hi))];rfl)]
    rw [zcf (q:=fun k=> !z1k (X.getD k default) i) (fun k f=>by rw [Int.toNat_natCast])]
    congr 1
    refine zam fun k f=>?_
    have e:z8u X (C.set i true) (cols X) k=(z8u X C (cols X) k||z1k (X.getD k default) i):=by
     rw [Bool.eq_iff_iff,Bool.or_eq_true]
     unfold z8u
     rw [ae,ae]
     constructor
     ·rintro⟨c,m,d⟩
      rw [Bool.and_eq_true] at d
      by_cases e:c=i
      ·subst e;exact .inr d.2
      ·refine .inl ⟨c,m,?_⟩
       have:(C.set i true).getD c default=C.getD c default:=by
        rw [List.getD_eq_getElem?_getD,List.getD_eq_getElem?_getD,List.getElem?_set,if_neg (fun h=>e h.symm)]
       rw [←this,d.1,d.2];rfl
     ·rintro(⟨c,m,d⟩|d)
      ·rw [Bool.and_eq_true] at d
       have e:c≠i:=fun e=>by
        have I:=d.1
        rw [e,x] at I;cases I
       have:(C.set i true).getD c default=C.getD c default:=by
        rw [List.getD_eq_getElem?_getD,List.getD_eq_getElem?_getD,List.getElem?_set,if_neg (fun h=>e h.symm)]
       exact⟨c,m,by rw [this,d.1,d.2];rfl⟩
      ·exact⟨i,hi,by rw [List.getD_eq_getElem?_getD,List.getElem?_set,if_pos rfl,if_pos (by omega),d];rfl⟩
    unfold z5h
    rw [e]
    cases l8 X k<;>cases z8u X C (cols X) k<;>cases z1k (X.getD k default) i<;>rfl
   have P:(aj (z5h X (C.set i true)) X.length).length<(aj (z5h X C) X.length).length:=by
    have H:=del_eq (s:=aj (z5h X C) X.length) (del:=fun G=>z09 5000 G ⟨X⟩ y.1) (q:=fun z=>z1k (X.getD z.toNat default) i) (by omega) (fun z g=>by
     obtain⟨k,f,rfl,_⟩:=ay.1 g
     unfold z09
     rw [E,qf (z9s f (by rw [h.len k f];exact hi))];rfl)
    rw [hdel] at H
    rw [Option.some.inj H,List.length_filter_lt_length_iff_exists]
    exact⟨(k:Int),ay.2 ⟨k,f,rfl,p⟩,by rw [Int.toNat_natCast,w];simp⟩
   obtain⟨o,C',Q,R,S,T,U,V,W⟩:=zce h F (out++[(i:Int)]) (C.set i true) (by rw [List.length_set];exact B) (by
    rw [List.nodup_append]
    refine⟨t,List.pairwise_singleton _ _,fun a Y b d e=>?_⟩
    rw [List.mem_singleton] at d
    subst d e
    obtain⟨c,m,g,n⟩:=(hmem _).1 Y
    rw [show c=i by omega,x] at n;cases n) (fun z=>by
    rw [List.mem_append,List.mem_singleton,hmem]
    constructor
    ·rintro(⟨c,m,rfl,n⟩|rfl)
     ·refine⟨c,m,rfl,?_⟩
      rw [List.getD_eq_getElem?_getD,List.getElem?_set]
      by_cases e:i=c
      ·rw [if_pos e,if_pos (by omega)];rfl
      ·rw [if_neg e,←List.getD_eq_getElem?_getD];exact n
     ·exact⟨i,hi,rfl,by rw [List.getD_eq_getElem?_getD,List.getElem?_set,if_pos rfl,if_pos (by omega)];rfl⟩
    ·rintro⟨c,m,rfl,n⟩
     by_cases e:i=c
     ·subst e;exact .inr rfl
     ·refine .inl ⟨c,m,rfl,?_⟩
      rw [List.getD_eq_getElem?_getD,List.getElem?_set,if_neg e,←List.getD_eq_getElem?_getD] at n;exact n) (by omega) (by rw [List.length_append,List.length_singleton];omega)
   refine⟨o,C',?_,?_,S,T,U,V,W⟩
   ·rw [D]
    refine(cf rfl).trans ?_
    rw [zl ⟨by simp only [List.length_singleton];omega,by simp only [List.length_singleton];omega⟩,qf hdel,E]
    exact Q
   ·rw [p9 (by omega),u,zl (wh (by omega))]
    exact R
  ·have u:r= -1:=by
    rcases hrok with⟨h,_⟩|⟨j,v,hb'⟩
    ·exact h
    ·have:=g j hb'.lt;have:=hb'.pos;omega
   refine⟨out,C,by rw [D];exact ct rfl,by rw [di (by omega)],B,t,hmem,by omega,fun k f A=>?_⟩
   cases e:z8u X C (cols X) k with
   |true=>rfl
   |false=>
    obtain⟨j,v,d⟩:=z4a.1 A
    rw [h.len k f] at v
    have p:z5h X C k=true:=by unfold z5h;rw [A,e];rfl
    have H:0<za8 X (z5h X C) j X.length:=zdl.2 ⟨k,f,p,d⟩
    have Z:=g j (by omega)
    rw [zdj h v] at Z
    omega
theorem zjs{X:List (List Int)}(h:VX X): ∃ C:List Bool,z0g 5000 ⟨X⟩=some (aj (fun c=>C.getD c default) (cols X),0)∧z0r 5000 ⟨X⟩=some (aj (fun c=>C.getD c default) (cols X))∧ ∀ k,k<X.length→l8 X k=true→z8u X C (cols X) k=true:=by
 have t:=h.rows
 have i:=h.toBx.cols
 have a: ∀ c,(List.replicate (cols X) false).getD c default=false:=fun c=>by
  rw [List.getD_eq_getElem?_getD,List.getElem?_replicate];split<;>rfl
 have b:aj (z5h X (List.replicate (cols X) false)) X.length=z0s X:=by
  refine zam fun k u=>?_
  have:z8u X (List.replicate (cols X) false) (cols X) k=false:=ah.2 fun c j=>by rw [a];rfl
  unfold z5h
  rw [this];simp
 have l:(z0s X).length≤X.length:=z1u _ _
 obtain⟨o,C,f,m,v,n,p,w,q⟩:=zce h 5000 [] (List.replicate (cols X) false) (List.length_replicate ..) List.nodup_nil (fun z=>⟨fun h=>by simp at h,fun⟨c,_,_,g⟩=>by rw [a] at g;cases g⟩) (by rw [b];omega) (by rw [b,List.length_nil];omega)
 rw [b] at f
 have x:=z4h o
 have e:z2g o=aj (fun c=>C.getD c default) (cols X):=by
  refine zm1 (zla n) (z9a _) fun z=>?_
  rw [(z6j _).mem_iff,p,ay]
 refine⟨C,?_,?_,q⟩
 ·unfold z0g
  rw [qf (zbb h.toBx (by decide)),z8t h,p9 (by decide),qf (zk8 h.toBx (by decide)),qf f,qf (zhd (by omega)),e]
  unfold z2m
  rw [zl (zff _),zg6,z1j]
 ·have d:gp 5000 C 5000 [] 0=some (aj (fun c=>C.getD c default) (cols X)):=by
   refine z0b (fun F c s=>gp 5000 C F s (c:Int)) (cols X) (fun c=>aj (fun c=>C.getD c default) c) _ (fun F c j=>?_) (fun F=>?_) (by omega)
   ·have y:=z1u (fun c=>C.getD c default) c
    simp only [gp]
    rw [di (by omega),zl (wh (by omega))]
    have r:ix C (c:Int)=C.getD c default:=rfl
    rw [r]
    cases hb:(C.getD c default:Bool)
    ·rw [cond_false,z1j,zl (jf (by omega))]
     simp only [aj,hb,cond_false];rfl
    ·rw [cond_true,zl ⟨by simp only [List.length_singleton];omega,by simp only [List.length_singleton];omega⟩,z1j,zl (jf (by omega))]
     simp only [aj,hb,cond_true];rfl
   ·simp only [gp]
    rw [p9 (by omega)]
  unfold z0r
  rw [qf (z2u h.toBx (by decide)),zl ⟨by omega,by omega,by omega⟩,zkz,qf m,qf d]
end GV
end Go.Proofs.YtkhihcleegljhaaGreat

namespace Go.Proofs.YtkhihcleegljhaaGreat
namespace GV
set_option maxRecDepth 1000000
def subs:Nat→List (List Int)
 |0=>[[]]
 |n+1=>subs n++(subs n).map fun l=>l++[(n:Int)]
theorem zc6{p:Nat→Bool}: ∀ n,aj p n∈subs n
 |0=>List.mem_singleton.2 rfl
 |n+1=>by
  have ih:=zc6 (p:=p) n
  unfold aj subs
  cases p n
  ·exact List.mem_append.2 (.inl ih)
  ·exact List.mem_append.2 (.inr (List.mem_map.2 ⟨_,ih,rfl⟩))
theorem zeq{n m:Nat}(h:n≤m){l:List Int}(a:l∈subs n):l∈subs m:=by
 induction m with
 |zero=>rw [show n=0 by omega] at a;exact a
 |succ m ih=>
  by_cases e:n=m+1
  ·subst e;exact a
  ·exact List.mem_append.2 (.inl (ih (by omega)))
def chs(n:Nat):Nat→Nat→List (List Int)
 |0,_=>[[]]
 |l+1,f=>(List.range' f (n-f)).flatMap fun c=>(chs n l (c+1)).map fun r=>(c:Int)::r
theorem zji{n:Nat}: ∀ {l f:Nat},n<f+l→f≤n→chs n l f=[]
 |0,f,h,a=>by omega
 |l+1,f,h,a=>by
  unfold chs
  rw [List.flatMap_eq_nil_iff]
  intro c b
  rw [List.mem_range'_1] at b
  rw [zji (l:=l) (f:=c+1) (by omega) (by omega)];rfl
def orL(s:Int)(l:List Int):Int:=l.foldl (fun s c=>ior s (sw .u64 1 c)) s
def zek(ms:List Int)(v:Int):Bool:= !(ms.any fun z=>decide (z4d z v=0))
/-! ### closed facts:at most 6 columns-/
theorem zge: ∀ n:Nat,n<7→ ∀ k:Nat,k<8→(decide (n<k)||decide (dz 5000 5000 0 (n:Int) (k:Int)=some (chs n k 0)))=true:=by decide+kernel
theorem zdw(n:Nat)(a:n<7)(k:Nat)(b:k<8)(c:k≤n):dz 5000 5000 0 (n:Int) (k:Int)=some (chs n k 0):=by
 have h:=zge n a k b
 rw [decide_eq_false (by omega),Bool.false_or,decide_eq_true_eq] at h
 exact h
theorem zi6: ∀ n,n<7→ ∀ a∈subs n,a.length≤n∧a∈chs n a.length 0:=by decide+kernel
theorem zng: ∀ n:Nat,n<7→ ∀ k:Nat,k<8→((chs n k 0).all fun l=>decide (z0e 5000 (n:Int) (orL 0 l,true) 5000 [] 0=some l)&&(decide (l.length=k)&&((subs n).contains l&&chB n l)))=true:=by decide+kernel
theorem zft{n k:Nat}(a:n<7)(b:k<8){l:List Int}(c:l∈chs n k 0):z0e 5000 (n:Int) (orL 0 l,true) 5000 [] 0=some l∧l.length=k∧l∈subs n∧chB n l=true:=by
 have h:=List.all_eq_true.1 (zng n a k b) l c
 simp only [Bool.and_eq_true,decide_eq_true_eq,List.contains_iff_mem] at h
 exact h
theorem zkt: ∀ n,n<7→ ∀ k,k<8→(chs n k 0).length≤20:=by decide+kernel
theorem zp4: ∀ a∈subs 6,∀ b∈subs 6,decide (z4d (orL 0 a) (orL 0 b)=0)= !(a.any fun z=>b.contains z):=by decide+kernel
theorem znl: ∀ n,n<7→chs n n 0=[aj (fun _=>true) n]:=by decide+kernel
/-! ### masks-/
theorem zlf{r:List Int}(g:r.length≤100)(e: ∀ c∈r,0≤c∧c<16):wm 5000 r 5000 0 0=some (orL 0 r)∧z6m (orL 0 r):=by
 have b: ∀ k,z6m (orL 0 (r.take k)):=fun k=>by
  induction k with
  |zero=>exact⟨by simp [orL],by simp [orL];decide⟩
  |succ k ih=>
   by_cases a:k<r.length
   ·rw [take_snoc' a]
    unfold orL
    rw [List.foldl_append]
    exact zje ih z5d
   ·rw [List.take_of_length_le (by omega)]
    rwa [List.take_of_length_le (by omega)] at ih
 have d:=b r.length
 rw [List.take_length] at d
 refine⟨?_,d⟩
 refine z0b (fun F k s=>wm 5000 r F s (k:Int)) r.length (fun k=>orL 0 (r.take k)) _ (fun F k a=>?_) (fun F=>?_) (by omega)
 ·have f:=e _ (z00 a)
  simp only [wm]
  rw [di (by omega),zl (wh a),ma,zl ⟨f.1,by show r.getD k default≤64;omega⟩,zl ⟨b k,z5d⟩,zl (jf (by omega)),take_snoc' a]
  unfold orL
  rw [List.foldl_append];rfl
 ·simp only [wm]
  rw [p9 (by omega),List.take_length]
def z8y(X:List (List Int))(i:Int):Int:=orL 0 (kl (X.getD i.toNat default))
theorem zkn{X:List (List Int)}(h:VX X)(u:cols X≤16): ∃ ms,z0h 5000 ⟨X⟩=some ms∧ms.length≤100∧(∀ z∈ms,z6m z)∧ ∀ z,z∈ms↔ ∃ k,k<X.length∧l8 X k=true∧z=z8y X (k:Int):=by
 have v:=h.rows
 have n:(z0s X).length≤X.length:=z1u _ _
 have d: ∀ i,i<X.length→wm 5000 (kl (X.getD i default)) 5000 0 0=some (orL 0 (kl (X.getD i default)))∧z6m (orL 0 (kl (X.getD i default))):=fun i hi=>by
  have m:=zm2 (X.getD i default)
  have o:=h.len i hi
  exact zlf (by omega) (fun c hc'=>by have:=zg5 h hi c hc';omega)
 have p:xn 5000 ⟨X⟩ (z0s X) 5000 [] 0=some ((z0s X).map (z8y X)):=by
  refine z0b (fun F k s=>xn 5000 ⟨X⟩ (z0s X) F s (k:Int)) (z0s X).length (fun k=>((z0s X).take k).map (z8y X)) _ (fun F k a=>?_) (fun F=>?_) (by omega)
  ·obtain⟨w,x⟩:=zbr (X:=X) _ (z00 a)
   obtain⟨i,hi⟩: ∃ i:Nat,(z0s X).getD k default=(i:Int):=⟨((z0s X).getD k default).toNat,by omega⟩
   have e:i<X.length:=by omega
   have f:(((z0s X).take k).map (z8y X)).length=k:=by rw [List.length_map,List.length_take];omega
   simp only [xn]
   rw [di (by omega),zl (wh a),ma,hi,qf (z8n h.toBx (by decide) e),qf (d i e).1,zl ⟨by rw [f];simp only [List.length_singleton];omega,by rw [f];simp only [List.length_singleton];omega⟩,zl (jf (by omega)),take_snoc' a,List.map_append,hi];rfl
  ·simp only [xn]
   rw [p9 (by omega),List.take_length]
 have hmem: ∀ z,z∈(z0s X).map (z8y X)↔ ∃ k,k<X.length∧l8 X k=true∧z=z8y X (k:Int):=fun z=>by
  rw [List.mem_map]
  unfold z0s
  constructor
  ·rintro⟨i,hi,rfl⟩
   obtain⟨k,a,rfl,b⟩:=ay.1 hi
   exact⟨k,a,b,rfl⟩
  ·rintro⟨k,a,b,rfl⟩
   exact⟨(k:Int),ay.2 ⟨k,a,rfl,b⟩,rfl⟩
 have g:((z0s X).map (z8y X)).length≤100:=by rw [List.length_map];omega
 have j: ∀ z∈(z0s X).map (z8y X),z6m z:=fun z l=>by
  obtain⟨k,a,_,rfl⟩:=(hmem z).1 l
  exact(d k a).2
 obtain⟨Y,q,b⟩:=zlx (X:=(z0s X).map (z8y X)) g
 have r:=b.length_eq
 have t:=zay Y Y.length
 unfold z0h
 rw [qf (zg8 h.toBx (by decide)),qf p,qf q,qf (zpy (by omega))]
 refine⟨cpt Y,rfl,by unfold cpt;omega,fun z l=>j z (b.mem_iff.1 (zfn.1 l)),fun z=>?_⟩
 rw [zfn,b.mem_iff,hmem]
theorem zg7{s:List Int}{f:Int→Option Bool}{q:Int→Bool}(k:s.length≤100)(b: ∀ c∈s,f c=some (q c)):lw 5000 s f=some (s.any q):=by
 have d: ∃ r,xk 5000 s f 5000 0=some r∧((∃ i:Nat,r=Ex.rt (i:Int)∧s.any q=true)∨(r=Ex.go ()∧s.any q=false)):=by
  refine z4k (σ:=Unit) (fun F i _=>xk 5000 s f F (i:Int)) s.length (fun i _=> ∀ j,j<i→q (s.getD j default)=false) _ (fun F i u hi a=>?_) (fun F u a=>?_) 5000 0 () (Nat.zero_le _) (by omega) (fun j a=>absurd a (by omega))
  ·simp only [xk]
   rw [di (by omega),zl (wh hi),ma,b _ (z00 hi),z1j]
   cases hq:q (s.getD i default)
   ·right
    refine⟨(),fun j hj'=>?_,?_⟩
    ·by_cases e:j=i
     ·subst e;exact hq
     ·exact a j (by omega)
    ·rw [cond_false,zl (jf (by omega))];rfl
   ·left
    exact⟨_,by rw [cond_true],.inl ⟨i,rfl,List.any_eq_true.2 ⟨_,z00 hi,hq⟩⟩⟩
  ·simp only [xk]
   rw [p9 (by omega)]
   exact⟨_,rfl,.inr ⟨rfl,by rw [←zcu];exact ah.2 a⟩⟩
 obtain⟨r,g,h⟩:=d
 unfold lw z1a
 rw [qf g]
 rcases h with⟨i,rfl,h⟩|⟨rfl,h⟩
 ·rw [zkk,z1j,h,decide_eq_true (by omega)]
 ·rw [zfe,z1j,h];rfl
/-! ### choose-/
def Res(ms:List Int)(s:Int)(L:List (List Int))(y:Int×Bool):Prop:=(∃ l,L.find? (fun l=>zek ms (orL s l))=some l∧y=(orL s l,true))∨(L.find? (fun l=>zek ms (orL s l))=none∧y.2=false)
def zql(ms:List Int)(s:Int)(L:List (List Int))(y:Ex Unit (Int×Bool)):Prop:=(∃ l,L.find? (fun l=>zek ms (orL s l))=some l∧y= .rt (orL s l,true))∨(L.find? (fun l=>zek ms (orL s l))=none∧y= .go ())
theorem zmv{ms:List Int}{s c:Int}{L:List (List Int)}:(L.map fun r=>c::r).find? (fun l=>zek ms (orL s l))=(L.find? (fun l=>zek ms (orL (ior s (sw .u64 1 c)) l))).map fun r=>c::r:=by
 rw [List.find?_map];rfl
theorem zc2{ms:List Int}{n:Nat}(k:n≤16)(g:ms.length≤100)(i: ∀ z∈ms,z6m z): ∀ (G:Nat) (s:Int) (f left:Nat),z6m s→f≤n→left<G→left≤17→ ∃ y,pu 5000 G s (f:Int) (left:Int) ms (n:Int)=some y∧Res ms s (chs n left f) y
 |0,s,f,left,_,_,h,_=>by omega
 |G+1,s,f,left,a,m,B,o=>by
  simp only [pu]
  cases left with
  |zero=>
   rw [di (by omega),qf (zg7 (q:=fun z=>decide (z4d z s=0)) g (fun c j=>by
    unfold z1x
    rw [zl ⟨i c j,a⟩]))]
   refine⟨_,rfl,?_⟩
   have e:zek ms (orL s [])= !(ms.any fun z=>decide (z4d z s=0)):=rfl
   unfold Res
   show (∃ l,List.find? _ [[]]=some l∧_)∨(List.find? _ [[]]=none∧_)
   cases hb: !(ms.any fun z=>decide (z4d z s=0))
   ·exact .inr ⟨by rw [List.find?_cons,e,hb];rfl,rfl⟩
   ·exact .inl ⟨[],by rw [List.find?_cons,e,hb],rfl⟩
  |succ left=>
   rw [p9 (by omega)]
   have p: ∀ (F c:Nat),c≤n→n-c<F→ ∃ q,fu 5000 (pu 5000 G) s ((left+1:Nat):Int) ms (n:Int) F (c:Int)=some q∧zql ms s ((List.range' c (n-c)).flatMap fun c=>(chs n left (c+1)).map fun r=>(c:Int)::r) q:=by
    intro F
    induction F with
    |zero=>intro c _ h;omega
    |succ F ih=>
     intro c C D
     simp only [fu]
     rw [zl (jf (by omega))]
     by_cases j:c+left+1≤n
     ·obtain⟨y,t,u⟩:=zc2 k g i G (ior s (sw .u64 1 (c:Int))) (c+1) left (zje a z5d) (by omega) (by omega) (by omega)
      have v:(n-c)=(n-(c+1))+1:=by omega
      rw [di (by omega),zl ⟨by omega,by show (c:Int)≤64;omega⟩,zl ⟨a,z5d⟩,zl (jf (by omega)),zl (jf (by omega)),
       show (((left+1:Nat):Int)-1)=(left:Int) by omega,qf (show pu 5000 G (ior s (sw .u64 1 (c:Int))) ((c:Int)+1) (left:Int) ms (n:Int)=_ from t),v,List.range'_succ,List.flatMap_cons]
      unfold zql
      rw [List.find?_append,zmv]
      rcases u with⟨l,hl',rfl⟩|⟨hl',b⟩
      ·rw [hl']
       exact⟨.rt (orL (ior s (sw .u64 1 (c:Int))) l,true),rfl,.inl ⟨_,rfl,rfl⟩⟩
      ·rw [hl',b,cond_false,zl (jf (by omega))]
       exact ih (c+1) (by omega) (by omega)
     ·have e:((List.range' c (n-c)).flatMap fun c=>(chs n left (c+1)).map fun r=>(c:Int)::r)=[]:=by
       rw [List.flatMap_eq_nil_iff]
       intro d w
       rw [List.mem_range'_1] at w
       rw [zji (l:=left) (f:=d+1) (by omega) (by omega)];rfl
      rw [p9 (by omega),e];exact⟨_,rfl,.inr ⟨rfl,rfl⟩⟩
   obtain⟨q,x,A⟩:=p 5000 f m (by omega)
   rw [qf x]
   rcases A with⟨l,hl',rfl⟩|⟨hl',rfl⟩
   ·exact⟨_,rfl,.inl ⟨l,hl',rfl⟩⟩
   ·exact⟨_,rfl,.inr ⟨hl',rfl⟩⟩
/-! ### the first cover-/
theorem zne{X:List (List Int)}(h:VX X){k:Nat}(a:k<X.length):kl (X.getD k default)∈subs (cols X):=by
 rw [←h.len k a];exact zc6 _
theorem zp8{X:List (List Int)}(h:VX X)(g:cols X≤6){ms:List Int}(d: ∀ z,z∈ms↔ ∃ k,k<X.length∧l8 X k=true∧z=z8y X (k:Int)){l:List Int}(j:l∈subs (cols X))(m:chB (cols X) l=true):zek ms (orL 0 l)=ru X l:=by
 have n:=zct m
 unfold zek ru
 congr 1
 rw [Bool.eq_iff_iff,List.any_eq_true,ae]
 have key: ∀ k,k<X.length→(decide (z4d (z8y X (k:Int)) (orL 0 l)=0)= !z0t X l k):=fun k a=>by
  unfold z8y
  rw [Int.toNat_natCast,zp4 _ (zeq g (zne h a)) _ (zeq g j)]
  congr 1
  rw [Bool.eq_iff_iff]
  unfold z0t
  rw [List.any_eq_true,List.any_eq_true]
  constructor
  ·rintro⟨z,b,f⟩
   obtain⟨i,hi,rfl,e⟩:=ay.1 b
   exact⟨(i:Int),List.contains_iff_mem.1 f,by rw [Int.toNat_natCast];exact e⟩
  ·rintro⟨z,b,e⟩
   obtain⟨o,p⟩:=n z b
   refine⟨z,ay.2 ⟨z.toNat,by rw [h.len k a];omega,by omega,e⟩,List.contains_iff_mem.2 b⟩
 constructor
 ·rintro⟨z,b,c⟩
  obtain⟨k,a,e,rfl⟩:=(d z).1 b
  rw [key k a] at c
  exact⟨k,a,by rw [e,c];rfl⟩
 ·rintro⟨k,a,c⟩
  rw [Bool.and_eq_true] at c
  exact⟨_,(d _).2 ⟨k,a,c.1,rfl⟩,by rw [key k a];exact c.2⟩
theorem find_congr{α:Type}{p q:α→Bool}: ∀ {L:List α},(∀ l∈L,p l=q l)→L.find? p=L.find? q
 | [],_=>rfl
 |a::L,h=>by rw [List.find?_cons,List.find?_cons,h a (List.mem_cons_self ..),find_congr (fun l b=>h l (List.mem_cons_of_mem _ b))]
theorem zgo{X:List (List Int)}(h:VX X):ru X (aj (fun _=>true) (cols X))=true:=by
 unfold ru
 rw [Bool.not_eq_true',ah]
 intro k b
 cases hp:l8 X k with
 |false=>rfl
 |true=>
  obtain⟨j,a,c⟩:=z4a.1 hp
  rw [h.len k b] at a
  have:z0t X (aj (fun _=>true) (cols X)) k=true:=List.any_eq_true.2 ⟨(j:Int),ay.2 ⟨j,a,rfl,rfl⟩,by rw [Int.toNat_natCast];exact c⟩
  rw [this];rfl
theorem zh0{X:List (List Int)}(h:VX X)(i:cols X≤6): ∃ k l,k≤cols X∧(chs (cols X) k 0).find? (ru X)=some l∧ ∀ j,j<k→(chs (cols X) j 0).find? (ru X)=none:=by
 have hfull: ∃ l,(chs (cols X) (cols X) 0).find? (ru X)=some l:=by
  rw [znl _ (by omega),List.find?_cons,zgo h];exact⟨_,rfl⟩
 have: ∀ m,m≤cols X+1→(∃ k l,k<m∧(chs (cols X) k 0).find? (ru X)=some l∧ ∀ j,j<k→(chs (cols X) j 0).find? (ru X)=none)∨ ∀ j,j<m→(chs (cols X) j 0).find? (ru X)=none:=by
  intro m
  induction m with
  |zero=>intro _;exact .inr fun j d=>by omega
  |succ m ih=>
   intro n
   rcases ih (by omega) with⟨k,l,f,b⟩|a
   ·exact .inl ⟨k,l,by omega,b⟩
   ·cases hf:(chs (cols X) m 0).find? (ru X) with
    |some l=>exact .inl ⟨m,l,by omega,hf,a⟩
    |none=>
     refine .inr fun j d=>?_
     by_cases e:j=m
     ·subst e;exact hf
     ·exact a j (by omega)
 rcases this (cols X+1) (Nat.le_refl _) with⟨k,l,f,b,g⟩|a
 ·exact⟨k,l,by omega,b,g⟩
 ·obtain⟨l,c⟩:=hfull
  rw [a _ (by omega)] at c;cases c
theorem zbz{X:List (List Int)}(h:VX X){L:List (List Int)}(a: ∀ l∈L,iw 5000 ⟨X⟩ l=some (ru X l))(b:L.length≤1000): ∀ (F i:Nat),i≤L.length→L.length-i<F→bz 5000 ⟨X⟩ L F (i:Int)=some (match (L.drop i).find? (ru X) with|some l=>Ex.rt (Ex.rt l)|none=>Ex.go ())
 |0,i,_,h=>by omega
 |F+1,i,hi,d=>by
  simp only [bz]
  by_cases e:i=L.length
  ·rw [p9 (by omega),e,List.drop_length];rfl
  ·have hi':i<L.length:=by omega
   have c:L.drop i=L.getD i default::L.drop (i+1):=by rw [List.drop_eq_getElem_cons hi',z6r hi']
   rw [di (by omega),zl (wh hi'),ma,qf (a _ (z00 hi')),c,List.find?_cons]
   cases hb:ru X (L.getD i default)
   ·rw [cond_false,zl (jf (by omega))]
    exact zbz h a b F (i+1) hi' (by omega)
   ·rw [cond_true,zl (wh hi')]
theorem zmf{X:List (List Int)}(h:VX X)(A:cols X≤6): ∃ l,z18 5000 ⟨X⟩=some (l,0)∧z0w 5000 ⟨X⟩=some l∧l∈subs (cols X)∧chB (cols X) l=true∧ru X l=true∧ ∀ b∈subs (cols X),ru X b=true→l.length≤b.length:=by
 obtain⟨k,l,o,e,p⟩:=zh0 h A
 obtain⟨ms,q,f,g,hmem⟩:=zkn h (by omega)
 have r:l∈chs (cols X) k 0:=List.mem_of_find?_eq_some e
 have s:ru X l=true:=List.find?_some e
 obtain⟨B,I,C,D⟩:=zft (n:=cols X) (k:=k) (by omega) (by omega) r
 have c: ∀ j,j≤cols X→(chs (cols X) j 0).find? (fun l=>zek ms (orL 0 l))=(chs (cols X) j 0).find? (ru X):=fun j i=>find_congr fun l t=>by
  obtain⟨_,_,E,u⟩:=zft (n:=cols X) (k:=j) (by omega) (by omega) t
  exact zp8 h A hmem E u
 refine⟨l,?_,?_,C,D,s,fun b G v=>?_⟩
 ·have d:ig 5000 (cols X:Int) ms 5000 0=some (Ex.rt (l,0)):=by
   refine z0b (fun F j (_:Unit)=>ig 5000 (cols X:Int) ms F (j:Int)) k (fun _=>()) _ (fun F j i=>?_) (fun F=>?_) (by omega)
   ·obtain⟨y,w,x⟩:=zc2 (n:=cols X) (by omega) f g 5000 0 0 j ⟨by decide,by decide⟩ (by omega) (by omega) (by omega)
    simp only [ig]
    rw [di (by omega),qf (show pu 5000 5000 0 0 (j:Int) ms (cols X:Int)=_ from w)]
    rcases x with⟨l',hl',_⟩|⟨_,z⟩
    ·rw [c j (by omega),p j i] at hl';cases hl'
    ·rw [z,cond_false,zl (jf (by omega))];rfl
   ·obtain⟨y,w,x⟩:=zc2 (n:=cols X) (by omega) f g 5000 0 0 k ⟨by decide,by decide⟩ (by omega) (by omega) (by omega)
    simp only [ig]
    rw [di (by omega),qf (show pu 5000 5000 0 0 (k:Int) ms (cols X:Int)=_ from w)]
    rcases x with⟨l',hl',rfl⟩|⟨m,_⟩
    ·rw [c k o,e] at hl'
     obtain rfl:=Option.some.inj hl'
     rw [cond_true,qf B]
     unfold z1c
     rw [zl (zff _),zg6,z1j]
    ·rw [c k o,e] at m;cases m
  unfold z18
  rw [qf (zbb h.toBx (by decide)),z8t h,p9 (by decide),qf (z8q h.toBx (by decide)),p9 (by omega),qf q,zl (jf (by omega)),qf d]
  rfl
 ·have hcvs: ∀ j,j≤cols X→ ∀ l∈chs (cols X) j 0,iw 5000 ⟨X⟩ l=some (ru X l):=fun j i l t=>by
   obtain⟨_,J,_,u⟩:=zft (n:=cols X) (k:=j) (by omega) (by omega) t
   exact zhy h (by decide) (by omega) (zct u)
  have d:bu 5000 ⟨X⟩ 5000 0=some (Ex.rt l):=by
   refine z0b (fun F j (_:Unit)=>bu 5000 ⟨X⟩ F (j:Int)) k (fun _=>()) _ (fun F j i=>?_) (fun F=>?_) (by omega)
   ·have hnum:=zkt (cols X) (by omega) j (by omega)
    have a:=zbz h (hcvs j (by omega)) (by omega) 5000 0 (Nat.zero_le _) (by omega)
    rw [List.drop_zero,p j i] at a
    simp only [bu]
    rw [qf (z2u h.toBx (by decide)),di (by omega),qf (z2u h.toBx (by decide)),qf (zdw (cols X) (by omega) j (by omega) (by omega)),qf (show bz 5000 ⟨X⟩ (chs (cols X) j 0) 5000 0=_ from a),zfe,zl (jf (by omega))];rfl
   ·have hnum:=zkt (cols X) (by omega) k (by omega)
    have a:=zbz h (hcvs k o) (by omega) 5000 0 (Nat.zero_le _) (by omega)
    rw [List.drop_zero,e] at a
    simp only [bu]
    rw [qf (z2u h.toBx (by decide)),di (by omega),qf (z2u h.toBx (by decide)),qf (zdw (cols X) (by omega) k (by omega) o),qf (show bz 5000 ⟨X⟩ (chs (cols X) k 0) 5000 0=_ from a),zkk]
  unfold z0w
  rw [qf d,zkk]
 ·obtain⟨K,H⟩:=zi6 (cols X) (by omega) b G
  by_cases hlt:b.length<k
  ·have:=p _ hlt
   rw [List.find?_eq_none] at this
   exact absurd v (this b H)
  ·omega
/-! ### the law-/
theorem zme:z1l 5000=some true:=by decide+kernel
theorem zl7{l:List Int}{z:Int}(a:z∈l)(d:l.length≤6){L:Nat→Bool→Int→Option Bool}(step: ∀ F b (j:Nat),j<l.length→L (F+1) b (j:Int)=L F (b||decide (l.getD j default=z)) ((j:Int)+1))(fin: ∀ F b,L (F+1) b (l.length:Int)=some b):L 5000 false 0=some true:=by
 have:=z0b (fun F j b=>L F b (j:Int)) l.length (fun j=>(List.range j).any fun i=>decide (l.getD i default=z)) ((List.range l.length).any fun i=>decide (l.getD i default=z)) (fun F j c=>by
  show L (F+1) _ (j:Int)=L F _ ((j+1:Nat):Int)
  rw [step F _ j c,zdg];rfl) (fun F=>fin F _) (F:=5000) (by omega)
 have e:((List.range l.length).any fun i=>decide (l.getD i default=z))=true:=by
  rw [zcu (q:=fun y=>decide (y=z)),List.any_eq_true]
  exact⟨z,a,by simp⟩
 rw [e] at this
 exact this
theorem zk7{x:Sb}(S:QOk x):ib 5000 x=some true:=by
 obtain⟨h,q,T⟩:=znh S
 have r:=zos (N:=5000) S (by decide)
 generalize z8c x=X at h q T r
 obtain⟨c,E,G,H,s,t,hmin⟩:=zmf h T
 obtain⟨C,u,v,I⟩:=zjs h
 have J:=zpi h
 have K:=zni h
 have f:aj (fun c=>C.getD c default) (cols X)∈subs (cols X):=zc6 _
 obtain⟨M,w⟩:=zi6 (cols X) (by omega) _ f
 have m:=(zft (n:=cols X) (by omega) (by omega) w).2.2.2
 have Y:=(zi6 (cols X) (by omega) _ H).1
 have d:ru X (aj (fun c=>C.getD c default) (cols X))=true:=by
  unfold ru
  rw [Bool.not_eq_true',ah]
  intro k p
  cases hp:l8 X k with
  |false=>rfl
  |true=>
   obtain⟨j,A,a⟩:=ae.1 (I k p hp)
   rw [Bool.and_eq_true] at a
   have:z0t X (aj (fun c=>C.getD c default) (cols X)) k=true:=List.any_eq_true.2 ⟨(j:Int),ay.2 ⟨j,A,rfl,a.1⟩,by rw [Int.toNat_natCast];exact a.2⟩
   rw [this];rfl
 generalize aj (fun c=>C.getD c default) (cols X)=g at u v f M w m d
 have Z:(z8g X).length≤cols X:=z1u _ _
 have B: ∀ l:List Int,chB (cols X) l=true→ru X l=true→ ∀ z∈z8g X,z∈l:=fun l O o z hz=>by
  obtain⟨e,U,rfl,a⟩:=ay.1 hz
  unfold zgx at a
  obtain⟨k,p,a⟩:=ae.1 a
  rw [Bool.and_eq_true,decide_eq_true_iff] at a
  have P:l8 X k=true:=z4a.2 ⟨e,by rw [h.len k p];exact U,a.2⟩
  unfold ru at o
  rw [Bool.not_eq_true',ah] at o
  have D:=o k p
  rw [P,Bool.true_and,Bool.not_eq_false'] at D
  obtain⟨y,V,Q⟩:=List.any_eq_true.1 D
  obtain⟨y0,y1⟩:=zct O y V
  have a1:=(zcv a.1 (by rw [h.len k p];exact U)).1 a.2
  have a2:=(zcv a.1 (by rw [h.len k p];omega)).1 Q
  have:y=(e:Int):=by rw [←a1,a2];omega
  rw [←this];exact V
 unfold ib
 refine(qf r).trans ?_
 refine(qf E).trans ?_
 refine(qf u).trans ?_
 refine(qf J).trans ?_
 refine(qf (x:=some c) ((ze1 rfl).trans (by rw [G];rfl))).trans ?_
 refine(qf (x:=some true) ((ze1 rfl).trans (by show (ky 5000 c c).map some=_;rw [zc1 (by omega)];rfl))).trans ?_
 refine(qf (x:=some g) ((ze1 rfl).trans (by rw [v];rfl))).trans ?_
 refine(qf (x:=some true) ((ze1 rfl).trans (by show (ky 5000 g g).map some=_;rw [zc1 (by omega)];rfl))).trans ?_
 refine(qf (x:=some (z8g X)) ((ze1 rfl).trans (by rw [K];rfl))).trans ?_
 refine(qf (x:=some true) ((ze1 rfl).trans (by show (ky 5000 (z8g X) (z8g X)).map some=_;rw [zc1 (by omega)];rfl))).trans ?_
 refine(cf rfl).trans ?_
 refine(qf (x:=(true,0)) (by show su 5000 ⟨X⟩ c=_;rw [zaz h (by decide) (by omega),s,cond_true,t])).trans ?_
 refine(qf (x:=(true,0)) (by show su 5000 ⟨X⟩ g=_;rw [zaz h (by decide) (by omega),m,cond_true,d])).trans ?_
 have ad:=hmin g f d
 refine(cf (by
  show (((false||false)||false)||false||decide (((g.length:Nat):Int)<((c.length:Nat):Int)))=false
  rw [decide_eq_false (by omega)];rfl)).trans ?_
 have R:ug 5000 (c,0) (g,0) (z8g X,0) 5000 0=some (Ex.go ()):=by
  refine z0b (fun F i (_:Unit)=>ug 5000 (c,0) (g,0) (z8g X,0) F (i:Int)) (z8g X).length (fun _=>()) _ (fun F i hi=>?_) (fun F=>?_) (by omega)
  ·have W:(z8g X).getD i default∈z8g X:=z00 hi
   have h2:uf 5000 (c,0) (z8g X,0) (i:Int) 5000 false 0=some true:=by
    refine zl7 (B c s t _ W) (by omega) (L:=fun F b j=>uf 5000 (c,0) (z8g X,0) (i:Int) F b j) (fun F b j A=>?_) (fun F b=>?_)
    ·simp only [uf]
     rw [di (by omega),zl (fun _=>wh A),zl (fun _=>wh hi),zl (jf (by omega))];rfl
    ·simp only [uf]
     rw [p9 (by omega)]
   have h3:u7 5000 (g,0) (z8g X,0) (i:Int) 5000 false 0=some true:=by
    refine zl7 (B g m d _ W) (by omega) (L:=fun F b j=>u7 5000 (g,0) (z8g X,0) (i:Int) F b j) (fun F b j A=>?_) (fun F b=>?_)
    ·simp only [u7]
     rw [di (by omega),zl (fun _=>wh A),zl (fun _=>wh hi),zl (jf (by omega))];rfl
    ·simp only [u7]
     rw [p9 (by omega)]
   simp only [ug]
   rw [di (by omega),qf h2,qf h3]
   refine(cf rfl).trans ?_
   rw [zl (jf (by omega))];rfl
  ·simp only [ug]
   rw [p9 (by omega)]
 refine(qf R).trans ?_
 rw [zfe,qf zme]
end GV
end Go.Proofs.YtkhihcleegljhaaGreat
