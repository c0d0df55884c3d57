import Derived.Test.YtjmlpkkbmnjhcaaGreatSort21
set_option linter.unusedVariables false
set_option linter.unusedSimpArgs false
set_option linter.unusedSectionVars false
namespace Go.Proofs.YtjmlpkkbmnjhcaaGreat
namespace GV
set_option maxRecDepth 100000
/-! ### partitions-/
theorem q73{a j:Int}{X:List Int}(b:okI X a)(c:j<X.length)(d:X.length≤100): ∀ (F:Nat) (i:Int),0≤i→i≤200→j-i+1<F→0<F→ ∃ o,vz 1000000 a j X F i=some o∧i≤o∧(o≤j+1∨o=i)
 |0,i,_,_,_,h=>by omega
 |F+1,i,hi,e,k,_=>by
  simp only [vz]
  rw [zm (fun h=>b),zm (fun h=>by have:=gH h;exact⟨by omega,by omega⟩)]
  obtain⟨y,f⟩:=z8l (true&&((decide (i≤j))==true)) (ix X a) (ix X i)
  rw [qh f]
  cases hz:(decide (i≤j)&&(!(y.getD default))) with
  |false=>exact⟨i,by rw [cond_false],by omega,.inr rfl⟩
  |true=>
   have h:i≤j:=by simp only [Bool.and_eq_true,decide_eq_true_eq] at hz;exact hz.1
   rw [cond_true,zm (sw (by omega))]
   obtain⟨o,g,l,m⟩:=q73 b c d F (i+1) (by omega) (by omega) (by omega) (by omega)
   exact⟨o,g,by omega,by left;omega⟩
theorem q92{a i:Int}{X:List Int}(b:okI X a)(hi:0≤i)(c:X.length≤100): ∀ (F:Nat) (j:Int),j<X.length→ -200≤j→j-i+1<F→0<F→ ∃ o,yc 1000000 a X i F j=some o∧o≤j∧(i-1≤o∨o=j)
 |0,j,_,_,_,h=>by omega
 |F+1,j,g,d,k,_=>by
  simp only [yc]
  rw [zm (fun h=>b),zm (fun h=>by have:=gH h;exact⟨by omega,by omega⟩)]
  obtain⟨y,e⟩:=z8l (true&&((decide (i≤j))==true)) (ix X a) (ix X j)
  rw [qh e]
  cases hz:(decide (i≤j)&&(y.getD default)) with
  |false=>exact⟨j,by rw [cond_false],by omega,.inr rfl⟩
  |true=>
   have h:i≤j:=by simp only [Bool.and_eq_true,decide_eq_true_eq] at hz;exact hz.1
   rw [cond_true,zm (sw (by omega))]
   obtain⟨o,f,l,m⟩:=q92 b hi c F (j-1) (by omega) (by omega) (by omega) (by omega)
   exact⟨o,f,by omega,by left;omega⟩
theorem q9l{a b:Int}(l:0≤a)(e:a<b): ∀ (F:Nat) (i j:Int) (X:List Int),b≤X.length→X.length≤100→a+1≤i→i≤b→j≤b-1→a-1≤j→j-i+2<F→0<F→ ∃ y,yg 1000000 a F i j X=some y∧a+1≤y.1∧y.1≤b∧y.2.Perm X
 |0,i,j,X,_,_,_,_,_,_,_,h=>by omega
 |F+1,i,j,X,m,f,hi,n,x,q,z,_=>by
  simp only [yg]
  have oa:okI X a:=⟨l,by omega⟩
  obtain⟨o,r,A,B⟩:=q73 (a:=a) (j:=j) (X:=X) oa (by omega) f 1000000 i (by omega) (by omega) (by omega) (by omega)
  obtain⟨p,s,C,D⟩:=q92 (a:=a) (i:=o) (X:=X) oa (by omega) f 1000000 j (by omega) (by omega) (by omega) (by omega)
  rw [qh r,qh s]
  by_cases h:p<o
  ·rw [ut h];exact⟨_,rfl,by show a+1≤o;omega,by show o≤b;omega,.refl _⟩
  ·have g:okI X o:=⟨by omega,by omega⟩
   have k:okI X p:=⟨by omega,by omega⟩
   rw [ul h,zm k,zm g,zm g,zm k,zm (sw (by omega)),zm (sw (by omega))]
   have c:=z3v g k
   have d:=c.length_eq
   obtain⟨y,t,u,v,w⟩:=q9l l e F (o+1) (p-1) _ (by rw [d];exact m) (by rw [d];exact f) (by omega) (by omega) (by omega) (by omega) (by omega) (by omega)
   exact⟨y,t,u,v,w.trans c⟩
theorem q5v{a b p:Int}{X:List Int}(h:0≤a)(e:a<b)(i:b≤X.length)(j:X.length≤100)(o:a≤p∧p<b): ∃ y,il 1000000 X a b p=some y∧a+1≤y.1∧y.1≤b∧y.2.Perm X:=by
 unfold il
 have f:okI X a:=⟨h,by omega⟩
 have g:okI X p:=⟨by omega,by omega⟩
 have c:=z3v f g
 have d:=c.length_eq
 obtain⟨y,k,l,m,n⟩:=q9l (b:=b) h e 1000000 (a+1) (b-1) (up (up X a (ix X p)) p (ix X a)) (by rw [d];exact i) (by rw [d];exact j) (by omega) (by omega) (by omega) (by omega) (by omega) (by omega)
 rw [zm g,zm f,zm f,zm g,zm (sw (by omega)),zm (sw (by omega)),qh k]
 exact⟨_,rfl,l,m,n.trans c⟩
theorem q9s{a b p:Int}{D X:List Int}(c:up (up D a (ix D p)) p (ix D a)=X)(d:okI X a)(e:b≤X.length)(f:X.length≤100): ∀ (F:Nat) (i:Int),0≤i→i≤200→b-i<F→0<F→ ∃ o,gm 1000000 D a b p F i=some o∧i≤o∧(o≤b∨o=i)
 |0,i,_,_,_,h=>by omega
 |F+1,i,hi,g,l,_=>by
  simp only [gm]
  rw [c,zm (fun h=>by have:=gH h;exact⟨by omega,by omega⟩),zm (fun h=>d)]
  obtain⟨y,j⟩:=z8l (true&&((decide (i≤(b-1)))==true)) (ix X i) (ix X a)
  rw [qh j]
  cases hz:(decide (i≤(b-1))&&(y.getD default)) with
  |false=>exact⟨i,by rw [cond_false],by omega,.inr rfl⟩
  |true=>
   have h:i≤b-1:=by simp only [Bool.and_eq_true,decide_eq_true_eq] at hz;exact hz.1
   rw [cond_true,zm (sw (by omega))]
   obtain⟨o,k,m,n⟩:=q9s c d e f F (i+1) (by omega) (by omega) (by omega) (by omega)
   exact⟨o,k,by omega,by left;omega⟩
theorem q83{a p i:Int}{D X:List Int}(b:up (up D a (ix D p)) p (ix D a)=X)(c:okI X a)(hi:0≤i)(d:X.length≤100): ∀ (F:Nat) (j:Int),j<X.length→ -200≤j→j-i+1<F→0<F→ ∃ o,xy 1000000 D a p i F j=some o∧o≤j∧(i-1≤o∨o=j)
 |0,j,_,_,_,h=>by omega
 |F+1,j,k,e,l,_=>by
  simp only [xy]
  rw [b,zm (fun h=>by have:=gH h;exact⟨by omega,by omega⟩),zm (fun h=>c)]
  obtain⟨y,f⟩:=z8l (true&&((decide (i≤j))==true)) (ix X j) (ix X a)
  rw [qh f]
  cases hz:(decide (i≤j)&&(!(y.getD default))) with
  |false=>exact⟨j,by rw [cond_false],by omega,.inr rfl⟩
  |true=>
   have h:i≤j:=by simp only [Bool.and_eq_true,decide_eq_true_eq] at hz;exact hz.1
   rw [cond_true,zm (sw (by omega))]
   obtain⟨o,g,m,n⟩:=q83 b c hi d F (j-1) (by omega) (by omega) (by omega) (by omega)
   exact⟨o,g,by omega,by left;omega⟩
theorem q87{a j:Int}{X:List Int}(b:okI X a)(c:j<X.length)(d:X.length≤100): ∀ (F:Nat) (i:Int),0≤i→i≤200→j-i+1<F→0<F→ ∃ o,gp 1000000 a j X F i=some o∧i≤o∧(o≤j+1∨o=i)
 |0,i,_,_,_,h=>by omega
 |F+1,i,hi,e,k,_=>by
  simp only [gp]
  rw [zm (fun h=>by have:=gH h;exact⟨by omega,by omega⟩),zm (fun h=>b)]
  obtain⟨y,f⟩:=z8l (true&&((decide (i≤j))==true)) (ix X i) (ix X a)
  rw [qh f]
  cases hz:(decide (i≤j)&&(y.getD default)) with
  |false=>exact⟨i,by rw [cond_false],by omega,.inr rfl⟩
  |true=>
   have h:i≤j:=by simp only [Bool.and_eq_true,decide_eq_true_eq] at hz;exact hz.1
   rw [cond_true,zm (sw (by omega))]
   obtain⟨o,g,l,m⟩:=q87 b c d F (i+1) (by omega) (by omega) (by omega) (by omega)
   exact⟨o,g,by omega,by left;omega⟩
theorem q9c{a i:Int}{X:List Int}(b:okI X a)(hi:0≤i)(c:X.length≤100): ∀ (F:Nat) (j:Int),j<X.length→ -200≤j→j-i+1<F→0<F→ ∃ o,xz 1000000 a X i F j=some o∧o≤j∧(i-1≤o∨o=j)
 |0,j,_,_,_,h=>by omega
 |F+1,j,g,d,k,_=>by
  simp only [xz]
  rw [zm (fun h=>by have:=gH h;exact⟨by omega,by omega⟩),zm (fun h=>b)]
  obtain⟨y,e⟩:=z8l (true&&((decide (i≤j))==true)) (ix X j) (ix X a)
  rw [qh e]
  cases hz:(decide (i≤j)&&(!(y.getD default))) with
  |false=>exact⟨j,by rw [cond_false],by omega,.inr rfl⟩
  |true=>
   have h:i≤j:=by simp only [Bool.and_eq_true,decide_eq_true_eq] at hz;exact hz.1
   rw [cond_true,zm (sw (by omega))]
   obtain⟨o,f,l,m⟩:=q9c b hi c F (j-1) (by omega) (by omega) (by omega) (by omega)
   exact⟨o,f,by omega,by left;omega⟩
theorem q76{a b:Int}(l:0≤a)(e:a<b): ∀ (F:Nat) (i j:Int) (X:List Int),b≤X.length→X.length≤100→a+1≤i→i≤b+1→j≤b-1→a≤j→j-i+2<F→0<F→ ∃ y,xx 1000000 a F i j X=some y∧a≤y.1∧y.1<b∧y.2.Perm X
 |0,i,j,X,_,_,_,_,_,_,_,h=>by omega
 |F+1,i,j,X,m,f,hi,n,x,q,z,_=>by
  simp only [xx]
  have oa:okI X a:=⟨l,by omega⟩
  obtain⟨o,r,A,B⟩:=q87 (a:=a) (j:=j) (X:=X) oa (by omega) f 1000000 i (by omega) (by omega) (by omega) (by omega)
  obtain⟨p,s,C,D⟩:=q9c (a:=a) (i:=o) (X:=X) oa (by omega) f 1000000 j (by omega) (by omega) (by omega) (by omega)
  rw [qh r,qh s]
  by_cases h:p<o
  ·rw [ut h];exact⟨_,rfl,by show a≤p;omega,by show p<b;omega,.refl _⟩
  ·have g:okI X o:=⟨by omega,by omega⟩
   have k:okI X p:=⟨by omega,by omega⟩
   rw [ul h,zm k,zm g,zm g,zm k,zm (sw (by omega)),zm (sw (by omega))]
   have c:=z3v g k
   have d:=c.length_eq
   obtain⟨y,t,u,v,w⟩:=q76 l e F (o+1) (p-1) _ (by rw [d];exact m) (by rw [d];exact f) (by omega) (by omega) (by omega) (by omega) (by omega) (by omega)
   exact⟨y,t,u,v,w.trans c⟩
theorem q5p{a b p:Int}{D:List Int}(g:0≤a)(j:a<b)(z:b≤D.length)(A:D.length≤100)(B:a≤p∧p<b): ∃ y,z0c 1000000 D a b p=some y∧a≤y.1∧y.1<b∧y.2.2.Perm D:=by
 unfold z0c
 have f:okI D a:=⟨g,by omega⟩
 have k:okI D p:=⟨by omega,by omega⟩
 have c:=z3v f k
 have l:=c.length_eq
 rw [zm k,zm f,zm f,zm k,zm (sw (by omega)),zm (sw (by omega))]
 have e: ∃ X,up (up D a (ix D p)) p (ix D a)=X:=⟨_,rfl⟩
 obtain⟨X,e⟩:=e
 rw [e] at c l⊢
 have oa:okI X a:=q09 c f
 obtain⟨o,t,C,E⟩:=q9s (b:=b) e oa (by omega) (by omega) 1000000 (a+1) (by omega) (by omega) (by omega) (by omega)
 obtain⟨q,u,F,G⟩:=q83 (i:=o) e oa (by omega) (by omega) 1000000 (b-1) (by omega) (by omega) (by omega) (by omega)
 rw [qh t,qh u]
 by_cases h:q<o
 ·have kq:okI X q:=⟨by omega,by omega⟩
  rw [ut h,zm oa,zm kq,zm kq,zm oa]
  exact⟨_,rfl,by show a≤q;omega,by show q<b;omega,(z3v kq oa).trans c⟩
 ·have m:okI X o:=⟨by omega,by omega⟩
  have n:okI X q:=⟨by omega,by omega⟩
  have d:=z3v m n
  have r:=d.length_eq
  obtain⟨y,v,w,x,s⟩:=q76 (b:=b) g j 1000000 (o+1) (q-1) (up (up X o (ix X q)) q (ix X o)) (by omega) (by omega) (by omega) (by omega) (by omega) (by omega) (by omega) (by omega)
  have hley:=s.length_eq
  have ya:okI y.2 a:=⟨g,by omega⟩
  have yq:okI y.2 y.1:=⟨by omega,by omega⟩
  rw [ul h,zm n,zm m,zm m,zm n,zm (sw (by omega)),zm (sw (by omega)),qh v,zm ya,zm yq,zm yq,zm ya]
  exact⟨_,rfl,w,x,(((z3v yq ya).trans s).trans d).trans c⟩
/-! ### the whole-/
theorem zt3: ∀ (G:Nat) (X:List Int) (a b lim:Int),0≤a→a≤b→b≤X.length→X.length≤100→b-a<G→0≤lim→lim≤64→ ∃ Y,yh 1000000 G X a b lim=some Y∧Y.Perm X
 |0,X,a,b,lim,_,_,_,_,h,_,_=>by omega
 |G+1,X,a,b,lim,d,j,m,n,K,x,k=>by
  have key: ∀ (F:Nat) (a b lim:Int) (p q:Bool) (X:List Int),0≤a→a≤b→b≤X.length→X.length≤100→b-a≤G→b-a<F→0≤lim→lim≤64→ ∃ Y,vg 1000000 (yh 1000000 G) F a b lim p q X=some Y∧Y.Perm X:=by
   intro F
   induction F with
   |zero=>intro a b lim p q X d j _ _ _ h;omega
   |succ F ih=>
    intro a b lim p q X d j m n K W x k
    simp only [vg]
    rw [zm (sw (by omega))]
    by_cases h12:b-a≤12
    ·obtain⟨Y,l,c⟩:=q51 (X:=X) (a:=a) (b:=b) d (by omega) m n
     rw [ut h12,qh l];exact⟨Y,rfl,c⟩
    ·rw [ul h12]
     by_cases hl0:lim=0
     ·obtain⟨Y,l,c⟩:=q3o (X:=X) (a:=a) (b:=b) d (by omega) m n
      rw [ut hl0,qh l];exact⟨Y,rfl,c⟩
     ·rw [ul hl0]
      have L: ∃ o:Int×List Int,(bif !p then(bd (dm 1000000 X a b) fun A=>gd (in64 (lim-1))<|some (lim-1,A)) else some (lim,X))=some o∧0≤o.1∧o.1≤64∧o.2.Perm X:=by
       cases p
       ·obtain⟨Y,l,c⟩:=q1g (X:=X) (a:=a) (b:=b) d j m n
        refine⟨(lim-1,Y),(ct rfl).trans ?_,by show 0≤lim-1;omega,by show lim-1≤64;omega,c⟩
        rw [qh l,zm (sw (by omega))]
       ·exact⟨(lim,X),rfl,x,k,.refl _⟩
      obtain⟨o,M,s,t,op⟩:=L
      have ole:=op.length_eq
      rw [qh M]
      obtain⟨y,N,O,P⟩:=zye (X:=o.2) (a:=a) (b:=b) d (by omega) (by omega) (by omega)
      rw [qh N]
      have Q: ∃ r:Int×Int×List Int,(bif decide (y.2=2) then(bd (nu 1000000 o.2 a b) fun B=>gd (in64 (b-1))<|gd (in64 (y.1-a))<|gd (in64 ((b-1)-(y.1-a)))<|some ((b-1)-(y.1-a),1,B)) else some (y.1,y.2,o.2))=some r∧(a≤r.1∧r.1<b)∧r.2.2.Perm X:=by
       by_cases hc:y.2=2
       ·obtain⟨Y,l,c⟩:=q6g (X:=o.2) (a:=a) (b:=b) d (by omega) (by omega) (by omega)
        refine⟨((b-1)-(y.1-a),1,Y),?_,⟨by show a≤(b-1)-(y.1-a);omega,by show (b-1)-(y.1-a)<b;omega⟩,c.trans op⟩
        rw [ut hc,qh l,zm (sw (by omega)),zm (sw (by omega)),zm (sw (by omega))]
       ·exact⟨(y.1,y.2,o.2),by rw [ul hc],⟨O,P⟩,op⟩
      obtain⟨r,R,I,rp⟩:=Q
      have rle:=rp.length_eq
      rw [qh R]
      have S: ∃ e:Ex (List Int) (List Int),(bif (p&&q)&&(decide (r.2.1=1)) then(bd (yt 1000000 r.2.2 a b) fun f=>bif f.1 then(some (Ex.rt f.2)) else(some (Ex.go f.2))) else(some (Ex.go r.2.2)))=some e∧((∃ Y,e=Ex.rt Y∧Y.Perm X)∨ ∃ Y,e=Ex.go Y∧Y.Perm X):=by
       cases hc:((p&&q)&&(decide (r.2.1=1))) with
       |false=>exact⟨Ex.go r.2.2,by rw [cond_false],.inr ⟨_,rfl,rp⟩⟩
       |true=>
        obtain⟨z,u,c⟩:=q6j (X:=r.2.2) (a:=a) (b:=b) d (by omega) (by omega) (by omega)
        rw [cond_true,qh u]
        cases z.1
        ·exact⟨Ex.go z.2,rfl,.inr ⟨_,rfl,c.trans rp⟩⟩
        ·exact⟨Ex.rt z.2,rfl,.inl ⟨_,rfl,c.trans rp⟩⟩
      obtain⟨e,T,C⟩:=S
      rw [qh T]
      rcases C with⟨Y,rfl,c⟩|⟨Y,rfl,c⟩
      ·rw [z9e];exact⟨Y,rfl,c⟩
      ·have yle:=c.length_eq
       rw [z6z,zm (fun h=>sw (by omega)),zm (fun h=>by have:=gH h;exact⟨by omega,by omega⟩),zm (fun h=>⟨by omega,by omega⟩)]
       obtain⟨w,U⟩:=z8l (true&&((decide (0<a))==true)) (ix Y (a-1)) (ix Y r.1)
       rw [qh U]
       cases hc:(decide (0<a)&&(!(w.getD default))) with
       |true=>
        obtain⟨z,u,E,J,zp⟩:=q5v (X:=Y) (a:=a) (b:=b) (p:=r.1) d (by omega) (by omega) (by omega) I
        have zle:=zp.length_eq
        obtain⟨Z,v,g⟩:=ih z.1 b o.1 p q z.2 (by omega) J (by omega) (by omega) (by omega) (by omega) s t
        rw [cond_true,qh u]
        exact⟨Z,v,(g.trans zp).trans c⟩
       |false=>
        obtain⟨z,u,E,J,zp⟩:=q5p (D:=Y) (a:=a) (b:=b) (p:=r.1) d (by omega) (by omega) (by omega) I
        have zle:=zp.length_eq
        rw [cond_false,qh u,zm (sw (by omega)),zm (sw (by omega)),zm ⟨by omega,by omega,by decide⟩]
        by_cases hs:z.1-a<b-z.1
        ·obtain⟨V,H,i⟩:=zt3 G z.2.2 a z.1 o.1 d E (by omega) (by omega) (by omega) s t
         have vle:=i.length_eq
         obtain⟨Z,v,g⟩:=ih (z.1+1) b o.1 (decide (((b-a)/8)≤(z.1-a))) z.2.1 V (by omega) (by omega) (by omega) (by omega) (by omega) (by omega) s t
         rw [ut hs,qh H,zm (sw (by omega))]
         exact⟨Z,v,((g.trans i).trans zp).trans c⟩
        ·obtain⟨V,H,i⟩:=zt3 G z.2.2 (z.1+1) b o.1 (by omega) (by omega) (by omega) (by omega) (by omega) s t
         have vle:=i.length_eq
         obtain⟨Z,v,g⟩:=ih a z.1 o.1 (decide (((b-a)/8)≤(b-z.1))) z.2.1 V d E (by omega) (by omega) (by omega) (by omega) s t
         rw [ul hs,zm (sw (by omega)),qh H]
         exact⟨Z,v,((g.trans i).trans zp).trans c⟩
  simp only [yh]
  exact key 1000000 a b lim true true X d j m n (by omega) (by omega) x k
theorem zy8{X:List Int}(a:X.length≤100): ∃ Y,z5n 1000000 X=some Y∧Y.Perm X:=by
 obtain⟨n,b,c,d⟩:=q62 (n:=X.length) (by omega)
 obtain⟨Y,e,f⟩:=zt3 1000000 X 0 (X.length:Int) n (by omega) (by omega) (by omega) a (by omega) c d
 unfold z5n
 have g:IntKind.u64.wrap (X.length:Int)=(X.length:Int):=z8r .u64 (by omega) (q0y (by omega))
 rw [g,qh b,qh e]
 exact⟨Y,rfl,f⟩
end GV
end Go.Proofs.YtjmlpkkbmnjhcaaGreat
