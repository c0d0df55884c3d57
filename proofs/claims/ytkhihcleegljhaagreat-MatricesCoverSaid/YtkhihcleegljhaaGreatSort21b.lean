
import Derived.Test.YtkhihcleegljhaaGreatShPlain
import Derived.Test.YtkhihcleegljhaaGreatShPl
set_option linter.unusedVariables false
set_option linter.unusedSimpArgs false
namespace Go.Proofs.YtkhihcleegljhaaGreat
namespace GV
set_option maxRecDepth 100000
theorem z0k{X:List Int}{i j:Int}(hi:okI X i)(a:okI X j):(up (up X i (ix X j)) j (ix X i)).Perm X:=by
 obtain⟨d,e⟩:=hi
 obtain⟨f,g⟩:=a
 have hi':i.toNat<X.length:=by omega
 have hj':j.toNat<X.length:=by omega
 have b:ix X j=X[j.toNat]:=by rw [zim,List.getD_eq_getElem?_getD,List.getElem?_eq_getElem hj'];rfl
 have c:ix X i=X[i.toNat]:=by rw [zim,List.getD_eq_getElem?_getD,List.getElem?_eq_getElem hi'];rfl
 rw [b,c]
 exact List.set_set_perm hi' hj'
theorem zlj{X Y:List Int}{i:Int}(h:Y.Perm X)(hi:okI X i):okI Y i:=⟨hi.1,by rw [h.length_eq];exact hi.2⟩
theorem z8b(x y:Int): ∃ b,yj 5000 x y=some b:=by
 unfold yj z2y
 rw [z1j,decide_eq_false (fun h=>h rfl),qf (zq4 (by rfl))]
 exact⟨_,rfl⟩
theorem z3q(c:Bool)(x y:Int): ∃ z,gop c (yj 5000 x y)=some z:=by
 obtain⟨b,a⟩:=z8b x y
 rw [a]
 cases c
 ·exact⟨none,rfl⟩
 ·exact⟨some b,rfl⟩
theorem zlw{x:Int}(h:x≤1000000000):x≤IntKind.u64.max:=Int.le_trans h (by decide)
theorem gH{p:Prop}[Decidable p](h:(true&&((decide p)==true))=true):p:=by simpa using h
theorem dh{x:Int}(h: -1000000≤x∧x≤1000000):in64 x:=jf (by omega)
/-! ### insertion-/
theorem zon{a:Int}: ∀ (F:Nat) (j:Int) (X:List Int),0≤a→a≤j→j<X.length→X.length≤100→j-a<F→ ∃ Y,uo 5000 a F j X=some Y∧Y.Perm X
 |0,j,X,_,_,_,_,h=>by omega
 |F+1,j,X,g,i,k,l,o=>by
  simp only [uo]
  rw [zl (fun h=>by have:=gH h;exact⟨by omega,by omega⟩),zl (fun h=>dh (by omega)),zl (fun h=>by have:=gH h;exact⟨by omega,by omega⟩)]
  obtain⟨y,m⟩:=z3q (true&&(decide (a<j)==true)) (ix X j) (ix X (j-1))
  rw [qf m]
  cases hz:(decide (a<j)&&y.getD default) with
  |false=>exact⟨X,by rw [cond_false],.refl _⟩
  |true=>
   have haj':a<j:=by simp only [Bool.and_eq_true,decide_eq_true_eq] at hz;exact hz.1
   have c:okI X j:=⟨by omega,k⟩
   have d:okI X (j-1):=⟨by omega,by omega⟩
   rw [cond_true,zl (dh (by omega)),zl (dh (by omega)),zl d,zl c,zl c,zl d,zl (dh (by omega))]
   have f:=z0k c d
   have b:=f.length_eq
   obtain⟨Y,n,e⟩:=zon F (j-1) _ g (by omega) (by rw [b];omega) (by rw [b];exact l) (by omega)
   exact⟨Y,n,e.trans f⟩
theorem zob{a b:Int}: ∀ (F:Nat) (i:Int) (X:List Int),0≤a→a≤i→b≤X.length→X.length≤100→b-i<F→0<F→i≤200→ ∃ Y,ut 5000 a b F i X=some Y∧Y.Perm X
 |0,i,X,_,_,_,_,_,h,_=>by omega
 |F+1,i,X,f,d,k,g,n,_,o=>by
  simp only [ut]
  by_cases h:i<b
  ·obtain⟨Y,l,j⟩:=zon (a:=a) 5000 i X f d (by omega) g (by omega)
   have c:=j.length_eq
   rw [di h,qf l,zl (dh (by omega))]
   obtain⟨Z,m,e⟩:=zob F (i+1) Y f (by omega) (by rw [c];exact k) (by rw [c];exact g) (by omega) (by omega) (by omega)
   exact⟨Z,m,e.trans j⟩
  ·rw [p9 h];exact⟨X,rfl,.refl _⟩
theorem zpj{a b:Int}{X:List Int}(c:0≤a)(d:a≤100)(e:b≤X.length)(f:X.length≤100): ∃ Y,mf 5000 X a b=some Y∧Y.Perm X:=by
 unfold mf
 rw [zl (dh (by omega))]
 exact zob 5000 (a+1) X c (by omega) e f (by omega) (by omega) (by omega)
/-! ### heap-/
theorem zmn{hi first:Int}: ∀ (F:Nat) (r:Int) (X:List Int),0≤r→r≤200→0≤first→first+hi≤X.length→X.length≤100→0≤hi→hi-r<F→0<F→ ∃ Y,yz 5000 hi first F r X=some Y∧Y.Perm X
 |0,r,X,_,_,_,_,_,_,_,h=>by omega
 |F+1,r,X,u,l,m,n,o,f,v,_=>by
  simp only [yz]
  rw [zl (dh (by omega)),zl (dh (by omega))]
  by_cases h:hi≤2*r+1
  ·rw [di h];exact⟨X,rfl,.refl _⟩
  ·rw [p9 h]
   have g: ∃ c,(bd (gop (true&&((decide (((((2:Int)*r)+1)+1)<hi))==true)) (yj 5000 (ix X (first+(((2:Int)*r)+1))) (ix X ((first+(((2:Int)*r)+1))+1)))) fun i=>
    bif (decide (((((2:Int)*r)+1)+1)<hi))&&(i.getD default) then(
    gd (in64 ((((2:Int)*r)+1)+1))<|
    some ((((2:Int)*r)+1)+1)) else(
    some (((2:Int)*r)+1)))=some c∧r<c∧c<hi:=by
    obtain⟨y,p⟩:=z3q (true&&((decide (((((2:Int)*r)+1)+1)<hi))==true)) (ix X (first+(((2:Int)*r)+1))) (ix X ((first+(((2:Int)*r)+1))+1))
    rw [qf p]
    cases hz:(decide (((((2:Int)*r)+1)+1)<hi))&&(y.getD default) with
    |false=>exact⟨_,by rw [cond_false],by omega,by omega⟩
    |true=>
     have w:2*r+1+1<hi:=by simp only [Bool.and_eq_true,decide_eq_true_eq] at hz;exact hz.1
     exact⟨_,by rw [cond_true,zl (dh (by omega))],by omega,by omega⟩
   obtain⟨c,q,x,z⟩:=g
   rw [zl (dh (by omega)),zl (fun h=>dh (by omega)),zl (fun h=>by have:=gH h;exact⟨by omega,by omega⟩),zl (fun h=>dh (by omega)),zl (fun h=>dh (by omega)),zl (fun h=>by have:=gH h;exact⟨by omega,by omega⟩),qf q]
   have d:okI X (first+r):=⟨by omega,by omega⟩
   have e:okI X (first+c):=⟨by omega,by omega⟩
   rw [zl (dh (by omega)),zl d,zl (dh (by omega)),zl e]
   obtain⟨b,s⟩:=z8b (ix X (first+r)) (ix X (first+c))
   rw [qf s]
   cases b
   ·exact⟨X,rfl,.refl _⟩
   ·have k:=z0k d e
    have a:=k.length_eq
    obtain⟨Y,t,j⟩:=zmn F c _ (by omega) (by omega) m (by rw [a];exact n) (by rw [a];exact o) f (by omega) (by omega)
    refine⟨Y,?_,j.trans k⟩
    refine(cf rfl).trans ?_
    rw [zl (dh (by omega)),zl (dh (by omega)),zl (dh (by omega)),zl e,zl (dh (by omega)),zl d,zl d,zl e]
    exact t
theorem zj9{lo hi first:Int}{X:List Int}(b:0≤lo)(c:lo≤200)(d:0≤first)(e:first+hi≤X.length)(f:X.length≤100)(a:0≤hi): ∃ Y,av 5000 X lo hi first=some Y∧Y.Perm X:=
 zmn 5000 lo X b c d e f a (by omega) (by omega)
theorem zlz{a b:Int}: ∀ (F:Nat) (i:Int) (X:List Int),0≤a→a≤b→b≤X.length→X.length≤100→ -1≤i→i≤100→i+1<F→ ∃ Y,yw 5000 a b F i X=some Y∧Y.Perm X
 |0,i,X,_,_,_,_,_,_,h=>by omega
 |F+1,i,X,f,d,k,g,hi,l,o=>by
  simp only [yw]
  by_cases h:0≤i
  ·obtain⟨Y,m,j⟩:=zj9 (lo:=i) (hi:=b-a) (first:=a) (X:=X) h (by omega) f (by omega) g (by omega)
   have c:=j.length_eq
   rw [di h,qf m,zl (dh (by omega))]
   obtain⟨Z,n,e⟩:=zlz F (i-1) Y f d (by rw [c];exact k) (by rw [c];exact g) (by omega) (by omega) (by omega)
   exact⟨Z,n,e.trans j⟩
  ·rw [p9 h];exact⟨X,rfl,.refl _⟩
theorem zl3{a:Int}: ∀ (F:Nat) (i:Int) (X:List Int),0≤a→a+i<X.length→X.length≤100→ -1≤i→i+1<F→ ∃ Y,yx 5000 a F i X=some Y∧Y.Perm X
 |0,i,X,_,_,_,_,h=>by omega
 |F+1,i,X,e,m,k,hi,p=>by
  simp only [yx]
  by_cases h:0≤i
  ·have f:okI X a:=⟨e,by omega⟩
   have g:okI X (a+i):=⟨by omega,by omega⟩
   have c:=z0k f g
   have b:=c.length_eq
   obtain⟨Y,n,l⟩:=zj9 (lo:=0) (hi:=i) (first:=a) (X:=up (up X a (ix X (a+i))) (a+i) (ix X a)) (by omega) (by omega) e (by rw [b];omega) (by rw [b];exact k) h
   have d:=l.length_eq
   rw [di h,zl (dh (by omega)),zl (dh (by omega)),zl g,zl f,zl f,zl g,qf n,zl (dh (by omega))]
   obtain⟨Z,o,j⟩:=zl3 F (i-1) Y e (by rw [d,b];omega) (by rw [d,b];exact k) (by omega) (by omega)
   exact⟨Z,o,(j.trans l).trans c⟩
  ·rw [p9 h];exact⟨X,rfl,.refl _⟩
theorem znv{a b:Int}{X:List Int}(e:0≤a)(h:a<b)(i:b≤X.length)(f:X.length≤100): ∃ Y,ic 5000 X a b=some Y∧Y.Perm X:=by
 unfold ic
 obtain⟨Y,j,g⟩:=zlz (a:=a) (b:=b) 5000 ((b-a-1)/2) X e (by omega) i f (by omega) (by omega) (by omega)
 have c:=g.length_eq
 obtain⟨Z,k,d⟩:=zl3 (a:=a) 5000 (b-a-1) Y e (by rw [c];omega) (by rw [c];exact f) (by omega) (by omega)
 rw [zl (dh (by omega)),zl (dh (by omega)),zl ⟨by omega,by omega,by decide⟩,qf j,zl (dh (by omega))]
 exact⟨Z,k,d.trans g⟩
/-! ### breaking patterns-/
theorem znz:(List.range 128).all (fun n=>match z1h 5000 (n:Int) with|some y=>decide (0≤y∧y≤64)|none=>false)=true:=by decide+kernel
theorem zoz{n:Nat}(h:n<128): ∃ y,z1h 5000 (n:Int)=some y∧0≤y∧y≤64:=by
 have:=List.all_eq_true.1 znz n (List.mem_range.2 h)
 cases hm:z1h 5000 (n:Int) with
 |none=>rw [hm] at this;cases this
 |some y=>rw [hm] at this;exact⟨y,rfl,by simpa using this⟩
theorem zn7:(List.range 128).all (fun n=>match lc 5000 (n:Int) with|some y=>decide (n=0∨(1≤y∧y≤2*(n:Int)))|none=>false)=true:=by decide+kernel
theorem zp6{n:Nat}(h:n<128)(a:0<n): ∃ y,lc 5000 (n:Int)=some y∧1≤y∧y≤2*(n:Int):=by
 have:=List.all_eq_true.1 zn7 n (List.mem_range.2 h)
 cases hm:lc 5000 (n:Int) with
 |none=>rw [hm] at this;cases this
 |some y=>
  rw [hm] at this
  refine⟨y,rfl,?_⟩
  simp only [decide_eq_true_eq] at this
  rcases this with h|h
  ·omega
  ·exact h
def z6m(x:Int):Prop:=0≤x∧x≤IntKind.u64.max
theorem z5d{x y:Int}:z6m (sw .u64 x y):=by
 unfold z6m sw
 simp only [IntKind.wrap,IntKind.max,IntKind.signed,IntKind.bits]
 simp
 omega
theorem zgj{x y:Int}(h:z6m x):z6m (z0a x y):=by
 unfold z6m z0a at*
 rw [Int.fdiv_eq_ediv_of_nonneg _ (Int.le_of_lt (Int.pow_pos (by decide)))]
 exact⟨Int.ediv_nonneg h.1 (Int.le_of_lt (Int.pow_pos (by decide))),Int.le_trans (Int.ediv_le_self _ h.1) h.2⟩
theorem zeb{x y:Int}(c:z6m x)(d:z6m y):z6m (l5 x y):=by
 refine⟨Int.natCast_nonneg _,?_⟩
 exact zds (k:= .u64) (f:=fun a b=>a^^^b) (fun n a b e g=>Nat.xor_lt_two_pow e g) ⟨c,d⟩
theorem zno{r:Int}(h:z6m r): ∃ y,z0o 5000 r=some (y,y)∧z6m y:=by
 unfold z0o
 have a:=zeb h (z5d (x:=r) (y:=13))
 have b:=zeb a (zgj (y:=7) a)
 have c:=zeb b (z5d (x:=l5 (l5 r (sw .u64 r 13)) (z0a (l5 r (sw .u64 r 13)) 7)) (y:=17))
 rw [zl ⟨by decide,by decide⟩,zl ⟨h,z5d⟩,zl ⟨by decide,by decide⟩,zl ⟨a,zgj a⟩,zl ⟨by decide,by decide⟩,zl ⟨b,z5d⟩]
 exact⟨_,rfl,c⟩
theorem znf{x y:Int}(a:0≤y):0≤z4d x y∧z4d x y≤y:=by
 unfold z4d
 have:x.toNat&&&y.toNat≤y.toNat:=Nat.and_le_right
 omega
theorem zjf{a b p:Int}(s:0≤a)(t:8≤b-a)(e:1≤p)(f:p≤2*(b-a)): ∀ (F:Nat) (i:Int) (X:List Int) (r:Int),b≤X.length→X.length≤100→a+(b-a)/4*2-1≤i→i≤a+(b-a)/4*2+2→a+(b-a)/4*2+2-i<F→z6m r→ ∃ Y,uu 5000 a b p F i X r=some Y∧Y.Perm X
 |0,i,X,r,_,_,_,_,h,_=>by omega
 |F+1,i,X,r,u,v,hi,w,E,z=>by
  simp only [uu]
  rw [zl ⟨by omega,by omega,by decide⟩,zl (dh (by omega)),zl (dh (by omega)),zl (dh (by omega))]
  by_cases h:i≤a+(b-a)/4*2+1
  ·obtain⟨y,A,c⟩:=zno z
   have B:IntKind.u64.wrap (p-1)=p-1:=za1 .u64 (by omega) (zlw (by omega))
   have n:=znf (x:=y) (y:=p-1) (by omega)
   rw [di h,qf A,B]
   dsimp only
   have g:z6m (p-1):=⟨by omega,zlw (by omega)⟩
   rw [zl ⟨c,g⟩,zl (dh (by omega))]
   have j: ∃ o,(bif decide ((b-a)≤z4d y (p-1)) then(gd (in64 (z4d y (p-1)-(b-a)))<|some (z4d y (p-1)-(b-a))) else some (z4d y (p-1)))=some o∧0≤o∧o<b-a:=by
    by_cases hc:b-a≤z4d y (p-1)
    ·exact⟨_,by rw [di hc,zl (dh (by omega))],by omega,by omega⟩
    ·exact⟨_,by rw [p9 hc],by omega,by omega⟩
   obtain⟨o,C,G,H⟩:=j
   have k:okI X i:=⟨by omega,by omega⟩
   have l:okI X (a+o):=⟨by omega,by omega⟩
   rw [qf C,zl (dh (by omega)),zl (dh (by omega)),zl l,zl k,zl k,zl l,zl (dh (by omega))]
   have q:=z0k k l
   have d:=q.length_eq
   obtain⟨Y,D,m⟩:=zjf s t e f F (i+1) _ y (by rw [d];exact u) (by rw [d];exact v) (by omega) (by omega) (by omega) c
   exact⟨Y,D,m.trans q⟩
  ·rw [p9 h];exact⟨X,rfl,.refl _⟩
theorem zm7{a b:Int}{X:List Int}(e:0≤a)(f:a≤b)(g:b≤X.length)(i:X.length≤100): ∃ Y,gy 5000 X a b=some Y∧Y.Perm X:=by
 unfold gy
 rw [zl (dh (by omega))]
 by_cases h:8≤b-a
 ·obtain⟨n,j⟩: ∃ n:Nat,b-a=(n:Int):=⟨(b-a).toNat,by omega⟩
  obtain⟨p,c,k,d⟩:=zp6 (n:=n) (by omega) (by omega)
  rw [di h]
  rw [←j] at c d
  have l:IntKind.u64.wrap (b-a)=b-a:=za1 .u64 (by omega) (zlw (by omega))
  rw [qf c,zl ⟨by omega,by omega,by decide⟩,zl (dh (by omega)),zl (dh (by omega)),zl (dh (by omega)),l]
  exact zjf e h k d 5000 _ X _ g i (by omega) (by omega) (by omega) ⟨by omega,zlw (by omega)⟩
 ·rw [p9 h];exact⟨X,rfl,.refl _⟩
/-! ### the pivot-/
theorem zbv{X:List Int}{a b s:Int}(c:okI X a)(d:okI X b)(e:0≤s∧s≤1000): ∃ y,ny 5000 X a b s=some y∧((y.1=a∧y.2.1=b)∨(y.1=b∧y.2.1=a))∧0≤y.2.2∧y.2.2≤s+1:=by
 unfold ny
 obtain⟨z,f⟩:=z8b (ix X b) (ix X a)
 rw [zl d,zl c,qf f]
 cases z
 ·exact⟨_,rfl,.inl ⟨rfl,rfl⟩,e.1,by show s≤s+1;omega⟩
 ·rw [cond_true,zl (dh (by omega))]
  exact⟨_,rfl,.inr ⟨rfl,rfl⟩,by show 0≤s+1;omega,by show s+1≤s+1;omega⟩
theorem zf7{X:List Int}{a b c s:Int}(k:okI X a)(l:okI X b)(f:okI X c)(A:0≤s∧s≤100): ∃ y,eu 5000 X a b c s=some y∧(y.1=a∨y.1=b∨y.1=c)∧0≤y.2∧y.2≤s+3:=by
 unfold eu
 obtain⟨g,m,i,B⟩:=zbv k l (s:=s) (by omega)
 have d:okI X g.1∧okI X g.2.1:=by rcases i with⟨p,q⟩|⟨p,q⟩<;>rw [p,q]<;>exact⟨by assumption,by assumption⟩
 obtain⟨h,n,j,C⟩:=zbv d.2 f (s:=g.2.2) (by omega)
 have o:okI X h.1∧okI X h.2.1:=by rcases j with⟨p,q⟩|⟨p,q⟩<;>rw [p,q]<;>exact⟨by first|exact d.2|exact f,by first|exact d.2|exact f⟩
 obtain⟨e,r,t,u⟩:=zbv d.1 o.1 (s:=h.2.2) (by omega)
 rw [qf m,qf n,qf r]
 refine⟨_,rfl,?_,u.1,by show e.2.2≤s+3;omega⟩
 show e.2.1=a∨e.2.1=b∨e.2.1=c
 rcases i with⟨p,q⟩|⟨p,q⟩<;>rcases j with⟨v,w⟩|⟨v,w⟩<;>rcases t with⟨x,z⟩|⟨x,z⟩<;>omega
theorem zif{X:List Int}{a s:Int}(f:okI X (a-1))(g:okI X (a+1))(n:X.length≤100)(h:0≤s∧s≤100): ∃ y,jv 5000 X a s=some y∧(a-1≤y.1∧y.1≤a+1)∧0≤y.2∧y.2≤s+3:=by
 obtain⟨i,j⟩:=f
 obtain⟨k,l⟩:=g
 unfold jv
 obtain⟨y,m,e,d⟩:=zf7 (X:=X) (a:=a-1) (b:=a) (c:=a+1) (s:=s) ⟨i,j⟩ ⟨by omega,by omega⟩ ⟨k,l⟩ h
 rw [zl (dh (by omega)),zl (dh (by omega)),qf m]
 exact⟨_,rfl,by show a-1≤y.1∧y.1≤a+1;omega,d⟩
theorem zln{X:List Int}{a b:Int}(z:0≤a)(q:12<b-a)(A:b≤X.length)(i:X.length≤100): ∃ y,om 5000 X a b=some y∧a≤y.1∧y.1<b:=by
 unfold om
 have j:okQ (b-a) 4:=⟨by omega,by omega,by decide⟩
 rw [zl (dh (by omega)),zl j,zl (dh (by omega)),zl (dh (by omega)),zl j,zl (dh (by omega)),zl (dh (by omega)),zl j,zl (dh (by omega)),zl (dh (by omega))]
 have k: ∃ o:Int×Int×Int×Int,(bif decide (50≤(b-a)) then(
  bd (jv 5000 X (a+(((b-a)/4)*1)) 0) fun e=>
  bd (jv 5000 X (a+(((b-a)/4)*2)) e.2) fun f=>
  bd (jv 5000 X (a+(((b-a)/4)*3)) f.2) fun g=>
  some (e.1,f.1,g.1,g.2)) else(
  some (a+(((b-a)/4)*1),a+(((b-a)/4)*2),a+(((b-a)/4)*3),0)))=some o∧(a≤o.1∧o.1<b)∧(a≤o.2.1∧o.2.1<b)∧(a≤o.2.2.1∧o.2.2.1<b)∧0≤o.2.2.2∧o.2.2.2≤9:=by
  by_cases h:50≤b-a
  ·obtain⟨l,r,B,C⟩:=zif (X:=X) (a:=a+(b-a)/4*1) (s:=0) ⟨by omega,by omega⟩ ⟨by omega,by omega⟩ i (by omega)
   obtain⟨n,t,D,E⟩:=zif (X:=X) (a:=a+(b-a)/4*2) (s:=l.2) ⟨by omega,by omega⟩ ⟨by omega,by omega⟩ i (by omega)
   obtain⟨p,u,F,v⟩:=zif (X:=X) (a:=a+(b-a)/4*3) (s:=n.2) ⟨by omega,by omega⟩ ⟨by omega,by omega⟩ i (by omega)
   rw [di h,qf r,qf t,qf u]
   exact⟨_,rfl,⟨by show a≤l.1;omega,by show l.1<b;omega⟩,⟨by show a≤n.1;omega,by show n.1<b;omega⟩,⟨by show a≤p.1;omega,by show p.1<b;omega⟩,v.1,by show p.2≤9;omega⟩
  ·rw [p9 h]
   exact⟨_,rfl,⟨by show a≤a+(b-a)/4*1;omega,by show a+(b-a)/4*1<b;omega⟩,⟨by show a≤a+(b-a)/4*2;omega,by show a+(b-a)/4*2<b;omega⟩,⟨by show a≤a+(b-a)/4*3;omega,by show a+(b-a)/4*3<b;omega⟩,by show (0:Int)≤0;omega,by show (0:Int)≤9;omega⟩
 obtain⟨o,w,G,H,I,J⟩:=k
 obtain⟨m,x,em,sm⟩:=zf7 (X:=X) (a:=o.1) (b:=o.2.1) (c:=o.2.2.1) (s:=o.2.2.2) ⟨by omega,by omega⟩ ⟨by omega,by omega⟩ ⟨by omega,by omega⟩ (by omega)
 rw [di (show (8:Int)≤b-a by omega),qf w,qf x,z1j]
 have d:a≤m.1∧m.1<b:=by omega
 by_cases c1:m.2=0
 ·rw [di c1];exact⟨_,rfl,d⟩
 ·rw [p9 c1]
  by_cases c2:m.2=12
  ·rw [di c2];exact⟨_,rfl,d⟩
  ·rw [p9 c2];exact⟨_,rfl,d⟩
theorem zoi: ∀ (F:Nat) (i j:Int) (X:List Int),0≤i→j<X.length→X.length≤100→i≤200→ -200≤j→j-i<F→0<F→ ∃ Y,uz 5000 F i j X=some Y∧Y.Perm X
 |0,i,j,X,_,_,_,_,_,_,h=>by omega
 |F+1,i,j,X,hi,f,g,k,l,n,_=>by
  simp only [uz]
  by_cases h:i<j
  ·have b:okI X i:=⟨hi,by omega⟩
   have c:okI X j:=⟨by omega,f⟩
   rw [di h,zl c,zl b,zl b,zl c,zl (dh (by omega)),zl (dh (by omega))]
   have e:=z0k b c
   have a:=e.length_eq
   obtain⟨Y,m,d⟩:=zoi F (i+1) (j-1) _ (by omega) (by rw [a];omega) (by rw [a];exact g) (by omega) (by omega) (by omega) (by omega)
   exact⟨Y,m,d.trans e⟩
  ·rw [p9 h];exact⟨X,rfl,.refl _⟩
theorem zp7{a b:Int}{X:List Int}(c:0≤a)(d:a<b)(f:b≤X.length)(e:X.length≤100): ∃ Y,bn 5000 X a b=some Y∧Y.Perm X:=by
 unfold bn
 rw [zl (dh (by omega))]
 exact zoi 5000 a (b-1) X c (by omega) e (by omega) (by omega) (by omega) (by omega)
/-! ### partial insertion-/
theorem zo7{b:Int}{X:List Int}(c:b≤X.length)(d:X.length≤100): ∀ (F:Nat) (i:Int),1≤i→i≤b→b-i<F→ ∃ o,kg 5000 b X F i=some o∧i≤o∧o≤b
 |0,i,_,_,h=>by omega
 |F+1,i,hi,a,j=>by
  simp only [kg]
  rw [zl (fun h=>by have:=gH h;exact⟨by omega,by omega⟩),zl (fun h=>dh (by omega)),zl (fun h=>by have:=gH h;exact⟨by omega,by omega⟩)]
  obtain⟨y,e⟩:=z3q (true&&((decide (i<b))==true)) (ix X i) (ix X (i-1))
  rw [qf e]
  cases hz:(decide (i<b)&&(!(y.getD default))) with
  |false=>exact⟨i,by rw [cond_false],by omega,a⟩
  |true=>
   have hib':i<b:=by simp only [Bool.and_eq_true,decide_eq_true_eq] at hz;exact hz.1
   rw [cond_true,zl (dh (by omega))]
   obtain⟨o,f,k,g⟩:=zo7 c d F (i+1) (by omega) (by omega) (by omega)
   exact⟨o,f,by omega,g⟩
theorem zoj: ∀ (F:Nat) (j:Int) (X:List Int),0≤j→j<X.length→X.length≤100→j<F→ ∃ Y,jm 5000 F j X=some Y∧Y.Perm X
 |0,j,X,_,_,_,h=>by omega
 |F+1,j,X,g,d,i,m=>by
  simp only [jm]
  by_cases h:1≤j
  ·have b:okI X j:=⟨g,d⟩
   have c:okI X (j-1):=⟨by omega,by omega⟩
   obtain⟨z,k⟩:=z8b (ix X j) (ix X (j-1))
   rw [di h,zl b,zl (dh (by omega)),zl c,qf k]
   cases z
   ·exact⟨X,rfl,.refl _⟩
   ·have f:=z0k b c
    have a:=f.length_eq
    obtain⟨Y,l,e⟩:=zoj F (j-1) _ (by omega) (by rw [a];omega) (by rw [a];exact i) (by omega)
    refine⟨Y,(cf rfl).trans ?_,e.trans f⟩
    rw [zl (dh (by omega)),zl (dh (by omega)),zl c,zl b,zl b,zl c,zl (dh (by omega))]
    exact l
  ·rw [p9 h];exact⟨X,rfl,.refl _⟩
theorem zo8{b o:Int}: ∀ (F:Nat) (j:Int) (X:List Int),1≤j→b≤X.length→X.length≤100→j≤200→b-j<F→0<F→ ∃ Y,jl 5000 b o F j X=some (Ex.go (o,Y))∧Y.Perm X
 |0,j,X,_,_,_,_,_,h=>by omega
 |F+1,j,X,n,g,i,k,p,_=>by
  simp only [jl]
  by_cases h:j<b
  ·have c:okI X j:=⟨by omega,by omega⟩
   have d:okI X (j-1):=⟨by omega,by omega⟩
   obtain⟨z,l⟩:=z8b (ix X j) (ix X (j-1))
   rw [di h,zl c,zl (dh (by omega)),zl d,qf l]
   cases z
   ·exact⟨X,rfl,.refl _⟩
   ·have f:=z0k c d
    have a:=f.length_eq
    obtain⟨Y,m,e⟩:=zo8 F (j+1) _ (by omega) (by rw [a];exact g) (by rw [a];exact i) (by omega) (by omega) (by omega)
    refine⟨Y,(cf rfl).trans ?_,e.trans f⟩
    rw [zl (dh (by omega)),zl (dh (by omega)),zl d,zl c,zl c,zl d,zl (dh (by omega))]
    exact m
  ·rw [p9 h];exact⟨X,rfl,.refl _⟩
theorem zof{a b:Int}(v:0≤a): ∀ (F:Nat) (i k:Int) (X:List Int),a+1≤i→i≤b→b≤X.length→X.length≤100→0≤k→k≤5→5-k<F→ ∃ q,ko 5000 a b F i k X=some q∧((∃ Y,q=Ex.go Y∧Y.Perm X)∨ ∃ z Y,q=Ex.rt (z,Y)∧Y.Perm X)
 |0,i,k,X,_,_,_,_,_,_,h=>by omega
 |F+1,i,k,X,hi,m,n,l,D,w,E=>by
  simp only [ko]
  by_cases h:k<5
  ·obtain⟨o,x,G,y⟩:=zo7 (X:=X) n l 5000 i (by omega) m (by omega)
   rw [di h,qf x]
   by_cases c1:o=b
   ·rw [di c1];exact⟨_,rfl,.inr ⟨true,X,rfl,.refl _⟩⟩
   ·rw [p9 c1,zl (dh (by omega))]
    by_cases c2:b-a<50
    ·rw [di c2];exact⟨_,rfl,.inr ⟨false,X,rfl,.refl _⟩⟩
    ·rw [p9 c2]
     have p:okI X o:=⟨by omega,by omega⟩
     have r:okI X (o-1):=⟨by omega,by omega⟩
     have d:=z0k p r
     have c:=d.length_eq
     rw [zl (dh (by omega)),zl (dh (by omega)),zl r,zl p,zl p,zl r]
     generalize hX0:up (up X o (ix X (o-1))) (o-1) (ix X o)=X0 at d c
     have s: ∃ Y,(gd (in64 (o-a))<|bif decide (2≤(o-a)) then(gd (in64 (o-1))<|jm 5000 5000 (o-1) X0) else some X0)=some Y∧Y.Perm X0:=by
      rw [zl (dh (by omega))]
      by_cases c3:2≤o-a
      ·rw [di c3,zl (dh (by omega))]
       exact zoj 5000 (o-1) X0 (by omega) (by rw [c];omega) (by rw [c];exact l) (by omega)
      ·rw [p9 c3];exact⟨X0,rfl,.refl _⟩
     obtain⟨Y,A,f⟩:=s
     have hley:=f.length_eq
     rw [qf A,zl (dh (by omega))]
     have g: ∃ Z,(bif decide (2≤(b-o)) then(gd (in64 (o+1))<|jl 5000 b o 5000 (o+1) Y) else some (Ex.go (o,Y)))=some (Ex.go (o,Z))∧Z.Perm Y:=by
      by_cases c3:2≤b-o
      ·rw [di c3,zl (dh (by omega))]
       exact zo8 5000 (o+1) Y (by omega) (by rw [hley,c];exact n) (by rw [hley,c];exact l) (by omega) (by omega) (by omega)
      ·rw [p9 c3];exact⟨Y,rfl,.refl _⟩
     obtain⟨Z,B,j⟩:=g
     have hlez:=j.length_eq
     rw [qf B,zfe,zl (dh (by omega))]
     have hpall:Z.Perm X:=(j.trans f).trans d
     obtain⟨q,C,t⟩:=zof v F o (k+1) Z (by omega) y (by rw [hlez,hley,c];exact n) (by rw [hlez,hley,c];exact l) (by omega) (by omega) (by omega)
     refine⟨q,C,?_⟩
     rcases t with⟨W,e,u⟩|⟨z,W,e,u⟩
     ·exact .inl ⟨W,e,u.trans hpall⟩
     ·exact .inr ⟨z,W,e,u.trans hpall⟩
  ·rw [p9 h];exact⟨_,rfl,.inl ⟨X,rfl,.refl _⟩⟩
theorem zp2{a b:Int}{X:List Int}(e:0≤a)(f:a<b)(g:b≤X.length)(h:X.length≤100): ∃ y,uy 5000 X a b=some y∧y.2.Perm X:=by
 unfold uy
 obtain⟨q,i,c⟩:=zof (b:=b) e 5000 (a+1) 0 X (by omega) (by omega) g h (by omega) (by omega) (by omega)
 rw [zl (dh (by omega)),qf i]
 rcases c with⟨W,rfl,d⟩|⟨z,W,rfl,d⟩
 ·exact⟨_,rfl,d⟩
 ·exact⟨_,rfl,d⟩
end GV
end Go.Proofs.YtkhihcleegljhaaGreat

namespace Go.Proofs.YtkhihcleegljhaaGreat
namespace GV
set_option maxRecDepth 100000
/-! ### partitions-/
theorem zqc{a j:Int}{X:List Int}(b:okI X a)(c:j<X.length)(d:X.length≤100): ∀ (F:Nat) (i:Int),0≤i→i≤200→j-i+1<F→0<F→ ∃ o,uj 5000 a j X F i=some o∧i≤o∧(o≤j+1∨o=i)
 |0,i,_,_,_,h=>by omega
 |F+1,i,hi,e,k,_=>by
  simp only [uj]
  rw [zl (fun h=>b),zl (fun h=>by have:=gH h;exact⟨by omega,by omega⟩)]
  obtain⟨y,f⟩:=z3q (true&&((decide (i≤j))==true)) (ix X a) (ix X i)
  rw [qf f]
  cases hz:(decide (i≤j)&&(!(y.getD default))) with
  |false=>exact⟨i,by rw [cond_false],by omega,.inr rfl⟩
  |true=>
   have h:i≤j:=by simp only [Bool.and_eq_true,decide_eq_true_eq] at hz;exact hz.1
   rw [cond_true,zl (dh (by omega))]
   obtain⟨o,g,l,m⟩:=zqc b c d F (i+1) (by omega) (by omega) (by omega) (by omega)
   exact⟨o,g,by omega,by left;omega⟩
theorem zrb{a i:Int}{X:List Int}(b:okI X a)(hi:0≤i)(c:X.length≤100): ∀ (F:Nat) (j:Int),j<X.length→ -200≤j→j-i+1<F→0<F→ ∃ o,uk 5000 a X i F j=some o∧o≤j∧(i-1≤o∨o=j)
 |0,j,_,_,_,h=>by omega
 |F+1,j,g,d,k,_=>by
  simp only [uk]
  rw [zl (fun h=>b),zl (fun h=>by have:=gH h;exact⟨by omega,by omega⟩)]
  obtain⟨y,e⟩:=z3q (true&&((decide (i≤j))==true)) (ix X a) (ix X j)
  rw [qf e]
  cases hz:(decide (i≤j)&&(y.getD default)) with
  |false=>exact⟨j,by rw [cond_false],by omega,.inr rfl⟩
  |true=>
   have h:i≤j:=by simp only [Bool.and_eq_true,decide_eq_true_eq] at hz;exact hz.1
   rw [cond_true,zl (dh (by omega))]
   obtain⟨o,f,l,m⟩:=zrb b hi c F (j-1) (by omega) (by omega) (by omega) (by omega)
   exact⟨o,f,by omega,by left;omega⟩
theorem zqa{a b:Int}(l:0≤a)(e:a<b): ∀ (F:Nat) (i j:Int) (X:List Int),b≤X.length→X.length≤100→a+1≤i→i≤b→j≤b-1→a-1≤j→j-i+2<F→0<F→ ∃ y,ul 5000 a F i j X=some y∧a+1≤y.1∧y.1≤b∧y.2.Perm X
 |0,i,j,X,_,_,_,_,_,_,_,h=>by omega
 |F+1,i,j,X,m,f,hi,n,x,q,z,_=>by
  simp only [ul]
  have oa:okI X a:=⟨l,by omega⟩
  obtain⟨o,r,A,B⟩:=zqc (a:=a) (j:=j) (X:=X) oa (by omega) f 5000 i (by omega) (by omega) (by omega) (by omega)
  obtain⟨p,s,C,D⟩:=zrb (a:=a) (i:=o) (X:=X) oa (by omega) f 5000 j (by omega) (by omega) (by omega) (by omega)
  rw [qf r,qf s]
  by_cases h:p<o
  ·rw [di h];exact⟨_,rfl,by show a+1≤o;omega,by show o≤b;omega,.refl _⟩
  ·have g:okI X o:=⟨by omega,by omega⟩
   have k:okI X p:=⟨by omega,by omega⟩
   rw [p9 h,zl k,zl g,zl g,zl k,zl (dh (by omega)),zl (dh (by omega))]
   have c:=z0k g k
   have d:=c.length_eq
   obtain⟨y,t,u,v,w⟩:=zqa l e F (o+1) (p-1) _ (by rw [d];exact m) (by rw [d];exact f) (by omega) (by omega) (by omega) (by omega) (by omega) (by omega)
   exact⟨y,t,u,v,w.trans c⟩
theorem zpg{a b p:Int}{X:List Int}(h:0≤a)(e:a<b)(i:b≤X.length)(j:X.length≤100)(o:a≤p∧p<b): ∃ y,nu 5000 X a b p=some y∧a+1≤y.1∧y.1≤b∧y.2.Perm X:=by
 unfold nu
 have f:okI X a:=⟨h,by omega⟩
 have g:okI X p:=⟨by omega,by omega⟩
 have c:=z0k f g
 have d:=c.length_eq
 obtain⟨y,k,l,m,n⟩:=zqa (b:=b) h e 5000 (a+1) (b-1) (up (up X a (ix X p)) p (ix X a)) (by rw [d];exact i) (by rw [d];exact j) (by omega) (by omega) (by omega) (by omega) (by omega) (by omega)
 rw [zl g,zl f,zl f,zl g,zl (dh (by omega)),zl (dh (by omega)),qf k]
 exact⟨_,rfl,l,m,n.trans c⟩
theorem zr7{a b p:Int}{D X:List Int}(c:up (up D a (ix D p)) p (ix D a)=X)(d:okI X a)(e:b≤X.length)(f:X.length≤100): ∀ (F:Nat) (i:Int),0≤i→i≤200→b-i<F→0<F→ ∃ o,vw 5000 D a b p F i=some o∧i≤o∧(o≤b∨o=i)
 |0,i,_,_,_,h=>by omega
 |F+1,i,hi,g,l,_=>by
  simp only [vw]
  rw [c,zl (fun h=>by have:=gH h;exact⟨by omega,by omega⟩),zl (fun h=>d)]
  obtain⟨y,j⟩:=z3q (true&&((decide (i≤(b-1)))==true)) (ix X i) (ix X a)
  rw [qf j]
  cases hz:(decide (i≤(b-1))&&(y.getD default)) with
  |false=>exact⟨i,by rw [cond_false],by omega,.inr rfl⟩
  |true=>
   have h:i≤b-1:=by simp only [Bool.and_eq_true,decide_eq_true_eq] at hz;exact hz.1
   rw [cond_true,zl (dh (by omega))]
   obtain⟨o,k,m,n⟩:=zr7 c d e f F (i+1) (by omega) (by omega) (by omega) (by omega)
   exact⟨o,k,by omega,by left;omega⟩
theorem zqt{a p i:Int}{D X:List Int}(b:up (up D a (ix D p)) p (ix D a)=X)(c:okI X a)(hi:0≤i)(d:X.length≤100): ∀ (F:Nat) (j:Int),j<X.length→ -200≤j→j-i+1<F→0<F→ ∃ o,yg 5000 D a p i F j=some o∧o≤j∧(i-1≤o∨o=j)
 |0,j,_,_,_,h=>by omega
 |F+1,j,k,e,l,_=>by
  simp only [yg]
  rw [b,zl (fun h=>by have:=gH h;exact⟨by omega,by omega⟩),zl (fun h=>c)]
  obtain⟨y,f⟩:=z3q (true&&((decide (i≤j))==true)) (ix X j) (ix X a)
  rw [qf f]
  cases hz:(decide (i≤j)&&(!(y.getD default))) with
  |false=>exact⟨j,by rw [cond_false],by omega,.inr rfl⟩
  |true=>
   have h:i≤j:=by simp only [Bool.and_eq_true,decide_eq_true_eq] at hz;exact hz.1
   rw [cond_true,zl (dh (by omega))]
   obtain⟨o,g,m,n⟩:=zqt b c hi d F (j-1) (by omega) (by omega) (by omega) (by omega)
   exact⟨o,g,by omega,by left;omega⟩
theorem zq6{a j:Int}{X:List Int}(b:okI X a)(c:j<X.length)(d:X.length≤100): ∀ (F:Nat) (i:Int),0≤i→i≤200→j-i+1<F→0<F→ ∃ o,vv 5000 a j X F i=some o∧i≤o∧(o≤j+1∨o=i)
 |0,i,_,_,_,h=>by omega
 |F+1,i,hi,e,k,_=>by
  simp only [vv]
  rw [zl (fun h=>by have:=gH h;exact⟨by omega,by omega⟩),zl (fun h=>b)]
  obtain⟨y,f⟩:=z3q (true&&((decide (i≤j))==true)) (ix X i) (ix X a)
  rw [qf f]
  cases hz:(decide (i≤j)&&(y.getD default)) with
  |false=>exact⟨i,by rw [cond_false],by omega,.inr rfl⟩
  |true=>
   have h:i≤j:=by simp only [Bool.and_eq_true,decide_eq_true_eq] at hz;exact hz.1
   rw [cond_true,zl (dh (by omega))]
   obtain⟨o,g,l,m⟩:=zq6 b c d F (i+1) (by omega) (by omega) (by omega) (by omega)
   exact⟨o,g,by omega,by left;omega⟩
theorem zqs{a i:Int}{X:List Int}(b:okI X a)(hi:0≤i)(c:X.length≤100): ∀ (F:Nat) (j:Int),j<X.length→ -200≤j→j-i+1<F→0<F→ ∃ o,yf 5000 a X i F j=some o∧o≤j∧(i-1≤o∨o=j)
 |0,j,_,_,_,h=>by omega
 |F+1,j,g,d,k,_=>by
  simp only [yf]
  rw [zl (fun h=>by have:=gH h;exact⟨by omega,by omega⟩),zl (fun h=>b)]
  obtain⟨y,e⟩:=z3q (true&&((decide (i≤j))==true)) (ix X j) (ix X a)
  rw [qf e]
  cases hz:(decide (i≤j)&&(!(y.getD default))) with
  |false=>exact⟨j,by rw [cond_false],by omega,.inr rfl⟩
  |true=>
   have h:i≤j:=by simp only [Bool.and_eq_true,decide_eq_true_eq] at hz;exact hz.1
   rw [cond_true,zl (dh (by omega))]
   obtain⟨o,f,l,m⟩:=zqs b hi c F (j-1) (by omega) (by omega) (by omega) (by omega)
   exact⟨o,f,by omega,by left;omega⟩
theorem zq8{a b:Int}(l:0≤a)(e:a<b): ∀ (F:Nat) (i j:Int) (X:List Int),b≤X.length→X.length≤100→a+1≤i→i≤b+1→j≤b-1→a≤j→j-i+2<F→0<F→ ∃ y,vz 5000 a F i j X=some y∧a≤y.1∧y.1<b∧y.2.Perm X
 |0,i,j,X,_,_,_,_,_,_,_,h=>by omega
 |F+1,i,j,X,m,f,hi,n,x,q,z,_=>by
  simp only [vz]
  have oa:okI X a:=⟨l,by omega⟩
  obtain⟨o,r,A,B⟩:=zq6 (a:=a) (j:=j) (X:=X) oa (by omega) f 5000 i (by omega) (by omega) (by omega) (by omega)
  obtain⟨p,s,C,D⟩:=zqs (a:=a) (i:=o) (X:=X) oa (by omega) f 5000 j (by omega) (by omega) (by omega) (by omega)
  rw [qf r,qf s]
  by_cases h:p<o
  ·rw [di h];exact⟨_,rfl,by show a≤p;omega,by show p<b;omega,.refl _⟩
  ·have g:okI X o:=⟨by omega,by omega⟩
   have k:okI X p:=⟨by omega,by omega⟩
   rw [p9 h,zl k,zl g,zl g,zl k,zl (dh (by omega)),zl (dh (by omega))]
   have c:=z0k g k
   have d:=c.length_eq
   obtain⟨y,t,u,v,w⟩:=zq8 l e F (o+1) (p-1) _ (by rw [d];exact m) (by rw [d];exact f) (by omega) (by omega) (by omega) (by omega) (by omega) (by omega)
   exact⟨y,t,u,v,w.trans c⟩
theorem zpc{a b p:Int}{D:List Int}(g:0≤a)(j:a<b)(z:b≤D.length)(A:D.length≤100)(B:a≤p∧p<b): ∃ y,ai 5000 D a b p=some y∧a≤y.1∧y.1<b∧y.2.2.Perm D:=by
 unfold ai
 have f:okI D a:=⟨g,by omega⟩
 have k:okI D p:=⟨by omega,by omega⟩
 have c:=z0k f k
 have l:=c.length_eq
 rw [zl k,zl f,zl f,zl k,zl (dh (by omega)),zl (dh (by omega))]
 have e: ∃ X,up (up D a (ix D p)) p (ix D a)=X:=⟨_,rfl⟩
 obtain⟨X,e⟩:=e
 rw [e] at c l⊢
 have oa:okI X a:=zlj c f
 obtain⟨o,t,C,E⟩:=zr7 (b:=b) e oa (by omega) (by omega) 5000 (a+1) (by omega) (by omega) (by omega) (by omega)
 obtain⟨q,u,F,G⟩:=zqt (i:=o) e oa (by omega) (by omega) 5000 (b-1) (by omega) (by omega) (by omega) (by omega)
 rw [qf t,qf u]
 by_cases h:q<o
 ·have kq:okI X q:=⟨by omega,by omega⟩
  rw [di h,zl oa,zl kq,zl kq,zl oa]
  exact⟨_,rfl,by show a≤q;omega,by show q<b;omega,(z0k kq oa).trans c⟩
 ·have m:okI X o:=⟨by omega,by omega⟩
  have n:okI X q:=⟨by omega,by omega⟩
  have d:=z0k m n
  have r:=d.length_eq
  obtain⟨y,v,w,x,s⟩:=zq8 (b:=b) g j 5000 (o+1) (q-1) (up (up X o (ix X q)) q (ix X o)) (by omega) (by omega) (by omega) (by omega) (by omega) (by omega) (by omega) (by omega)
  have hley:=s.length_eq
  have ya:okI y.2 a:=⟨g,by omega⟩
  have yq:okI y.2 y.1:=⟨by omega,by omega⟩
  rw [p9 h,zl n,zl m,zl m,zl n,zl (dh (by omega)),zl (dh (by omega)),qf v,zl ya,zl yq,zl yq,zl ya]
  exact⟨_,rfl,w,x,(((z0k yq ya).trans s).trans d).trans c⟩
/-! ### the whole-/
theorem zi1: ∀ (G:Nat) (X:List Int) (a b lim:Int),0≤a→a≤b→b≤X.length→X.length≤100→b-a<G→0≤lim→lim≤64→ ∃ Y,uq 5000 G X a b lim=some Y∧Y.Perm X
 |0,X,a,b,lim,_,_,_,_,h,_,_=>by omega
 |G+1,X,a,b,lim,d,j,m,n,K,x,k=>by
  have key: ∀ (F:Nat) (a b lim:Int) (p q:Bool) (X:List Int),0≤a→a≤b→b≤X.length→X.length≤100→b-a≤G→b-a<F→0≤lim→lim≤64→ ∃ Y,um 5000 (uq 5000 G) F a b lim p q X=some Y∧Y.Perm X:=by
   intro F
   induction F with
   |zero=>intro a b lim p q X d j _ _ _ h;omega
   |succ F ih=>
    intro a b lim p q X d j m n K W x k
    simp only [um]
    rw [zl (dh (by omega))]
    by_cases h12:b-a≤12
    ·obtain⟨Y,l,c⟩:=zpj (X:=X) (a:=a) (b:=b) d (by omega) m n
     rw [di h12,qf l];exact⟨Y,rfl,c⟩
    ·rw [p9 h12]
     by_cases hl0:lim=0
     ·obtain⟨Y,l,c⟩:=znv (X:=X) (a:=a) (b:=b) d (by omega) m n
      rw [di hl0,qf l];exact⟨Y,rfl,c⟩
     ·rw [p9 hl0]
      have L: ∃ o:Int×List Int,(bif !p then(bd (gy 5000 X a b) fun A=>gd (in64 (lim-1))<|some (lim-1,A)) else some (lim,X))=some o∧0≤o.1∧o.1≤64∧o.2.Perm X:=by
       cases p
       ·obtain⟨Y,l,c⟩:=zm7 (X:=X) (a:=a) (b:=b) d j m n
        refine⟨(lim-1,Y),(ct rfl).trans ?_,by show 0≤lim-1;omega,by show lim-1≤64;omega,c⟩
        rw [qf l,zl (dh (by omega))]
       ·exact⟨(lim,X),rfl,x,k,.refl _⟩
      obtain⟨o,M,s,t,op⟩:=L
      have ole:=op.length_eq
      rw [qf M]
      obtain⟨y,N,O,P⟩:=zln (X:=o.2) (a:=a) (b:=b) d (by omega) (by omega) (by omega)
      rw [qf N]
      have Q: ∃ r:Int×Int×List Int,(bif decide (y.2=2) then(bd (bn 5000 o.2 a b) fun B=>gd (in64 (b-1))<|gd (in64 (y.1-a))<|gd (in64 ((b-1)-(y.1-a)))<|some ((b-1)-(y.1-a),1,B)) else some (y.1,y.2,o.2))=some r∧(a≤r.1∧r.1<b)∧r.2.2.Perm X:=by
       by_cases hc:y.2=2
       ·obtain⟨Y,l,c⟩:=zp7 (X:=o.2) (a:=a) (b:=b) d (by omega) (by omega) (by omega)
        refine⟨((b-1)-(y.1-a),1,Y),?_,⟨by show a≤(b-1)-(y.1-a);omega,by show (b-1)-(y.1-a)<b;omega⟩,c.trans op⟩
        rw [di hc,qf l,zl (dh (by omega)),zl (dh (by omega)),zl (dh (by omega))]
       ·exact⟨(y.1,y.2,o.2),by rw [p9 hc],⟨O,P⟩,op⟩
      obtain⟨r,R,I,rp⟩:=Q
      have rle:=rp.length_eq
      rw [qf R]
      have S: ∃ e:Ex (List Int) (List Int),(bif (p&&q)&&(decide (r.2.1=1)) then(bd (uy 5000 r.2.2 a b) fun f=>bif f.1 then(some (Ex.rt f.2)) else(some (Ex.go f.2))) else(some (Ex.go r.2.2)))=some e∧((∃ Y,e=Ex.rt Y∧Y.Perm X)∨ ∃ Y,e=Ex.go Y∧Y.Perm X):=by
       cases hc:((p&&q)&&(decide (r.2.1=1))) with
       |false=>exact⟨Ex.go r.2.2,by rw [cond_false],.inr ⟨_,rfl,rp⟩⟩
       |true=>
        obtain⟨z,u,c⟩:=zp2 (X:=r.2.2) (a:=a) (b:=b) d (by omega) (by omega) (by omega)
        rw [cond_true,qf u]
        cases z.1
        ·exact⟨Ex.go z.2,rfl,.inr ⟨_,rfl,c.trans rp⟩⟩
        ·exact⟨Ex.rt z.2,rfl,.inl ⟨_,rfl,c.trans rp⟩⟩
      obtain⟨e,T,C⟩:=S
      rw [qf T]
      rcases C with⟨Y,rfl,c⟩|⟨Y,rfl,c⟩
      ·rw [zkk];exact⟨Y,rfl,c⟩
      ·have yle:=c.length_eq
       rw [zfe,zl (fun h=>dh (by omega)),zl (fun h=>by have:=gH h;exact⟨by omega,by omega⟩),zl (fun h=>⟨by omega,by omega⟩)]
       obtain⟨w,U⟩:=z3q (true&&((decide (0<a))==true)) (ix Y (a-1)) (ix Y r.1)
       rw [qf U]
       cases hc:(decide (0<a)&&(!(w.getD default))) with
       |true=>
        obtain⟨z,u,E,J,zp⟩:=zpg (X:=Y) (a:=a) (b:=b) (p:=r.1) d (by omega) (by omega) (by omega) I
        have zle:=zp.length_eq
        obtain⟨Z,v,g⟩:=ih z.1 b o.1 p q z.2 (by omega) J (by omega) (by omega) (by omega) (by omega) s t
        rw [cond_true,qf u]
        exact⟨Z,v,(g.trans zp).trans c⟩
       |false=>
        obtain⟨z,u,E,J,zp⟩:=zpc (D:=Y) (a:=a) (b:=b) (p:=r.1) d (by omega) (by omega) (by omega) I
        have zle:=zp.length_eq
        rw [cond_false,qf u,zl (dh (by omega)),zl (dh (by omega)),zl ⟨by omega,by omega,by decide⟩]
        by_cases hs:z.1-a<b-z.1
        ·obtain⟨V,H,i⟩:=zi1 G z.2.2 a z.1 o.1 d E (by omega) (by omega) (by omega) s t
         have vle:=i.length_eq
         obtain⟨Z,v,g⟩:=ih (z.1+1) b o.1 (decide (((b-a)/8)≤(z.1-a))) z.2.1 V (by omega) (by omega) (by omega) (by omega) (by omega) (by omega) s t
         rw [di hs,qf H,zl (dh (by omega))]
         exact⟨Z,v,((g.trans i).trans zp).trans c⟩
        ·obtain⟨V,H,i⟩:=zi1 G z.2.2 (z.1+1) b o.1 (by omega) (by omega) (by omega) (by omega) (by omega) s t
         have vle:=i.length_eq
         obtain⟨Z,v,g⟩:=ih a z.1 o.1 (decide (((b-a)/8)≤(b-z.1))) z.2.1 V d E (by omega) (by omega) (by omega) (by omega) s t
         rw [p9 hs,zl (dh (by omega)),qf H]
         exact⟨Z,v,((g.trans i).trans zp).trans c⟩
  simp only [uq]
  exact key 5000 a b lim true true X d j m n (by omega) (by omega) x k
theorem zlx{X:List Int}(a:X.length≤100): ∃ Y,z1n 5000 X=some Y∧Y.Perm X:=by
 obtain⟨n,b,c,d⟩:=zoz (n:=X.length) (by omega)
 obtain⟨Y,e,f⟩:=zi1 5000 X 0 (X.length:Int) n (by omega) (by omega) (by omega) a (by omega) c d
 unfold z1n
 have g:IntKind.u64.wrap (X.length:Int)=(X.length:Int):=za1 .u64 (by omega) (zlw (by omega))
 rw [g,qf b,qf e]
 exact⟨Y,rfl,f⟩
end GV
end Go.Proofs.YtkhihcleegljhaaGreat
