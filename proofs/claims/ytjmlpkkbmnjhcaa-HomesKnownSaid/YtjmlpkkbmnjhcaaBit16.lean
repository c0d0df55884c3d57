
import Derived.Test.YtjmlpkkbmnjhcaaShPlain
import Derived.Test.YtjmlpkkbmnjhcaaShPl
import Derived.Test.YtjmlpkkbmnjhcaaHom16d
set_option linter.unusedVariables false
set_option linter.unusedSimpArgs false
set_option linter.unusedSectionVars false
namespace Go.Proofs.Ytjmlpkkbmnjhcaa
namespace GV
set_option maxRecDepth 100000
theorem l9{X:List Int}{i j:Int}(hi:okI X i)(a:okI X j):(up (up X i (ix X j)) j (ix X i)).Perm X:=by
 obtain⟨d,e⟩:=hi
 obtain⟨f,g⟩:=a
 have hi':i.toNat<X.length:=by omega
 have hj':j.toNat<X.length:=by omega
 have b:ix X j=X[j.toNat]:=by rw [zlf,List.getD_eq_getElem?_getD,List.getElem?_eq_getElem hj'];rfl
 have c:ix X i=X[i.toNat]:=by rw [zlf,List.getD_eq_getElem?_getD,List.getElem?_eq_getElem hi'];rfl
 rw [b,c]
 exact List.set_set_perm hi' hj'
theorem zrj{X Y:List Int}{i:Int}(h:Y.Perm X)(hi:okI X i):okI Y i:=⟨hi.1,by rw [h.length_eq];exact hi.2⟩
theorem z8c(x y:Int): ∃ b,uq 1000000 x y=some b:=by
 unfold uq z13
 rw [z3y,decide_eq_false (fun h=>h rfl),qg (zn0 (by rfl))]
 exact⟨_,rfl⟩
theorem z2t(c:Bool)(x y:Int): ∃ z,gop c (uq 1000000 x y)=some z:=by
 obtain⟨b,a⟩:=z8c x y
 rw [a]
 cases c
 ·exact⟨none,rfl⟩
 ·exact⟨some b,rfl⟩
theorem zpl{x:Int}(h:x≤1000000000):x≤IntKind.u64.max:=Int.le_trans h (by decide)
theorem gH{p:Prop}[Decidable p](h:(true&&((decide p)==true))=true):p:=by simpa using h
theorem bi{x:Int}(h: -1000000≤x∧x≤1000000):in64 x:=ui (by omega)
/-! ### insertion-/
theorem zty{a:Int}: ∀ (F:Nat) (j:Int) (X:List Int),0≤a→a≤j→j<X.length→X.length≤100→j-a<F→ ∃ Y,uj 1000000 a F j X=some Y∧Y.Perm X
 |0,j,X,_,_,_,_,h=>by omega
 |F+1,j,X,g,i,k,l,o=>by
  simp only [uj]
  rw [zn (fun h=>by have:=gH h;exact⟨by omega,by omega⟩),zn (fun h=>bi (by omega)),zn (fun h=>by have:=gH h;exact⟨by omega,by omega⟩)]
  obtain⟨y,m⟩:=z2t (true&&(decide (a<j)==true)) (ix X j) (ix X (j-1))
  rw [qg m]
  cases hz:(decide (a<j)&&y.getD default) with
  |false=>exact⟨X,by rw [cond_false],.refl _⟩
  |true=>
   have haj':a<j:=by simp only [Bool.and_eq_true,decide_eq_true_eq] at hz;exact hz.1
   have c:okI X j:=⟨by omega,k⟩
   have d:okI X (j-1):=⟨by omega,by omega⟩
   rw [cond_true,zn (bi (by omega)),zn (bi (by omega)),zn d,zn c,zn c,zn d,zn (bi (by omega))]
   have f:=l9 c d
   have b:=f.length_eq
   obtain⟨Y,n,e⟩:=zty F (j-1) _ g (by omega) (by rw [b];omega) (by rw [b];exact l) (by omega)
   exact⟨Y,n,e.trans f⟩
theorem zu8{a b:Int}: ∀ (F:Nat) (i:Int) (X:List Int),0≤a→a≤i→b≤X.length→X.length≤100→b-i<F→0<F→i≤200→ ∃ Y,um 1000000 a b F i X=some Y∧Y.Perm X
 |0,i,X,_,_,_,_,_,h,_=>by omega
 |F+1,i,X,f,d,k,g,n,_,o=>by
  simp only [um]
  by_cases h:i<b
  ·obtain⟨Y,l,j⟩:=zty (a:=a) 1000000 i X f d (by omega) g (by omega)
   have c:=j.length_eq
   rw [eu h,qg l,zn (bi (by omega))]
   obtain⟨Z,m,e⟩:=zu8 F (i+1) Y f (by omega) (by rw [c];exact k) (by rw [c];exact g) (by omega) (by omega) (by omega)
   exact⟨Z,m,e.trans j⟩
  ·rw [cu h];exact⟨X,rfl,.refl _⟩
theorem zus{a b:Int}{X:List Int}(c:0≤a)(d:a≤100)(e:b≤X.length)(f:X.length≤100): ∃ Y,bq 1000000 X a b=some Y∧Y.Perm X:=by
 unfold bq
 rw [zn (bi (by omega))]
 exact zu8 1000000 (a+1) X c (by omega) e f (by omega) (by omega) (by omega)
/-! ### heap-/
theorem zqu{hi first:Int}: ∀ (F:Nat) (r:Int) (X:List Int),0≤r→r≤200→0≤first→first+hi≤X.length→X.length≤100→0≤hi→hi-r<F→0<F→ ∃ Y,vz 1000000 hi first F r X=some Y∧Y.Perm X
 |0,r,X,_,_,_,_,_,_,_,h=>by omega
 |F+1,r,X,u,l,m,n,o,f,v,_=>by
  simp only [vz]
  rw [zn (bi (by omega)),zn (bi (by omega))]
  by_cases h:hi≤2*r+1
  ·rw [eu h];exact⟨X,rfl,.refl _⟩
  ·rw [cu h]
   have g: ∃ c,(bd (gop (true&&((decide (((((2:Int)*r)+1)+1)<hi))==true)) (uq 1000000 (ix X (first+(((2:Int)*r)+1))) (ix X ((first+(((2:Int)*r)+1))+1)))) fun i=>
    bif (decide (((((2:Int)*r)+1)+1)<hi))&&(i.getD default) then(
    gd (in64 ((((2:Int)*r)+1)+1))<|
    some ((((2:Int)*r)+1)+1)) else(
    some (((2:Int)*r)+1)))=some c∧r<c∧c<hi:=by
    obtain⟨y,p⟩:=z2t (true&&((decide (((((2:Int)*r)+1)+1)<hi))==true)) (ix X (first+(((2:Int)*r)+1))) (ix X ((first+(((2:Int)*r)+1))+1))
    rw [qg p]
    cases hz:(decide (((((2:Int)*r)+1)+1)<hi))&&(y.getD default) with
    |false=>exact⟨_,by rw [cond_false],by omega,by omega⟩
    |true=>
     have w:2*r+1+1<hi:=by simp only [Bool.and_eq_true,decide_eq_true_eq] at hz;exact hz.1
     exact⟨_,by rw [cond_true,zn (bi (by omega))],by omega,by omega⟩
   obtain⟨c,q,x,z⟩:=g
   rw [zn (bi (by omega)),zn (fun h=>bi (by omega)),zn (fun h=>by have:=gH h;exact⟨by omega,by omega⟩),zn (fun h=>bi (by omega)),zn (fun h=>bi (by omega)),zn (fun h=>by have:=gH h;exact⟨by omega,by omega⟩),qg q]
   have d:okI X (first+r):=⟨by omega,by omega⟩
   have e:okI X (first+c):=⟨by omega,by omega⟩
   rw [zn (bi (by omega)),zn d,zn (bi (by omega)),zn e]
   obtain⟨b,s⟩:=z8c (ix X (first+r)) (ix X (first+c))
   rw [qg s]
   cases b
   ·exact⟨X,rfl,.refl _⟩
   ·have k:=l9 d e
    have a:=k.length_eq
    obtain⟨Y,t,j⟩:=zqu F c _ (by omega) (by omega) m (by rw [a];exact n) (by rw [a];exact o) f (by omega) (by omega)
    refine⟨Y,?_,j.trans k⟩
    refine(cf rfl).trans ?_
    rw [zn (bi (by omega)),zn (bi (by omega)),zn (bi (by omega)),zn e,zn (bi (by omega)),zn d,zn d,zn e]
    exact t
theorem zn5{lo hi first:Int}{X:List Int}(b:0≤lo)(c:lo≤200)(d:0≤first)(e:first+hi≤X.length)(f:X.length≤100)(a:0≤hi): ∃ Y,mo 1000000 X lo hi first=some Y∧Y.Perm X:=
 zqu 1000000 lo X b c d e f a (by omega) (by omega)
theorem zpv{a b:Int}: ∀ (F:Nat) (i:Int) (X:List Int),0≤a→a≤b→b≤X.length→X.length≤100→ -1≤i→i≤100→i+1<F→ ∃ Y,yf 1000000 a b F i X=some Y∧Y.Perm X
 |0,i,X,_,_,_,_,_,_,h=>by omega
 |F+1,i,X,f,d,k,g,hi,l,o=>by
  simp only [yf]
  by_cases h:0≤i
  ·obtain⟨Y,m,j⟩:=zn5 (lo:=i) (hi:=b-a) (first:=a) (X:=X) h (by omega) f (by omega) g (by omega)
   have c:=j.length_eq
   rw [eu h,qg m,zn (bi (by omega))]
   obtain⟨Z,n,e⟩:=zpv F (i-1) Y f d (by rw [c];exact k) (by rw [c];exact g) (by omega) (by omega) (by omega)
   exact⟨Z,n,e.trans j⟩
  ·rw [cu h];exact⟨X,rfl,.refl _⟩
theorem zqj{a:Int}: ∀ (F:Nat) (i:Int) (X:List Int),0≤a→a+i<X.length→X.length≤100→ -1≤i→i+1<F→ ∃ Y,yc 1000000 a F i X=some Y∧Y.Perm X
 |0,i,X,_,_,_,_,h=>by omega
 |F+1,i,X,e,m,k,hi,p=>by
  simp only [yc]
  by_cases h:0≤i
  ·have f:okI X a:=⟨e,by omega⟩
   have g:okI X (a+i):=⟨by omega,by omega⟩
   have c:=l9 f g
   have b:=c.length_eq
   obtain⟨Y,n,l⟩:=zn5 (lo:=0) (hi:=i) (first:=a) (X:=up (up X a (ix X (a+i))) (a+i) (ix X a)) (by omega) (by omega) e (by rw [b];omega) (by rw [b];exact k) h
   have d:=l.length_eq
   rw [eu h,zn (bi (by omega)),zn (bi (by omega)),zn g,zn f,zn f,zn g,qg n,zn (bi (by omega))]
   obtain⟨Z,o,j⟩:=zqj F (i-1) Y e (by rw [d,b];omega) (by rw [d,b];exact k) (by omega) (by omega)
   exact⟨Z,o,(j.trans l).trans c⟩
  ·rw [cu h];exact⟨X,rfl,.refl _⟩
theorem zte{a b:Int}{X:List Int}(e:0≤a)(h:a<b)(i:b≤X.length)(f:X.length≤100): ∃ Y,mi 1000000 X a b=some Y∧Y.Perm X:=by
 unfold mi
 obtain⟨Y,j,g⟩:=zpv (a:=a) (b:=b) 1000000 ((b-a-1)/2) X e (by omega) i f (by omega) (by omega) (by omega)
 have c:=g.length_eq
 obtain⟨Z,k,d⟩:=zqj (a:=a) 1000000 (b-a-1) Y e (by rw [c];omega) (by rw [c];exact f) (by omega) (by omega)
 rw [zn (bi (by omega)),zn (bi (by omega)),zn ⟨by omega,by omega,by decide⟩,qg j,zn (bi (by omega))]
 exact⟨Z,k,d.trans g⟩
/-! ### breaking patterns-/
theorem zt2:(List.range 128).all (fun n=>match z0m 1000000 (n:Int) with|some y=>decide (0≤y∧y≤64)|none=>false)=true:=by decide+kernel
theorem zv7{n:Nat}(h:n<128): ∃ y,z0m 1000000 (n:Int)=some y∧0≤y∧y≤64:=by
 have:=List.all_eq_true.1 zt2 n (List.mem_range.2 h)
 cases hm:z0m 1000000 (n:Int) with
 |none=>rw [hm] at this;cases this
 |some y=>rw [hm] at this;exact⟨y,rfl,by simpa using this⟩
theorem zth:(List.range 128).all (fun n=>match iq 1000000 (n:Int) with|some y=>decide (n=0∨(1≤y∧y≤2*(n:Int)))|none=>false)=true:=by decide+kernel
theorem zuu{n:Nat}(h:n<128)(a:0<n): ∃ y,iq 1000000 (n:Int)=some y∧1≤y∧y≤2*(n:Int):=by
 have:=List.all_eq_true.1 zth n (List.mem_range.2 h)
 cases hm:iq 1000000 (n:Int) with
 |none=>rw [hm] at this;cases this
 |some y=>
  rw [hm] at this
  refine⟨y,rfl,?_⟩
  simp only [decide_eq_true_eq] at this
  rcases this with h|h
  ·omega
  ·exact h
def zdp(x:Int):Prop:=0≤x∧x≤IntKind.u64.max
theorem zc6{x y:Int}:zdp (mq .u64 x y):=by
 unfold zdp mq
 simp only [IntKind.wrap,IntKind.max,IntKind.signed,IntKind.bits]
 simp
 omega
theorem ziv{x y:Int}(h:zdp x):zdp (zo x y):=by
 unfold zdp zo at*
 rw [Int.fdiv_eq_ediv_of_nonneg _ (Int.le_of_lt (Int.pow_pos (by decide)))]
 exact⟨Int.ediv_nonneg h.1 (Int.le_of_lt (Int.pow_pos (by decide))),Int.le_trans (Int.ediv_le_self _ h.1) h.2⟩
theorem zed{x y:Int}(c:zdp x)(d:zdp y):zdp (ig x y):=by
 refine⟨Int.natCast_nonneg _,?_⟩
 exact zhb (k:= .u64) (f:=fun a b=>a^^^b) (fun n a b e g=>Nat.xor_lt_two_pow e g) ⟨c,d⟩
theorem ztl{r:Int}(h:zdp r): ∃ y,lq 1000000 r=some (y,y)∧zdp y:=by
 unfold lq
 have a:=zed h (zc6 (x:=r) (y:=13))
 have b:=zed a (ziv (y:=7) a)
 have c:=zed b (zc6 (x:=ig (ig r (mq .u64 r 13)) (zo (ig r (mq .u64 r 13)) 7)) (y:=17))
 rw [zn ⟨by decide,by decide⟩,zn ⟨h,zc6⟩,zn ⟨by decide,by decide⟩,zn ⟨a,ziv a⟩,zn ⟨by decide,by decide⟩,zn ⟨b,zc6⟩]
 exact⟨_,rfl,c⟩
theorem zt1{x y:Int}(a:0≤y):0≤zb x y∧zb x y≤y:=by
 unfold zb
 have:x.toNat&&&y.toNat≤y.toNat:=Nat.and_le_right
 omega
theorem zm1{a b p:Int}(s:0≤a)(t:8≤b-a)(e:1≤p)(f:p≤2*(b-a)): ∀ (F:Nat) (i:Int) (X:List Int) (r:Int),b≤X.length→X.length≤100→a+(b-a)/4*2-1≤i→i≤a+(b-a)/4*2+2→a+(b-a)/4*2+2-i<F→zdp r→ ∃ Y,uk 1000000 a b p F i X r=some Y∧Y.Perm X
 |0,i,X,r,_,_,_,_,h,_=>by omega
 |F+1,i,X,r,u,v,hi,w,E,z=>by
  simp only [uk]
  rw [zn ⟨by omega,by omega,by decide⟩,zn (bi (by omega)),zn (bi (by omega)),zn (bi (by omega))]
  by_cases h:i≤a+(b-a)/4*2+1
  ·obtain⟨y,A,c⟩:=ztl z
   have B:IntKind.u64.wrap (p-1)=p-1:=z2w .u64 (by omega) (zpl (by omega))
   have n:=zt1 (x:=y) (y:=p-1) (by omega)
   rw [eu h,qg A,B]
   dsimp only
   have g:zdp (p-1):=⟨by omega,zpl (by omega)⟩
   rw [zn ⟨c,g⟩,zn (bi (by omega))]
   have j: ∃ o,(bif decide ((b-a)≤zb y (p-1)) then(gd (in64 (zb y (p-1)-(b-a)))<|some (zb y (p-1)-(b-a))) else some (zb y (p-1)))=some o∧0≤o∧o<b-a:=by
    by_cases hc:b-a≤zb y (p-1)
    ·exact⟨_,by rw [eu hc,zn (bi (by omega))],by omega,by omega⟩
    ·exact⟨_,by rw [cu hc],by omega,by omega⟩
   obtain⟨o,C,o0,G⟩:=j
   have k:okI X i:=⟨by omega,by omega⟩
   have l:okI X (a+o):=⟨by omega,by omega⟩
   rw [qg C,zn (bi (by omega)),zn (bi (by omega)),zn l,zn k,zn k,zn l,zn (bi (by omega))]
   have q:=l9 k l
   have d:=q.length_eq
   obtain⟨Y,D,m⟩:=zm1 s t e f F (i+1) _ y (by rw [d];exact u) (by rw [d];exact v) (by omega) (by omega) (by omega) c
   exact⟨Y,D,m.trans q⟩
  ·rw [cu h];exact⟨X,rfl,.refl _⟩
theorem zr5{a b:Int}{X:List Int}(e:0≤a)(f:a≤b)(g:b≤X.length)(i:X.length≤100): ∃ Y,ym 1000000 X a b=some Y∧Y.Perm X:=by
 unfold ym
 rw [zn (bi (by omega))]
 by_cases h:8≤b-a
 ·obtain⟨n,j⟩: ∃ n:Nat,b-a=(n:Int):=⟨(b-a).toNat,by omega⟩
  obtain⟨p,c,k,d⟩:=zuu (n:=n) (by omega) (by omega)
  rw [eu h]
  rw [←j] at c d
  have l:IntKind.u64.wrap (b-a)=b-a:=z2w .u64 (by omega) (zpl (by omega))
  rw [qg c,zn ⟨by omega,by omega,by decide⟩,zn (bi (by omega)),zn (bi (by omega)),zn (bi (by omega)),l]
  exact zm1 e h k d 1000000 _ X _ g i (by omega) (by omega) (by omega) ⟨by omega,zpl (by omega)⟩
 ·rw [cu h];exact⟨X,rfl,.refl _⟩
/-! ### the pivot-/
theorem zd1{X:List Int}{a b s:Int}(c:okI X a)(d:okI X b)(e:0≤s∧s≤1000): ∃ y,xq 1000000 X a b s=some y∧((y.1=a∧y.2.1=b)∨(y.1=b∧y.2.1=a))∧0≤y.2.2∧y.2.2≤s+1:=by
 unfold xq
 obtain⟨z,f⟩:=z8c (ix X b) (ix X a)
 rw [zn d,zn c,qg f]
 cases z
 ·exact⟨_,rfl,.inl ⟨rfl,rfl⟩,e.1,by show s≤s+1;omega⟩
 ·rw [cond_true,zn (bi (by omega))]
  exact⟨_,rfl,.inr ⟨rfl,rfl⟩,by show 0≤s+1;omega,by show s+1≤s+1;omega⟩
theorem zgf{X:List Int}{a b c s:Int}(k:okI X a)(l:okI X b)(f:okI X c)(A:0≤s∧s≤100): ∃ y,dx 1000000 X a b c s=some y∧(y.1=a∨y.1=b∨y.1=c)∧0≤y.2∧y.2≤s+3:=by
 unfold dx
 obtain⟨g,m,i,B⟩:=zd1 k l (s:=s) (by omega)
 have d:okI X g.1∧okI X g.2.1:=by rcases i with⟨p,q⟩|⟨p,q⟩<;>rw [p,q]<;>exact⟨by assumption,by assumption⟩
 obtain⟨h,n,j,C⟩:=zd1 d.2 f (s:=g.2.2) (by omega)
 have o:okI X h.1∧okI X h.2.1:=by rcases j with⟨p,q⟩|⟨p,q⟩<;>rw [p,q]<;>exact⟨by first|exact d.2|exact f,by first|exact d.2|exact f⟩
 obtain⟨e,r,t,u⟩:=zd1 d.1 o.1 (s:=h.2.2) (by omega)
 rw [qg m,qg n,qg r]
 refine⟨_,rfl,?_,u.1,by show e.2.2≤s+3;omega⟩
 show e.2.1=a∨e.2.1=b∨e.2.1=c
 rcases i with⟨p,q⟩|⟨p,q⟩<;>rcases j with⟨v,w⟩|⟨v,w⟩<;>rcases t with⟨x,z⟩|⟨x,z⟩<;>omega
theorem zkl{X:List Int}{a s:Int}(f:okI X (a-1))(g:okI X (a+1))(n:X.length≤100)(h:0≤s∧s≤100): ∃ y,jg 1000000 X a s=some y∧(a-1≤y.1∧y.1≤a+1)∧0≤y.2∧y.2≤s+3:=by
 obtain⟨i,j⟩:=f
 obtain⟨k,l⟩:=g
 unfold jg
 obtain⟨y,m,e,d⟩:=zgf (X:=X) (a:=a-1) (b:=a) (c:=a+1) (s:=s) ⟨i,j⟩ ⟨by omega,by omega⟩ ⟨k,l⟩ h
 rw [zn (bi (by omega)),zn (bi (by omega)),qg m]
 exact⟨_,rfl,by show a-1≤y.1∧y.1≤a+1;omega,d⟩
theorem zr2{X:List Int}{a b:Int}(z:0≤a)(q:12<b-a)(A:b≤X.length)(i:X.length≤100): ∃ y,df 1000000 X a b=some y∧a≤y.1∧y.1<b:=by
 unfold df
 have j:okQ (b-a) 4:=⟨by omega,by omega,by decide⟩
 rw [zn (bi (by omega)),zn j,zn (bi (by omega)),zn (bi (by omega)),zn j,zn (bi (by omega)),zn (bi (by omega)),zn j,zn (bi (by omega)),zn (bi (by omega))]
 have k: ∃ o:Int×Int×Int×Int,(bif decide (50≤(b-a)) then(
  bd (jg 1000000 X (a+(((b-a)/4)*1)) 0) fun e=>
  bd (jg 1000000 X (a+(((b-a)/4)*2)) e.2) fun f=>
  bd (jg 1000000 X (a+(((b-a)/4)*3)) f.2) fun g=>
  some (e.1,f.1,g.1,g.2)) else(
  some (a+(((b-a)/4)*1),a+(((b-a)/4)*2),a+(((b-a)/4)*3),0)))=some o∧(a≤o.1∧o.1<b)∧(a≤o.2.1∧o.2.1<b)∧(a≤o.2.2.1∧o.2.2.1<b)∧0≤o.2.2.2∧o.2.2.2≤9:=by
  by_cases h:50≤b-a
  ·obtain⟨l,r,B,C⟩:=zkl (X:=X) (a:=a+(b-a)/4*1) (s:=0) ⟨by omega,by omega⟩ ⟨by omega,by omega⟩ i (by omega)
   obtain⟨n,t,D,E⟩:=zkl (X:=X) (a:=a+(b-a)/4*2) (s:=l.2) ⟨by omega,by omega⟩ ⟨by omega,by omega⟩ i (by omega)
   obtain⟨p,u,F,v⟩:=zkl (X:=X) (a:=a+(b-a)/4*3) (s:=n.2) ⟨by omega,by omega⟩ ⟨by omega,by omega⟩ i (by omega)
   rw [eu h,qg r,qg t,qg u]
   exact⟨_,rfl,⟨by show a≤l.1;omega,by show l.1<b;omega⟩,⟨by show a≤n.1;omega,by show n.1<b;omega⟩,⟨by show a≤p.1;omega,by show p.1<b;omega⟩,v.1,by show p.2≤9;omega⟩
  ·rw [cu h]
   exact⟨_,rfl,⟨by show a≤a+(b-a)/4*1;omega,by show a+(b-a)/4*1<b;omega⟩,⟨by show a≤a+(b-a)/4*2;omega,by show a+(b-a)/4*2<b;omega⟩,⟨by show a≤a+(b-a)/4*3;omega,by show a+(b-a)/4*3<b;omega⟩,by show (0:Int)≤0;omega,by show (0:Int)≤9;omega⟩
 obtain⟨o,w,G,H,I,J⟩:=k
 obtain⟨m,x,em,sm⟩:=zgf (X:=X) (a:=o.1) (b:=o.2.1) (c:=o.2.2.1) (s:=o.2.2.2) ⟨by omega,by omega⟩ ⟨by omega,by omega⟩ ⟨by omega,by omega⟩ (by omega)
 rw [eu (show (8:Int)≤b-a by omega),qg w,qg x,z3y]
 have d:a≤m.1∧m.1<b:=by omega
 by_cases c1:m.2=0
 ·rw [eu c1];exact⟨_,rfl,d⟩
 ·rw [cu c1]
  by_cases c2:m.2=12
  ·rw [eu c2];exact⟨_,rfl,d⟩
  ·rw [cu c2];exact⟨_,rfl,d⟩
theorem ztu: ∀ (F:Nat) (i j:Int) (X:List Int),0≤i→j<X.length→X.length≤100→i≤200→ -200≤j→j-i<F→0<F→ ∃ Y,uu 1000000 F i j X=some Y∧Y.Perm X
 |0,i,j,X,_,_,_,_,_,_,h=>by omega
 |F+1,i,j,X,hi,f,g,k,l,n,_=>by
  simp only [uu]
  by_cases h:i<j
  ·have b:okI X i:=⟨hi,by omega⟩
   have c:okI X j:=⟨by omega,f⟩
   rw [eu h,zn c,zn b,zn b,zn c,zn (bi (by omega)),zn (bi (by omega))]
   have e:=l9 b c
   have a:=e.length_eq
   obtain⟨Y,m,d⟩:=ztu F (i+1) (j-1) _ (by omega) (by rw [a];omega) (by rw [a];exact g) (by omega) (by omega) (by omega) (by omega)
   exact⟨Y,m,d.trans e⟩
  ·rw [cu h];exact⟨X,rfl,.refl _⟩
theorem zvi{a b:Int}{X:List Int}(c:0≤a)(d:a<b)(f:b≤X.length)(e:X.length≤100): ∃ Y,yx 1000000 X a b=some Y∧Y.Perm X:=by
 unfold yx
 rw [zn (bi (by omega))]
 exact ztu 1000000 a (b-1) X c (by omega) e (by omega) (by omega) (by omega) (by omega)
/-! ### partial insertion-/
theorem zue{b:Int}{X:List Int}(c:b≤X.length)(d:X.length≤100): ∀ (F:Nat) (i:Int),1≤i→i≤b→b-i<F→ ∃ o,jl 1000000 b X F i=some o∧i≤o∧o≤b
 |0,i,_,_,h=>by omega
 |F+1,i,hi,a,j=>by
  simp only [jl]
  rw [zn (fun h=>by have:=gH h;exact⟨by omega,by omega⟩),zn (fun h=>bi (by omega)),zn (fun h=>by have:=gH h;exact⟨by omega,by omega⟩)]
  obtain⟨y,e⟩:=z2t (true&&((decide (i<b))==true)) (ix X i) (ix X (i-1))
  rw [qg e]
  cases hz:(decide (i<b)&&(!(y.getD default))) with
  |false=>exact⟨i,by rw [cond_false],by omega,a⟩
  |true=>
   have hib':i<b:=by simp only [Bool.and_eq_true,decide_eq_true_eq] at hz;exact hz.1
   rw [cond_true,zn (bi (by omega))]
   obtain⟨o,f,k,g⟩:=zue c d F (i+1) (by omega) (by omega) (by omega)
   exact⟨o,f,by omega,g⟩
theorem ztv: ∀ (F:Nat) (j:Int) (X:List Int),0≤j→j<X.length→X.length≤100→j<F→ ∃ Y,jc 1000000 F j X=some Y∧Y.Perm X
 |0,j,X,_,_,_,h=>by omega
 |F+1,j,X,g,d,i,m=>by
  simp only [jc]
  by_cases h:1≤j
  ·have b:okI X j:=⟨g,d⟩
   have c:okI X (j-1):=⟨by omega,by omega⟩
   obtain⟨z,k⟩:=z8c (ix X j) (ix X (j-1))
   rw [eu h,zn b,zn (bi (by omega)),zn c,qg k]
   cases z
   ·exact⟨X,rfl,.refl _⟩
   ·have f:=l9 b c
    have a:=f.length_eq
    obtain⟨Y,l,e⟩:=ztv F (j-1) _ (by omega) (by rw [a];omega) (by rw [a];exact i) (by omega)
    refine⟨Y,(cf rfl).trans ?_,e.trans f⟩
    rw [zn (bi (by omega)),zn (bi (by omega)),zn c,zn b,zn b,zn c,zn (bi (by omega))]
    exact l
  ·rw [cu h];exact⟨X,rfl,.refl _⟩
theorem zu7{b o:Int}: ∀ (F:Nat) (j:Int) (X:List Int),1≤j→b≤X.length→X.length≤100→j≤200→b-j<F→0<F→ ∃ Y,jb 1000000 b o F j X=some (Ex.go (o,Y))∧Y.Perm X
 |0,j,X,_,_,_,_,_,h=>by omega
 |F+1,j,X,n,g,i,k,p,_=>by
  simp only [jb]
  by_cases h:j<b
  ·have c:okI X j:=⟨by omega,by omega⟩
   have d:okI X (j-1):=⟨by omega,by omega⟩
   obtain⟨z,l⟩:=z8c (ix X j) (ix X (j-1))
   rw [eu h,zn c,zn (bi (by omega)),zn d,qg l]
   cases z
   ·exact⟨X,rfl,.refl _⟩
   ·have f:=l9 c d
    have a:=f.length_eq
    obtain⟨Y,m,e⟩:=zu7 F (j+1) _ (by omega) (by rw [a];exact g) (by rw [a];exact i) (by omega) (by omega) (by omega)
    refine⟨Y,(cf rfl).trans ?_,e.trans f⟩
    rw [zn (bi (by omega)),zn (bi (by omega)),zn d,zn c,zn c,zn d,zn (bi (by omega))]
    exact m
  ·rw [cu h];exact⟨X,rfl,.refl _⟩
theorem zug{a b:Int}(v:0≤a): ∀ (F:Nat) (i k:Int) (X:List Int),a+1≤i→i≤b→b≤X.length→X.length≤100→0≤k→k≤5→5-k<F→ ∃ q,jk 1000000 a b F i k X=some q∧((∃ Y,q=Ex.go Y∧Y.Perm X)∨ ∃ z Y,q=Ex.rt (z,Y)∧Y.Perm X)
 |0,i,k,X,_,_,_,_,_,_,h=>by omega
 |F+1,i,k,X,hi,m,n,l,D,w,E=>by
  simp only [jk]
  by_cases h:k<5
  ·obtain⟨o,x,G,y⟩:=zue (X:=X) n l 1000000 i (by omega) m (by omega)
   rw [eu h,qg x]
   by_cases c1:o=b
   ·rw [eu c1];exact⟨_,rfl,.inr ⟨true,X,rfl,.refl _⟩⟩
   ·rw [cu c1,zn (bi (by omega))]
    by_cases c2:b-a<50
    ·rw [eu c2];exact⟨_,rfl,.inr ⟨false,X,rfl,.refl _⟩⟩
    ·rw [cu c2]
     have p:okI X o:=⟨by omega,by omega⟩
     have r:okI X (o-1):=⟨by omega,by omega⟩
     have d:=l9 p r
     have c:=d.length_eq
     rw [zn (bi (by omega)),zn (bi (by omega)),zn r,zn p,zn p,zn r]
     generalize hX0:up (up X o (ix X (o-1))) (o-1) (ix X o)=X0 at d c
     have s: ∃ Y,(gd (in64 (o-a))<|bif decide (2≤(o-a)) then(gd (in64 (o-1))<|jc 1000000 1000000 (o-1) X0) else some X0)=some Y∧Y.Perm X0:=by
      rw [zn (bi (by omega))]
      by_cases c3:2≤o-a
      ·rw [eu c3,zn (bi (by omega))]
       exact ztv 1000000 (o-1) X0 (by omega) (by rw [c];omega) (by rw [c];exact l) (by omega)
      ·rw [cu c3];exact⟨X0,rfl,.refl _⟩
     obtain⟨Y,A,f⟩:=s
     have hley:=f.length_eq
     rw [qg A,zn (bi (by omega))]
     have g: ∃ Z,(bif decide (2≤(b-o)) then(gd (in64 (o+1))<|jb 1000000 b o 1000000 (o+1) Y) else some (Ex.go (o,Y)))=some (Ex.go (o,Z))∧Z.Perm Y:=by
      by_cases c3:2≤b-o
      ·rw [eu c3,zn (bi (by omega))]
       exact zu7 1000000 (o+1) Y (by omega) (by rw [hley,c];exact n) (by rw [hley,c];exact l) (by omega) (by omega) (by omega)
      ·rw [cu c3];exact⟨Y,rfl,.refl _⟩
     obtain⟨Z,B,j⟩:=g
     have hlez:=j.length_eq
     rw [qg B,zau,zn (bi (by omega))]
     have hpall:Z.Perm X:=(j.trans f).trans d
     obtain⟨q,C,t⟩:=zug v F o (k+1) Z (by omega) y (by rw [hlez,hley,c];exact n) (by rw [hlez,hley,c];exact l) (by omega) (by omega) (by omega)
     refine⟨q,C,?_⟩
     rcases t with⟨W,e,u⟩|⟨z,W,e,u⟩
     ·exact .inl ⟨W,e,u.trans hpall⟩
     ·exact .inr ⟨z,W,e,u.trans hpall⟩
  ·rw [cu h];exact⟨_,rfl,.inl ⟨X,rfl,.refl _⟩⟩
theorem zux{a b:Int}{X:List Int}(e:0≤a)(f:a<b)(g:b≤X.length)(h:X.length≤100): ∃ y,ut 1000000 X a b=some y∧y.2.Perm X:=by
 unfold ut
 obtain⟨q,i,c⟩:=zug (b:=b) e 1000000 (a+1) 0 X (by omega) (by omega) g h (by omega) (by omega) (by omega)
 rw [zn (bi (by omega)),qg i]
 rcases c with⟨W,rfl,d⟩|⟨z,W,rfl,d⟩
 ·exact⟨_,rfl,d⟩
 ·exact⟨_,rfl,d⟩
end GV
end Go.Proofs.Ytjmlpkkbmnjhcaa

namespace Go.Proofs.Ytjmlpkkbmnjhcaa
namespace GV
set_option maxRecDepth 100000
/-! ### partitions-/
theorem zx8{a j:Int}{X:List Int}(b:okI X a)(c:j<X.length)(d:X.length≤100): ∀ (F:Nat) (i:Int),0≤i→i≤200→j-i+1<F→0<F→ ∃ o,u7 1000000 a j X F i=some o∧i≤o∧(o≤j+1∨o=i)
 |0,i,_,_,_,h=>by omega
 |F+1,i,hi,e,k,_=>by
  simp only [u7]
  rw [zn (fun h=>b),zn (fun h=>by have:=gH h;exact⟨by omega,by omega⟩)]
  obtain⟨y,f⟩:=z2t (true&&((decide (i≤j))==true)) (ix X a) (ix X i)
  rw [qg f]
  cases hz:(decide (i≤j)&&(!(y.getD default))) with
  |false=>exact⟨i,by rw [cond_false],by omega,.inr rfl⟩
  |true=>
   have h:i≤j:=by simp only [Bool.and_eq_true,decide_eq_true_eq] at hz;exact hz.1
   rw [cond_true,zn (bi (by omega))]
   obtain⟨o,g,l,m⟩:=zx8 b c d F (i+1) (by omega) (by omega) (by omega) (by omega)
   exact⟨o,g,by omega,by left;omega⟩
theorem zxn{a i:Int}{X:List Int}(b:okI X a)(hi:0≤i)(c:X.length≤100): ∀ (F:Nat) (j:Int),j<X.length→ -200≤j→j-i+1<F→0<F→ ∃ o,ug 1000000 a X i F j=some o∧o≤j∧(i-1≤o∨o=j)
 |0,j,_,_,_,h=>by omega
 |F+1,j,g,d,k,_=>by
  simp only [ug]
  rw [zn (fun h=>b),zn (fun h=>by have:=gH h;exact⟨by omega,by omega⟩)]
  obtain⟨y,e⟩:=z2t (true&&((decide (i≤j))==true)) (ix X a) (ix X j)
  rw [qg e]
  cases hz:(decide (i≤j)&&(y.getD default)) with
  |false=>exact⟨j,by rw [cond_false],by omega,.inr rfl⟩
  |true=>
   have h:i≤j:=by simp only [Bool.and_eq_true,decide_eq_true_eq] at hz;exact hz.1
   rw [cond_true,zn (bi (by omega))]
   obtain⟨o,f,l,m⟩:=zxn b hi c F (j-1) (by omega) (by omega) (by omega) (by omega)
   exact⟨o,f,by omega,by left;omega⟩
theorem zx7{a b:Int}(l:0≤a)(e:a<b): ∀ (F:Nat) (i j:Int) (X:List Int),b≤X.length→X.length≤100→a+1≤i→i≤b→j≤b-1→a-1≤j→j-i+2<F→0<F→ ∃ y,ky 1000000 a F i j X=some y∧a+1≤y.1∧y.1≤b∧y.2.Perm X
 |0,i,j,X,_,_,_,_,_,_,_,h=>by omega
 |F+1,i,j,X,m,f,hi,n,x,q,z,_=>by
  simp only [ky]
  have oa:okI X a:=⟨l,by omega⟩
  obtain⟨o,r,A,B⟩:=zx8 (a:=a) (j:=j) (X:=X) oa (by omega) f 1000000 i (by omega) (by omega) (by omega) (by omega)
  obtain⟨p,s,C,D⟩:=zxn (a:=a) (i:=o) (X:=X) oa (by omega) f 1000000 j (by omega) (by omega) (by omega) (by omega)
  rw [qg r,qg s]
  by_cases h:p<o
  ·rw [eu h];exact⟨_,rfl,by show a+1≤o;omega,by show o≤b;omega,.refl _⟩
  ·have g:okI X o:=⟨by omega,by omega⟩
   have k:okI X p:=⟨by omega,by omega⟩
   rw [cu h,zn k,zn g,zn g,zn k,zn (bi (by omega)),zn (bi (by omega))]
   have c:=l9 g k
   have d:=c.length_eq
   obtain⟨y,t,u,v,w⟩:=zx7 l e F (o+1) (p-1) _ (by rw [d];exact m) (by rw [d];exact f) (by omega) (by omega) (by omega) (by omega) (by omega) (by omega)
   exact⟨y,t,u,v,w.trans c⟩
theorem zv3{a b p:Int}{X:List Int}(h:0≤a)(e:a<b)(i:b≤X.length)(j:X.length≤100)(o:a≤p∧p<b): ∃ y,gz 1000000 X a b p=some y∧a+1≤y.1∧y.1≤b∧y.2.Perm X:=by
 unfold gz
 have f:okI X a:=⟨h,by omega⟩
 have g:okI X p:=⟨by omega,by omega⟩
 have c:=l9 f g
 have d:=c.length_eq
 obtain⟨y,k,l,m,n⟩:=zx7 (b:=b) h e 1000000 (a+1) (b-1) (up (up X a (ix X p)) p (ix X a)) (by rw [d];exact i) (by rw [d];exact j) (by omega) (by omega) (by omega) (by omega) (by omega) (by omega)
 rw [zn g,zn f,zn f,zn g,zn (bi (by omega)),zn (bi (by omega)),qg k]
 exact⟨_,rfl,l,m,n.trans c⟩
theorem zx4{a b p:Int}{D X:List Int}(c:up (up D a (ix D p)) p (ix D a)=X)(d:okI X a)(e:b≤X.length)(f:X.length≤100): ∀ (F:Nat) (i:Int),0≤i→i≤200→b-i<F→0<F→ ∃ o,wz 1000000 D a b p F i=some o∧i≤o∧(o≤b∨o=i)
 |0,i,_,_,_,h=>by omega
 |F+1,i,hi,g,l,_=>by
  simp only [wz]
  rw [c,zn (fun h=>by have:=gH h;exact⟨by omega,by omega⟩),zn (fun h=>d)]
  obtain⟨y,j⟩:=z2t (true&&((decide (i≤(b-1)))==true)) (ix X i) (ix X a)
  rw [qg j]
  cases hz:(decide (i≤(b-1))&&(y.getD default)) with
  |false=>exact⟨i,by rw [cond_false],by omega,.inr rfl⟩
  |true=>
   have h:i≤b-1:=by simp only [Bool.and_eq_true,decide_eq_true_eq] at hz;exact hz.1
   rw [cond_true,zn (bi (by omega))]
   obtain⟨o,k,m,n⟩:=zx4 c d e f F (i+1) (by omega) (by omega) (by omega) (by omega)
   exact⟨o,k,by omega,by left;omega⟩
theorem zwe{a p i:Int}{D X:List Int}(b:up (up D a (ix D p)) p (ix D a)=X)(c:okI X a)(hi:0≤i)(d:X.length≤100): ∀ (F:Nat) (j:Int),j<X.length→ -200≤j→j-i+1<F→0<F→ ∃ o,vk 1000000 D a p i F j=some o∧o≤j∧(i-1≤o∨o=j)
 |0,j,_,_,_,h=>by omega
 |F+1,j,k,e,l,_=>by
  simp only [vk]
  rw [b,zn (fun h=>by have:=gH h;exact⟨by omega,by omega⟩),zn (fun h=>c)]
  obtain⟨y,f⟩:=z2t (true&&((decide (i≤j))==true)) (ix X j) (ix X a)
  rw [qg f]
  cases hz:(decide (i≤j)&&(!(y.getD default))) with
  |false=>exact⟨j,by rw [cond_false],by omega,.inr rfl⟩
  |true=>
   have h:i≤j:=by simp only [Bool.and_eq_true,decide_eq_true_eq] at hz;exact hz.1
   rw [cond_true,zn (bi (by omega))]
   obtain⟨o,g,m,n⟩:=zwe b c hi d F (j-1) (by omega) (by omega) (by omega) (by omega)
   exact⟨o,g,by omega,by left;omega⟩
theorem zwt{a j:Int}{X:List Int}(b:okI X a)(c:j<X.length)(d:X.length≤100): ∀ (F:Nat) (i:Int),0≤i→i≤200→j-i+1<F→0<F→ ∃ o,vg 1000000 a j X F i=some o∧i≤o∧(o≤j+1∨o=i)
 |0,i,_,_,_,h=>by omega
 |F+1,i,hi,e,k,_=>by
  simp only [vg]
  rw [zn (fun h=>by have:=gH h;exact⟨by omega,by omega⟩),zn (fun h=>b)]
  obtain⟨y,f⟩:=z2t (true&&((decide (i≤j))==true)) (ix X i) (ix X a)
  rw [qg f]
  cases hz:(decide (i≤j)&&(y.getD default)) with
  |false=>exact⟨i,by rw [cond_false],by omega,.inr rfl⟩
  |true=>
   have h:i≤j:=by simp only [Bool.and_eq_true,decide_eq_true_eq] at hz;exact hz.1
   rw [cond_true,zn (bi (by omega))]
   obtain⟨o,g,l,m⟩:=zwt b c d F (i+1) (by omega) (by omega) (by omega) (by omega)
   exact⟨o,g,by omega,by left;omega⟩
theorem zwy{a i:Int}{X:List Int}(b:okI X a)(hi:0≤i)(c:X.length≤100): ∀ (F:Nat) (j:Int),j<X.length→ -200≤j→j-i+1<F→0<F→ ∃ o,wy 1000000 a X i F j=some o∧o≤j∧(i-1≤o∨o=j)
 |0,j,_,_,_,h=>by omega
 |F+1,j,g,d,k,_=>by
  simp only [wy]
  rw [zn (fun h=>by have:=gH h;exact⟨by omega,by omega⟩),zn (fun h=>b)]
  obtain⟨y,e⟩:=z2t (true&&((decide (i≤j))==true)) (ix X j) (ix X a)
  rw [qg e]
  cases hz:(decide (i≤j)&&(!(y.getD default))) with
  |false=>exact⟨j,by rw [cond_false],by omega,.inr rfl⟩
  |true=>
   have h:i≤j:=by simp only [Bool.and_eq_true,decide_eq_true_eq] at hz;exact hz.1
   rw [cond_true,zn (bi (by omega))]
   obtain⟨o,f,l,m⟩:=zwy b hi c F (j-1) (by omega) (by omega) (by omega) (by omega)
   exact⟨o,f,by omega,by left;omega⟩
theorem zw4{a b:Int}(l:0≤a)(e:a<b): ∀ (F:Nat) (i j:Int) (X:List Int),b≤X.length→X.length≤100→a+1≤i→i≤b+1→j≤b-1→a≤j→j-i+2<F→0<F→ ∃ y,vo 1000000 a F i j X=some y∧a≤y.1∧y.1<b∧y.2.Perm X
 |0,i,j,X,_,_,_,_,_,_,_,h=>by omega
 |F+1,i,j,X,m,f,hi,n,x,q,z,_=>by
  simp only [vo]
  have oa:okI X a:=⟨l,by omega⟩
  obtain⟨o,r,A,B⟩:=zwt (a:=a) (j:=j) (X:=X) oa (by omega) f 1000000 i (by omega) (by omega) (by omega) (by omega)
  obtain⟨p,s,C,D⟩:=zwy (a:=a) (i:=o) (X:=X) oa (by omega) f 1000000 j (by omega) (by omega) (by omega) (by omega)
  rw [qg r,qg s]
  by_cases h:p<o
  ·rw [eu h];exact⟨_,rfl,by show a≤p;omega,by show p<b;omega,.refl _⟩
  ·have g:okI X o:=⟨by omega,by omega⟩
   have k:okI X p:=⟨by omega,by omega⟩
   rw [cu h,zn k,zn g,zn g,zn k,zn (bi (by omega)),zn (bi (by omega))]
   have c:=l9 g k
   have d:=c.length_eq
   obtain⟨y,t,u,v,w⟩:=zw4 l e F (o+1) (p-1) _ (by rw [d];exact m) (by rw [d];exact f) (by omega) (by omega) (by omega) (by omega) (by omega) (by omega)
   exact⟨y,t,u,v,w.trans c⟩
theorem zvx{a b p:Int}{D:List Int}(g:0≤a)(j:a<b)(z:b≤D.length)(A:D.length≤100)(B:a≤p∧p<b): ∃ y,ma 1000000 D a b p=some y∧a≤y.1∧y.1<b∧y.2.2.Perm D:=by
 unfold ma
 have f:okI D a:=⟨g,by omega⟩
 have k:okI D p:=⟨by omega,by omega⟩
 have c:=l9 f k
 have l:=c.length_eq
 rw [zn k,zn f,zn f,zn k,zn (bi (by omega)),zn (bi (by omega))]
 have e: ∃ X,up (up D a (ix D p)) p (ix D a)=X:=⟨_,rfl⟩
 obtain⟨X,e⟩:=e
 rw [e] at c l⊢
 have oa:okI X a:=zrj c f
 obtain⟨o,t,C,E⟩:=zx4 (b:=b) e oa (by omega) (by omega) 1000000 (a+1) (by omega) (by omega) (by omega) (by omega)
 obtain⟨q,u,F,G⟩:=zwe (i:=o) e oa (by omega) (by omega) 1000000 (b-1) (by omega) (by omega) (by omega) (by omega)
 rw [qg t,qg u]
 by_cases h:q<o
 ·have kq:okI X q:=⟨by omega,by omega⟩
  rw [eu h,zn oa,zn kq,zn kq,zn oa]
  exact⟨_,rfl,by show a≤q;omega,by show q<b;omega,(l9 kq oa).trans c⟩
 ·have m:okI X o:=⟨by omega,by omega⟩
  have n:okI X q:=⟨by omega,by omega⟩
  have d:=l9 m n
  have r:=d.length_eq
  obtain⟨y,v,w,x,s⟩:=zw4 (b:=b) g j 1000000 (o+1) (q-1) (up (up X o (ix X q)) q (ix X o)) (by omega) (by omega) (by omega) (by omega) (by omega) (by omega) (by omega) (by omega)
  have hley:=s.length_eq
  have ya:okI y.2 a:=⟨g,by omega⟩
  have yq:okI y.2 y.1:=⟨by omega,by omega⟩
  rw [cu h,zn n,zn m,zn m,zn n,zn (bi (by omega)),zn (bi (by omega)),qg v,zn ya,zn yq,zn yq,zn ya]
  exact⟨_,rfl,w,x,(((l9 yq ya).trans s).trans d).trans c⟩
/-! ### the whole-/
theorem zk7: ∀ (G:Nat) (X:List Int) (a b lim:Int),0≤a→a≤b→b≤X.length→X.length≤100→b-a<G→0≤lim→lim≤64→ ∃ Y,uh 1000000 G X a b lim=some Y∧Y.Perm X
 |0,X,a,b,lim,_,_,_,_,h,_,_=>by omega
 |G+1,X,a,b,lim,d,j,m,n,K,x,k=>by
  have key: ∀ (F:Nat) (a b lim:Int) (p q:Bool) (X:List Int),0≤a→a≤b→b≤X.length→X.length≤100→b-a≤G→b-a<F→0≤lim→lim≤64→ ∃ Y,kw 1000000 (uh 1000000 G) F a b lim p q X=some Y∧Y.Perm X:=by
   intro F
   induction F with
   |zero=>intro a b lim p q X d j _ _ _ h;omega
   |succ F ih=>
    intro a b lim p q X d j m n K W x k
    simp only [kw]
    rw [zn (bi (by omega))]
    by_cases h12:b-a≤12
    ·obtain⟨Y,l,c⟩:=zus (X:=X) (a:=a) (b:=b) d (by omega) m n
     rw [eu h12,qg l];exact⟨Y,rfl,c⟩
    ·rw [cu h12]
     by_cases hl0:lim=0
     ·obtain⟨Y,l,c⟩:=zte (X:=X) (a:=a) (b:=b) d (by omega) m n
      rw [eu hl0,qg l];exact⟨Y,rfl,c⟩
     ·rw [cu hl0]
      have L: ∃ o:Int×List Int,(bif !p then(bd (ym 1000000 X a b) fun A=>gd (in64 (lim-1))<|some (lim-1,A)) else some (lim,X))=some o∧0≤o.1∧o.1≤64∧o.2.Perm X:=by
       cases p
       ·obtain⟨Y,l,c⟩:=zr5 (X:=X) (a:=a) (b:=b) d j m n
        refine⟨(lim-1,Y),(ct rfl).trans ?_,by show 0≤lim-1;omega,by show lim-1≤64;omega,c⟩
        rw [qg l,zn (bi (by omega))]
       ·exact⟨(lim,X),rfl,x,k,.refl _⟩
      obtain⟨o,M,s,t,op⟩:=L
      have ole:=op.length_eq
      rw [qg M]
      obtain⟨y,N,O,P⟩:=zr2 (X:=o.2) (a:=a) (b:=b) d (by omega) (by omega) (by omega)
      rw [qg N]
      have Q: ∃ r:Int×Int×List Int,(bif decide (y.2=2) then(bd (yx 1000000 o.2 a b) fun B=>gd (in64 (b-1))<|gd (in64 (y.1-a))<|gd (in64 ((b-1)-(y.1-a)))<|some ((b-1)-(y.1-a),1,B)) else some (y.1,y.2,o.2))=some r∧(a≤r.1∧r.1<b)∧r.2.2.Perm X:=by
       by_cases hc:y.2=2
       ·obtain⟨Y,l,c⟩:=zvi (X:=o.2) (a:=a) (b:=b) d (by omega) (by omega) (by omega)
        refine⟨((b-1)-(y.1-a),1,Y),?_,⟨by show a≤(b-1)-(y.1-a);omega,by show (b-1)-(y.1-a)<b;omega⟩,c.trans op⟩
        rw [eu hc,qg l,zn (bi (by omega)),zn (bi (by omega)),zn (bi (by omega))]
       ·exact⟨(y.1,y.2,o.2),by rw [cu hc],⟨O,P⟩,op⟩
      obtain⟨r,R,I,rp⟩:=Q
      have rle:=rp.length_eq
      rw [qg R]
      have S: ∃ e:Ex (List Int) (List Int),(bif (p&&q)&&(decide (r.2.1=1)) then(bd (ut 1000000 r.2.2 a b) fun f=>bif f.1 then(some (Ex.rt f.2)) else(some (Ex.go f.2))) else(some (Ex.go r.2.2)))=some e∧((∃ Y,e=Ex.rt Y∧Y.Perm X)∨ ∃ Y,e=Ex.go Y∧Y.Perm X):=by
       cases hc:((p&&q)&&(decide (r.2.1=1))) with
       |false=>exact⟨Ex.go r.2.2,by rw [cond_false],.inr ⟨_,rfl,rp⟩⟩
       |true=>
        obtain⟨z,u,c⟩:=zux (X:=r.2.2) (a:=a) (b:=b) d (by omega) (by omega) (by omega)
        rw [cond_true,qg u]
        cases z.1
        ·exact⟨Ex.go z.2,rfl,.inr ⟨_,rfl,c.trans rp⟩⟩
        ·exact⟨Ex.rt z.2,rfl,.inl ⟨_,rfl,c.trans rp⟩⟩
      obtain⟨e,T,C⟩:=S
      rw [qg T]
      rcases C with⟨Y,rfl,c⟩|⟨Y,rfl,c⟩
      ·rw [zdn];exact⟨Y,rfl,c⟩
      ·have yle:=c.length_eq
       rw [zau,zn (fun h=>bi (by omega)),zn (fun h=>by have:=gH h;exact⟨by omega,by omega⟩),zn (fun h=>⟨by omega,by omega⟩)]
       obtain⟨w,U⟩:=z2t (true&&((decide (0<a))==true)) (ix Y (a-1)) (ix Y r.1)
       rw [qg U]
       cases hc:(decide (0<a)&&(!(w.getD default))) with
       |true=>
        obtain⟨z,u,E,J,zp⟩:=zv3 (X:=Y) (a:=a) (b:=b) (p:=r.1) d (by omega) (by omega) (by omega) I
        have zle:=zp.length_eq
        obtain⟨Z,v,g⟩:=ih z.1 b o.1 p q z.2 (by omega) J (by omega) (by omega) (by omega) (by omega) s t
        rw [cond_true,qg u]
        exact⟨Z,v,(g.trans zp).trans c⟩
       |false=>
        obtain⟨z,u,E,J,zp⟩:=zvx (D:=Y) (a:=a) (b:=b) (p:=r.1) d (by omega) (by omega) (by omega) I
        have zle:=zp.length_eq
        rw [cond_false,qg u,zn (bi (by omega)),zn (bi (by omega)),zn ⟨by omega,by omega,by decide⟩]
        by_cases hs:z.1-a<b-z.1
        ·obtain⟨V,H,i⟩:=zk7 G z.2.2 a z.1 o.1 d E (by omega) (by omega) (by omega) s t
         have vle:=i.length_eq
         obtain⟨Z,v,g⟩:=ih (z.1+1) b o.1 (decide (((b-a)/8)≤(z.1-a))) z.2.1 V (by omega) (by omega) (by omega) (by omega) (by omega) (by omega) s t
         rw [eu hs,qg H,zn (bi (by omega))]
         exact⟨Z,v,((g.trans i).trans zp).trans c⟩
        ·obtain⟨V,H,i⟩:=zk7 G z.2.2 (z.1+1) b o.1 (by omega) (by omega) (by omega) (by omega) (by omega) s t
         have vle:=i.length_eq
         obtain⟨Z,v,g⟩:=ih a z.1 o.1 (decide (((b-a)/8)≤(b-z.1))) z.2.1 V d E (by omega) (by omega) (by omega) (by omega) s t
         rw [cu hs,zn (bi (by omega)),qg H]
         exact⟨Z,v,((g.trans i).trans zp).trans c⟩
  simp only [uh]
  exact key 1000000 a b lim true true X d j m n (by omega) (by omega) x k
theorem zjq{X:List Int}(a:X.length≤100): ∃ Y,z0h 1000000 X=some Y∧Y.Perm X:=by
 obtain⟨n,b,c,d⟩:=zv7 (n:=X.length) (by omega)
 obtain⟨Y,e,f⟩:=zk7 1000000 X 0 (X.length:Int) n (by omega) (by omega) (by omega) a (by omega) c d
 unfold z0h
 have g:IntKind.u64.wrap (X.length:Int)=(X.length:Int):=z2w .u64 (by omega) (zpl (by omega))
 rw [g,qg b,qg e]
 exact⟨Y,rfl,f⟩
end GV
end Go.Proofs.Ytjmlpkkbmnjhcaa

namespace Go.Proofs.Ytjmlpkkbmnjhcaa
namespace GV
set_option maxRecDepth 100000
theorem ztw{α:Type}{X:List α}{i:Nat}{d:α}(h:i<X.length):X.getD i d=X[i]:=by rw [List.getD_eq_getElem?_getD,List.getElem?_eq_getElem h];rfl
def z7l(s:List Int):Nat→List Int
 |0=>[]
 |i+1=>if 0<i∧s.getD i default=s.getD (i-1) default then z7l s i else z7l s i++[s.getD i default]
def cpt(s:List Int):List Int:=z7l s s.length
theorem zeq(s:List Int): ∀ i,(z7l s i).length≤i
 |0=>Nat.le_refl _
 |i+1=>by
  have:=zeq s i
  unfold z7l
  split
  ·omega
  ·rw [List.length_append,List.length_singleton];omega
theorem zcc{s:List Int}{i:Nat}(h:0<i)(e:s.getD i default=s.getD (i-1) default):z7l s (i+1)=z7l s i:=by
 show (if _ then _ else _)=_
 rw [if_pos ⟨h,e⟩]
theorem zqn{s:List Int}{i:Nat}(e:s.getD i default≠s.getD (i-1) default):z7l s (i+1)=z7l s i++[s.getD i default]:=by
 show (if _ then _ else _)=_
 rw [if_neg (fun h=>e h.2)]
theorem zar{s:List Int}: ∀ {a:Nat},a≤s.length→(∀ j,0<j→j<a→s.getD j default≠s.getD (j-1) default)→z7l s a=s.take a
 |0,_,_=>rfl
 |a+1,e,h=>by
  have ih:=zar (s:=s) (a:=a) (by omega) (fun j c f=>h j c (by omega))
  have d:s.take (a+1)=s.take a++[s.getD a default]:=by
   rw [List.take_add_one,List.getD_eq_getElem?_getD,List.getElem?_eq_getElem (show a<s.length by omega)];rfl
  rw [d,←ih]
  show (if _ then _ else _)=_
  rw [if_neg (fun b=>h a b.1 (by omega) b.2)]
theorem zij{s:List Int}: ∀ {n:Nat} {z:Int},z∈z7l s n↔ ∃ i,i<n∧s.getD i default=z
 |0,z=>⟨fun h=>absurd h (by simp [z7l]),fun⟨i,h,_⟩=>absurd h (by omega)⟩
 |n+1,z=>by
  have ih:=zij (s:=s) (n:=n) (z:=z)
  by_cases h:0<n∧s.getD n default=s.getD (n-1) default
  ·rw [zcc h.1 h.2,ih]
   constructor
   ·rintro⟨i,b,a⟩;exact⟨i,by omega,a⟩
   ·rintro⟨i,b,a⟩
    by_cases e:i=n
    ·subst e;exact⟨i-1,by omega,by rw [←h.2];exact a⟩
    ·exact⟨i,by omega,a⟩
  ·have c:z7l s (n+1)=z7l s n++[s.getD n default]:=by
    show (if _ then _ else _)=_
    rw [if_neg h]
   rw [c,List.mem_append,List.mem_singleton,ih]
   constructor
   ·rintro(⟨i,b,a⟩|rfl)
    ·exact⟨i,by omega,a⟩
    ·exact⟨n,by omega,rfl⟩
   ·rintro⟨i,b,a⟩
    by_cases e:i=n
    ·subst e;exact .inr a.symm
    ·exact .inl ⟨i,by omega,a⟩
theorem zsp{s:List Int}{z:Int}:z∈cpt s↔z∈s:=by
 unfold cpt
 rw [zij]
 constructor
 ·rintro⟨i,h,rfl⟩;exact z3x h
 ·intro h
  obtain⟨i,hi,a⟩:=List.mem_iff_getElem.1 h
  exact⟨i,hi,by rw [ztw hi];exact a⟩
theorem zsz{Y:List Int}{k:Nat}{v:Int}(a:k<Y.length):(Y.set k v).take (k+1)=Y.take k++[v]:=by
 rw [List.take_add_one,List.take_set_of_le (Nat.le_refl _),List.getElem?_set,if_pos rfl,if_pos a];rfl
theorem ztn{Y:List Int}{k j:Nat}{v:Int}(h:j≠k):(Y.set k v).getD j default=Y.getD j default:=by
 rw [List.getD_eq_getElem?_getD,List.getD_eq_getElem?_getD,List.getElem?_set,if_neg (fun e=>h e.symm)]
theorem zqe{s:List Int}{a:Nat}(n:1≤a)(d:a<s.length)(o:s.length≤100): ∀ (F:Nat) (k b:Nat) (Y:List Int),1≤b→k+1≤a+b→b≤s.length-a→Y.length=s.length→Y.take k=z7l s (a+b)→(∀ j,a+b≤j+1→Y.getD j default=s.getD j default)→s.length-a-b<F→
 ∃ Z:List Int,gy 1000000 s (a:Int) F (k:Int) (b:Int) Y=some (((cpt s).length:Int),Z)∧Z.length=s.length∧Z.take (cpt s).length=cpt s
 |0,k,b,Y,_,_,_,_,_,_,h=>by omega
 |F+1,k,b,Y,u,v,w,i,f,g,x=>by
  simp only [gy]
  have c:k=(z7l s (a+b)).length:=by rw [←f,List.length_take];omega
  by_cases h:b<s.length-a
  ·have p:okA Y (a:Int) (s.length-(a:Int).toNat) (b:Int):=⟨by omega,by omega,by omega,by omega⟩
   have r:okA Y (a:Int) (s.length-(a:Int).toNat) ((b:Int)-1):=⟨by omega,by omega,by omega,by omega⟩
   have l:ix Y ((a:Int)+(b:Int))=s.getD (a+b) default:=by
    rw [show (a:Int)+(b:Int)=((a+b:Nat):Int) by omega,z2j];exact g _ (by omega)
   have q:ix Y ((a:Int)+((b:Int)-1))=s.getD (a+b-1) default:=by
    rw [show (a:Int)+((b:Int)-1)=((a+b-1:Nat):Int) by omega,z2j];exact g _ (by omega)
   rw [eu (by omega),zn p,zn (ui (by omega)),zn r]
   by_cases hd:s.getD (a+b) default≠s.getD (a+b-1) default
   ·have m:up Y (k:Int) (ix Y ((a:Int)+(b:Int)))=Y.set k (s.getD (a+b) default):=by rw [l];rfl
    rw [eu (by rw [l,q];exact hd),zn p,zn ⟨by omega,by omega⟩,zn (ui (by omega)),z3y,zn (ui (by omega)),m]
    exact zqe n d o F (k+1) (b+1) _ (by omega) (by omega) (by omega) (by rw [List.length_set];exact i) (by
     rw [zsz (by omega),f,←zqn hd];rfl) (fun j t=>by rw [ztn (by omega)];exact g j (by omega)) (by omega)
   ·rw [cu (by rw [l,q];exact hd),z3y,zn (ui (by omega))]
    exact zqe n d o F k (b+1) Y (by omega) (by omega) (by omega) i (by
     rw [f,←zcc (show 0<a+b by omega) (Decidable.not_not.1 hd)];rfl) (fun j t=>g j (by omega)) (by omega)
  ·have e:a+b=s.length:=by omega
   rw [e] at c f
   rw [cu (by omega),c]
   exact⟨Y,rfl,i,by unfold cpt;rw [←c];exact f⟩
theorem zuk{s:List Int}(d:s.length≤100):l7 1000000 s=some (cpt s):=by
 unfold l7
 by_cases h2:(s.length:Int)<2
 ·rw [eu h2]
  unfold cpt
  rw [zar (Nat.le_refl _) (fun j _ _=>by omega),List.take_length]
 ·rw [cu h2]
  have f: ∃ q,yu 1000000 s 1000000 1=some q∧(q=Ex.rt (cpt s)∨q=Ex.go ()∧cpt s=s):=by
   refine z1o (σ:=Unit) (fun F a _=>yu 1000000 s F (a:Int)) s.length (fun a _=>1≤a∧ ∀ j,0<j→j<a→s.getD j default≠s.getD (j-1) default) _ (fun F a u hi b=>?_) (fun F u b=>?_) 1000000 1 () (by omega) (by omega) ⟨Nat.le_refl _,fun j _ _=>by omega⟩
   ·simp only [yu]
    have g:ix s ((a:Int)-1)=s.getD (a-1) default:=by rw [show (a:Int)-1=((a-1:Nat):Int) by omega,z2j]
    rw [eu (by omega),zn ⟨by omega,by omega⟩,zn (ui (by omega)),zn ⟨by omega,by omega⟩,z2j,g]
    by_cases he:s.getD a default=s.getD (a-1) default
    ·left
     obtain⟨Z,h,p,i⟩:=zqe (s:=s) (a:=a) b.1 hi d 1000000 a 1 s (by omega) (by omega) (by omega) rfl (by
      rw [zcc (show 0<a by omega) he,zar (by omega) b.2]) (fun j _=>rfl) (by omega)
     have k:=zeq s s.length
     have hr':gy 1000000 s (a:Int) 1000000 (a:Int) 1 s=some (((cpt s).length:Int),Z):=h
     have l:(z5w Z ((cpt s).length:Int).toNat (List.replicate (Z.length-((cpt s).length:Int).toNat) (0:Int))).length=Z.length:=zak (by rw [List.length_replicate];unfold cpt;omega)
     have hcut:cut (z5w Z ((cpt s).length:Int).toNat (List.replicate (Z.length-((cpt s).length:Int).toNat) (0:Int))) 0 ((cpt s).length:Int)=Z.take (cpt s).length:=by
      have m:(cpt s).length≤Z.length:=by unfold cpt;omega
      simp only [cut,z5w]
      simp [List.take_append,m]
     refine⟨Ex.rt (cpt s),?_,.inl rfl⟩
     rw [eu he,zn ⟨by omega,by omega,by omega⟩,qg hr']
     dsimp only
     rw [zn ⟨by omega,by unfold cpt;omega,by omega⟩,zn ⟨by omega,by omega,by rw [l];unfold cpt;omega⟩,hcut,i]
    ·right
     refine⟨(),⟨by omega,fun j n r=>?_⟩,by rw [cu he,zn (ui (by omega))];rfl⟩
     by_cases e:j=a
     ·subst e;exact he
     ·exact b.2 j n (by omega)
   ·simp only [yu]
    rw [cu (by omega)]
    exact⟨_,rfl,.inr ⟨rfl,by unfold cpt;rw [zar (Nat.le_refl _) b.2,List.take_length]⟩⟩
  obtain⟨q,o,c⟩:=f
  rw [qg o]
  rcases c with rfl|⟨rfl,e⟩
  ·rfl
  ·show some s=_
   rw [e]
end GV
end Go.Proofs.Ytjmlpkkbmnjhcaa

namespace Go.Proofs.Ytjmlpkkbmnjhcaa
namespace GV
set_option maxRecDepth 100000
theorem z9c{n:Nat}{p:Nat→Bool}:(List.range n).any p=false↔ ∀ k,k<n→p k=false:=by
 rw [List.any_eq_false]
 exact⟨fun h k a=>by have:=h k (List.mem_range.2 a);simpa using this,fun h k a=>by rw [h k (List.mem_range.1 a)];simp⟩
theorem zf4{n:Nat}{p:Nat→Bool}:(List.range n).any p=true↔ ∃ k,k<n∧p k=true:=by
 rw [List.any_eq_true]
 exact⟨fun⟨k,a,b⟩=>⟨k,List.mem_range.1 a,b⟩,fun⟨k,a,b⟩=>⟨k,List.mem_range.2 a,b⟩⟩
theorem zsc{α:Type}[Inhabited α]{l:List α}{q:α→Bool}:(List.range l.length).any (fun i=>q (l.getD i default))=l.any q:=by
 cases h:l.any q with
 |true=>
  obtain⟨x,a,b⟩:=List.any_eq_true.1 h
  obtain⟨i,hi,rfl⟩:=List.mem_iff_getElem.1 a
  exact zf4.2 ⟨i,hi,by rw [ztw hi];exact b⟩
 |false=>
  refine z9c.2 fun k c=>?_
  have:=List.any_eq_false.1 h (l.getD k default) (z3x c)
  simpa using this
theorem zhw{N:Nat}{s:List Int}{f:Int→Option Bool}{q:Int→Bool}(k:s.length<N)(l:s.length≤100000)(b: ∀ c∈s,f c=some (q c)):mf N s f=some (s.any q):=by
 have d: ∃ r,yg N s f N 0=some r∧((∃ i:Nat,r=Ex.rt (i:Int)∧s.any q=true)∨(r=Ex.go ()∧s.any q=false)):=by
  refine z1o (σ:=Unit) (fun F i _=>yg N s f F (i:Int)) s.length (fun i _=> ∀ j,j<i→q (s.getD j default)=false) _ (fun F i u hi a=>?_) (fun F u a=>?_) N 0 () (Nat.zero_le _) (by omega) (fun j a=>absurd a (by omega))
  ·simp only [yg]
   rw [eu (by omega),zn (ib hi),z2j,b _ (z3x hi),z3y]
   cases hq:q (s.getD i default)
   ·right
    refine⟨(),fun j hj'=>?_,?_⟩
    ·by_cases e:j=i
     ·subst e;exact hq
     ·exact a j (by omega)
    ·rw [cond_false,zn (ui (by omega))];rfl
   ·left
    exact⟨_,by rw [cond_true],.inl ⟨i,rfl,List.any_eq_true.2 ⟨_,z3x hi,hq⟩⟩⟩
  ·simp only [yg]
   rw [cu (by omega)]
   exact⟨_,rfl,.inr ⟨rfl,by rw [←zsc];exact z9c.2 a⟩⟩
 obtain⟨r,g,h⟩:=d
 unfold mf lu
 rw [qg g]
 rcases h with⟨i,rfl,h⟩|⟨rfl,h⟩
 ·rw [zdn,z3y,h,decide_eq_true (by omega)]
 ·rw [zau,z3y,h];rfl
theorem zny{N:Nat}{a b:List Bool}(f:a.length<N)(g:a.length≤4611686018427387904):z0k N a b=some (decide (a=b)):=by
 unfold z0k
 by_cases h:(a.length:Int)≠b.length
 ·rw [eu h,decide_eq_false (fun e=>h (by rw [e]))]
 ·rw [cu h]
  have hl':a.length=b.length:=by omega
  have c:di N a b N 0=some (if a=b then Ex.go () else Ex.rt false):=by
   refine z6w (σ:=Unit) (fun F k _=>di N a b F (k:Int)) a.length (fun k _=> ∀ j,j<k→a.getD j default=b.getD j default) _ (fun F k _ d hi=>?_) (fun F _ hi=>?_) N 0 () (Nat.zero_le _) (by omega) (fun j i=>by omega)
   ·simp only [di]
    rw [eu (by omega),zn (ib d),zn (ib (by omega)),z2j,z2j]
    by_cases he:a.getD k default=b.getD k default
    ·right
     refine⟨(),zqo hi he,Eq.trans (cu (fun h=>h he)) ?_⟩
     rw [zn (ui (by omega))];rfl
    ·left
     refine Eq.trans (eu he) ?_
     rw [if_neg (fun e=>he (by rw [e]))]
   ·simp only [di]
    rw [cu (by omega),if_pos (ze2 hl' hi)]
  rw [qg c]
  by_cases he:a=b
  ·rw [if_pos he,decide_eq_true he];rfl
  ·rw [if_neg he,decide_eq_false he];rfl
end GV
end Go.Proofs.Ytjmlpkkbmnjhcaa

namespace Go.Proofs.Ytjmlpkkbmnjhcaa
namespace GV
set_option maxRecDepth 100000
def tb(x:Int)(s:Nat):Bool:=x.toNat.testBit s
theorem zbl(k s:Nat):zo (k:Int) (s:Int)=((k/2^s:Nat):Int):=by
 show Int.fdiv (k:Int) (2^((s:Int).toNat))=_
 rw [Int.toNat_natCast,Int.fdiv_eq_ediv_of_nonneg _ (by exact_mod_cast Nat.zero_le _)]
 norm_cast
theorem zjf(a b:Nat):zb (a:Int) (b:Int)=((a&&&b:Nat):Int):=rfl
theorem zqm{x:Int}(a:0≤x)(s:Nat):decide (zb (zo x (s:Int)) 1=1)=tb x s:=by
 obtain⟨k,rfl⟩: ∃ k:Nat,x=(k:Int):=⟨x.toNat,by omega⟩
 rw [zbl,show (1:Int)=((1:Nat):Int) from rfl,zjf,Nat.and_one_is_mod]
 unfold tb
 rw [Int.toNat_natCast,Nat.testBit_eq_decide_div_mod_eq]
 by_cases h:k/2^s%2=1
 ·rw [decide_eq_true h,decide_eq_true (by omega)]
 ·rw [decide_eq_false h,decide_eq_false (by omega)]
theorem zmc{x:Int}(a:0≤x∧x≤65535)(s:Nat):0≤zo x (s:Int)∧zo x (s:Int)≤65535:=by
 obtain⟨k,rfl⟩: ∃ k:Nat,x=(k:Int):=⟨x.toNat,by omega⟩
 rw [zbl]
 have:=Nat.div_le_self k (2^s)
 generalize k/2^s=q at this⊢
 omega
theorem zbs{t:Nat}(h:t<16):1≤2^t∧2^t≤32768:=⟨Nat.one_le_two_pow,by
 have:=Nat.pow_le_pow_right (n:=2) (by decide) (show t≤15 by omega)
 omega⟩
theorem z6c{t:Nat}(h:t<16):mq .u16 1 (t:Int)=((2^t:Nat):Int):=by
 have:=zbs h
 unfold mq
 rw [Int.toNat_natCast,Int.one_mul,show ((2:Int)^t)=((2^t:Nat):Int) by norm_cast]
 exact z2w _ (by omega) (by show ((2^t:Nat):Int)≤65535;omega)
theorem zr3{x:Int}(a:0≤x)(t s:Nat):tb (ior x ((2^t:Nat):Int)) s=(tb x s||decide (s=t)):=by
 unfold tb ior
 rw [Int.toNat_natCast,Int.toNat_natCast,Nat.testBit_or,Nat.testBit_two_pow]
 by_cases h:s=t
 ·subst h;simp
 ·rw [decide_eq_false h,decide_eq_false (fun e=>h e.symm)]
theorem zp9{x:Int}{n t:Nat}(b:0≤x)(c:x<((2^n:Nat):Int))(a:t<n):0≤ior x ((2^t:Nat):Int)∧ior x ((2^t:Nat):Int)<((2^n:Nat):Int):=by
 refine⟨Int.natCast_nonneg _,?_⟩
 unfold ior
 rw [Int.toNat_natCast]
 exact Int.ofNat_lt.2 (Nat.or_lt_two_pow (by omega) (Nat.pow_lt_pow_right (by decide) a))
theorem zh7{x y:Int}(a:0≤x)(b:0≤y)(h: ∀ s,tb x s=tb y s):x=y:=by
 have:=Nat.eq_of_testBit_eq h
 omega
theorem zim{x:Int}{n s:Nat}(b:x<((2^n:Nat):Int))(a:n≤s):tb x s=false:=by
 unfold tb
 by_cases h0:0≤x
 ·exact Nat.testBit_lt_two_pow (Nat.lt_of_lt_of_le (show x.toNat<2^n by omega) (Nat.pow_le_pow_right (by decide) a))
 ·rw [show x.toNat=0 by omega,Nat.zero_testBit]
theorem zci(s:Nat):tb 0 s=false:=Nat.zero_testBit s
def bmk(p:Nat→Bool):Nat→Int
 |0=>0
 |n+1=>if p n=true then ior (bmk p n) ((2^n:Nat):Int) else bmk p n
theorem z5e(p:Nat→Bool): ∀ n,0≤bmk p n∧bmk p n<((2^n:Nat):Int)
 |0=>⟨Int.le_refl _,by show (0:Int)<((1:Nat):Int);decide⟩
 |n+1=>by
  obtain⟨a,b⟩:=z5e p n
  have c:((2^n:Nat):Int)<((2^(n+1):Nat):Int):=Int.ofNat_lt.2 (Nat.pow_lt_pow_right (by decide) (Nat.lt_succ_self n))
  unfold bmk
  split
  ·exact zp9 a (by omega) (Nat.lt_succ_self n)
  ·exact⟨a,by omega⟩
theorem z9v(p:Nat→Bool): ∀ n s,tb (bmk p n) s=(decide (s<n)&&p s)
 |0,s=>by rw [show bmk p 0=0 from rfl,zci];simp
 |n+1,s=>by
  unfold bmk
  by_cases hp:p n=true
  ·rw [if_pos hp,zr3 (z5e p n).1,z9v p n s]
   by_cases h:s=n
   ·subst h;simp [hp]
   ·rw [decide_eq_false h,Bool.or_false]
    by_cases h2:s<n
    ·rw [decide_eq_true h2,decide_eq_true (by omega)]
    ·rw [decide_eq_false h2,decide_eq_false (by omega)]
  ·rw [if_neg hp,z9v p n s]
   by_cases h:s=n
   ·subst h;simp [hp]
   ·by_cases h2:s<n
    ·rw [decide_eq_true h2,decide_eq_true (by omega)]
    ·rw [decide_eq_false h2,decide_eq_false (by omega)]
theorem zel{x:Int}{n:Nat}{p:Nat→Bool}(a:0≤x)(b:x<((2^n:Nat):Int))(h: ∀ s,s<n→tb x s=p s):x=bmk p n:=by
 refine zh7 a (z5e p n).1 fun s=>?_
 rw [z9v]
 by_cases hs:s<n
 ·rw [h s hs,decide_eq_true hs,Bool.true_and]
 ·rw [zim b (by omega),decide_eq_false hs,Bool.false_and]
theorem z7o{p q:Nat→Bool}{n:Nat}(h: ∀ s,s<n→p s=q s):bmk p n=bmk q n:=zel (z5e p n).1 (z5e p n).2 fun s a=>by rw [z9v,decide_eq_true a,Bool.true_and,h s a]
theorem za7{n:Nat}(a:n≤16):((2^n:Nat):Int)≤65536:=by
 have:=Nat.pow_le_pow_right (n:=2) (by decide) a
 omega
/-! ### how many-/
def pcB(x:Int):Nat:=(List.range 16).countP (tb x)
theorem zjl: ∀ k,k<256→strT1.getD k default=((List.range 8).countP (fun s=>k.testBit s):Int):=by
 have h:(List.range 256).all (fun k=>decide (strT1.getD k default=((List.range 8).countP (fun s=>k.testBit s):Int)))=true:=by decide+kernel
 intro k a
 exact of_decide_eq_true (List.all_eq_true.1 h k (List.mem_range.2 a))
theorem zob(k:Nat):pcB (k:Int)=(List.range 8).countP (fun s=>(k/256).testBit s)+(List.range 8).countP (fun s=>(k%256).testBit s):=by
 have e:List.range 16=List.range 8++(List.range 8).map (· +8):=by decide
 unfold pcB
 rw [e,List.countP_append,List.countP_map,Nat.add_comm]
 congr 1
 ·refine List.countP_congr fun s a=>?_
  show (tb (k:Int) (s+8)=true)↔_
  unfold tb
  rw [Int.toNat_natCast,show (256:Nat)=2^8 from rfl,Nat.testBit_div_two_pow,Nat.add_comm]
 ·refine List.countP_congr fun s a=>?_
  have a:=List.mem_range.1 a
  unfold tb
  rw [Int.toNat_natCast,show (256:Nat)=2^8 from rfl,Nat.testBit_mod_two_pow,decide_eq_true a,Bool.true_and]
theorem zg9{N:Nat}{x:Int}(h:0≤x∧x≤65535):il N x=some (pcB x:Int):=by
 obtain⟨k,rfl⟩: ∃ k:Nat,x=(k:Int):=⟨x.toNat,by omega⟩
 have a:k/256<256:=by omega
 have b:k%256<256:=by omega
 have c:zo (k:Int) (8:Int)=((k/256:Nat):Int):=zbl k 8
 have d:zb (k:Int) 255=((k%256:Nat):Int):=by
  rw [show (255:Int)=((255:Nat):Int) from rfl,zjf]
  have:=Nat.and_two_pow_sub_one_eq_mod k 8
  rw [show (255:Nat)=2^8-1 from rfl,this]
 have l:strT1.length=256:=by decide
 have e:=List.countP_le_length (p:=fun s=>(k/256).testBit s) (l:=List.range 8)
 have f:=List.countP_le_length (p:=fun s=>(k%256).testBit s) (l:=List.range 8)
 rw [List.length_range] at e f
 have g:=zob k
 have w:IntKind.u8.wrap (strT1.getD (k/256) default+strT1.getD (k%256) default)=(pcB (k:Int):Int):=by
  rw [zjl _ a,zjl _ b,z2w _ (by omega) (by show _≤(255:Int);omega),g];rfl
 unfold il
 rw [zn ⟨by decide,by decide⟩,c,d,zn (ib (by rw [l];exact a)),zn ⟨⟨by omega,by show (k:Int)≤65535;omega⟩,by decide,by decide⟩,zn (ib (by rw [l];exact b)),z2j,z2j,w,zn (ui (by omega))]
theorem zb4{p:Nat→Bool}: ∀ {l:List Nat},l.Nodup→(1<l.countP p↔ ∃ a b,a∈l∧b∈l∧a≠b∧p a=true∧p b=true)
 | [],_=>by simp
 |c::l,k=>by
  obtain⟨m,n⟩:=List.nodup_cons.1 k
  rw [List.countP_cons]
  by_cases hc:p c=true
  ·rw [if_pos hc]
   constructor
   ·intro h
    obtain⟨a,f,d⟩:=List.countP_pos_iff.1 (show 0<l.countP p by omega)
    exact⟨c,a,List.mem_cons_self ..,List.mem_cons_of_mem _ f,fun e=>m (e▸f),hc,d⟩
   ·rintro⟨a,b,f,g,j,d,i⟩
    have:0<l.countP p:=List.countP_pos_iff.2 (by
     rcases List.mem_cons.1 f with rfl|f
     ·rcases List.mem_cons.1 g with rfl|g
      ·exact absurd rfl j
      ·exact⟨b,g,i⟩
     ·exact⟨a,f,d⟩)
    omega
  ·rw [if_neg hc,Nat.add_zero,zb4 n]
   constructor
   ·rintro⟨a,b,f,g,h⟩
    exact⟨a,b,List.mem_cons_of_mem _ f,List.mem_cons_of_mem _ g,h⟩
   ·rintro⟨a,b,f,g,j,d,i⟩
    rcases List.mem_cons.1 f with rfl|f
    ·exact absurd d hc
    ·rcases List.mem_cons.1 g with rfl|g
     ·exact absurd i hc
     ·exact⟨a,b,f,g,j,d,i⟩
theorem zdv{x:Int}(f:x<65536):1<pcB x↔ ∃ a b,a≠b∧tb x a=true∧tb x b=true:=by
 unfold pcB
 rw [zb4 List.nodup_range]
 have d: ∀ a,tb x a=true→a∈List.range 16:=fun a c=>by
  rw [List.mem_range]
  by_cases h:a<16
  ·exact h
  ·rw [zim (n:=16) (by omega) (by omega)] at c;cases c
 constructor
 ·rintro⟨a,b,_,_,h⟩;exact⟨a,b,h⟩
 ·rintro⟨a,b,h,c,e⟩;exact⟨a,b,d a c,d b e,h,c,e⟩
theorem zlv{x:Int}(b:x<65536):0<pcB x↔ ∃ a,tb x a=true:=by
 unfold pcB
 rw [List.countP_pos_iff]
 constructor
 ·rintro⟨a,_,h⟩;exact⟨a,h⟩
 ·rintro⟨a,h⟩
  refine⟨a,?_,h⟩
  rw [List.mem_range]
  by_cases h2:a<16
  ·exact h2
  ·rw [zim (n:=16) (by omega) (by omega)] at h;cases h
/-! ### the image of a set-/
def z5g(m:Mach)(x:Int)(i:Nat)(q:Nat→Bool)(k t:Nat):Bool:=(List.range k).any fun s=>(tb x s&&q s)&&decide (tgt m s i=t)
def zg2(m:Mach)(x:Int)(i:Nat)(q:Nat→Bool):Int:=bmk (z5g m x i q m.rows.length) m.rows.length
theorem z5s{m:Mach}{x:Int}{i:Nat}{q:Nat→Bool}{k t:Nat}:z5g m x i q (k+1) t=(z5g m x i q k t||((tb x k&&q k)&&decide (tgt m k i=t))):=by
 unfold z5g;rw [List.range_succ,List.any_append];simp
theorem zqq{m:Mach}{x:Int}{i:Nat}{q:Nat→Bool}{k t:Nat}:z5g m x i q k t=true↔ ∃ s,s<k∧tb x s=true∧q s=true∧tgt m s i=t:=by
 unfold z5g
 rw [List.any_eq_true]
 constructor
 ·rintro⟨s,a,h⟩
  rw [Bool.and_eq_true,Bool.and_eq_true,decide_eq_true_iff] at h
  exact⟨s,List.mem_range.1 a,h.1.1,h.1.2,h.2⟩
 ·rintro⟨s,a,b,c,d⟩
  exact⟨s,List.mem_range.2 a,by rw [b,c,decide_eq_true d];rfl⟩
theorem z9r{m:Mach}(h:CM m){x:Int}{i:Nat}(hi:i<nIn m){q:Nat→Bool}{t:Nat}:tb (zg2 m x i q) t=true↔ ∃ s,s<m.rows.length∧tb x s=true∧q s=true∧tgt m s i=t:=by
 unfold zg2
 rw [z9v,Bool.and_eq_true,decide_eq_true_iff,zqq]
 constructor
 ·rintro⟨_,h⟩;exact h
 ·rintro⟨s,a,b,c,rfl⟩;exact⟨(h.tgt a hi).1,s,a,b,c,rfl⟩
theorem z6y(m:Mach)(x:Int)(i:Nat)(q:Nat→Bool):0≤zg2 m x i q∧zg2 m x i q<((2^m.rows.length:Nat):Int):=z5e _ _
theorem zep{m:Mach}{x:Int}{i k n:Nat}{q:Nat→Bool}(c:tgt m k i<n)(j:n≤16):(if(tb x k&&q k)=true then ior (bmk (z5g m x i q k) n) (mq .u16 1 (tgt m k i:Int)) else bmk (z5g m x i q k) n)=bmk (z5g m x i q (k+1)) n:=by
 obtain⟨a,d⟩:=z5e (z5g m x i q k) n
 by_cases hb:(tb x k&&q k)=true
 ·rw [if_pos hb,z6c (by omega)]
  obtain⟨f,g⟩:=zp9 a d c
  refine zel f g fun s b=>?_
  rw [zr3 a,z9v,decide_eq_true b,Bool.true_and,z5s,hb,Bool.true_and]
  congr 1
  by_cases e:s=tgt m k i
  ·rw [decide_eq_true e,decide_eq_true e.symm]
  ·rw [decide_eq_false e,decide_eq_false (fun h=>e h.symm)]
 ·rw [if_neg hb]
  refine z7o fun s b=>?_
  rw [z5s,show (tb x k&&q k)=false by simpa using hb,Bool.false_and,Bool.or_false]
end GV
end Go.Proofs.Ytjmlpkkbmnjhcaa
