import Derived.Test.YtjmlpkkbmnjhcaaGreatShPlain
import Derived.Test.YtjmlpkkbmnjhcaaGreatShPl
set_option linter.unusedVariables false
set_option linter.unusedSimpArgs false
set_option linter.unusedSectionVars false
namespace Go.Proofs.YtjmlpkkbmnjhcaaGreat
namespace GV
set_option maxRecDepth 100000
theorem z3v{X:List Int}{i j:Int}(hi:okI X i)(a:okI X j):(up (up X i (ix X j)) j (ix X i)).Perm X:=by
 obtain⟨d,e⟩:=hi
 obtain⟨f,g⟩:=a
 have hi':i.toNat<X.length:=by omega
 have hj':j.toNat<X.length:=by omega
 have b:ix X j=X[j.toNat]:=by rw [ztv,List.getD_eq_getElem?_getD,List.getElem?_eq_getElem hj'];rfl
 have c:ix X i=X[i.toNat]:=by rw [ztv,List.getD_eq_getElem?_getD,List.getElem?_eq_getElem hi'];rfl
 rw [b,c]
 exact List.set_set_perm hi' hj'
theorem q09{X Y:List Int}{i:Int}(h:Y.Perm X)(hi:okI X i):okI Y i:=⟨hi.1,by rw [h.length_eq];exact hi.2⟩
theorem zcv(x y:Int): ∃ b,yu 1000000 x y=some b:=by
 unfold yu z6q
 rw [z2r,decide_eq_false (fun h=>h rfl),qh (zaw (by rfl))]
 exact⟨_,rfl⟩
theorem z8l(c:Bool)(x y:Int): ∃ z,gop c (yu 1000000 x y)=some z:=by
 obtain⟨b,a⟩:=zcv x y
 rw [a]
 cases c
 ·exact⟨none,rfl⟩
 ·exact⟨some b,rfl⟩
theorem q0y{x:Int}(h:x≤1000000000):x≤IntKind.u64.max:=Int.le_trans h (by decide)
theorem gH{p:Prop}[Decidable p](h:(true&&((decide p)==true))=true):p:=by simpa using h
theorem sw{x:Int}(h: -1000000≤x∧x≤1000000):in64 x:=j3 (by omega)
/-! ### insertion-/
theorem q4a{a:Int}: ∀ (F:Nat) (j:Int) (X:List Int),0≤a→a≤j→j<X.length→X.length≤100→j-a<F→ ∃ Y,yn 1000000 a F j X=some Y∧Y.Perm X
 |0,j,X,_,_,_,_,h=>by omega
 |F+1,j,X,g,i,k,l,o=>by
  simp only [yn]
  rw [zm (fun h=>by have:=gH h;exact⟨by omega,by omega⟩),zm (fun h=>sw (by omega)),zm (fun h=>by have:=gH h;exact⟨by omega,by omega⟩)]
  obtain⟨y,m⟩:=z8l (true&&(decide (a<j)==true)) (ix X j) (ix X (j-1))
  rw [qh m]
  cases hz:(decide (a<j)&&y.getD default) with
  |false=>exact⟨X,by rw [cond_false],.refl _⟩
  |true=>
   have haj':a<j:=by simp only [Bool.and_eq_true,decide_eq_true_eq] at hz;exact hz.1
   have c:okI X j:=⟨by omega,k⟩
   have d:okI X (j-1):=⟨by omega,by omega⟩
   rw [cond_true,zm (sw (by omega)),zm (sw (by omega)),zm d,zm c,zm c,zm d,zm (sw (by omega))]
   have f:=z3v c d
   have b:=f.length_eq
   obtain⟨Y,n,e⟩:=q4a F (j-1) _ g (by omega) (by rw [b];omega) (by rw [b];exact l) (by omega)
   exact⟨Y,n,e.trans f⟩
theorem q4o{a b:Int}: ∀ (F:Nat) (i:Int) (X:List Int),0≤a→a≤i→b≤X.length→X.length≤100→b-i<F→0<F→i≤200→ ∃ Y,yl 1000000 a b F i X=some Y∧Y.Perm X
 |0,i,X,_,_,_,_,_,h,_=>by omega
 |F+1,i,X,f,d,k,g,n,_,o=>by
  simp only [yl]
  by_cases h:i<b
  ·obtain⟨Y,l,j⟩:=q4a (a:=a) 1000000 i X f d (by omega) g (by omega)
   have c:=j.length_eq
   rw [ut h,qh l,zm (sw (by omega))]
   obtain⟨Z,m,e⟩:=q4o F (i+1) Y f (by omega) (by rw [c];exact k) (by rw [c];exact g) (by omega) (by omega) (by omega)
   exact⟨Z,m,e.trans j⟩
  ·rw [ul h];exact⟨X,rfl,.refl _⟩
theorem q51{a b:Int}{X:List Int}(c:0≤a)(d:a≤100)(e:b≤X.length)(f:X.length≤100): ∃ Y,ru 1000000 X a b=some Y∧Y.Perm X:=by
 unfold ru
 rw [zm (sw (by omega))]
 exact q4o 1000000 (a+1) X c (by omega) e f (by omega) (by omega) (by omega)
/-! ### heap-/
theorem zzc{hi first:Int}: ∀ (F:Nat) (r:Int) (X:List Int),0≤r→r≤200→0≤first→first+hi≤X.length→X.length≤100→0≤hi→hi-r<F→0<F→ ∃ Y,bq 1000000 hi first F r X=some Y∧Y.Perm X
 |0,r,X,_,_,_,_,_,_,_,h=>by omega
 |F+1,r,X,u,l,m,n,o,f,v,_=>by
  simp only [bq]
  rw [zm (sw (by omega)),zm (sw (by omega))]
  by_cases h:hi≤2*r+1
  ·rw [ut h];exact⟨X,rfl,.refl _⟩
  ·rw [ul h]
   have g: ∃ c,(bd (gop (true&&((decide (((((2:Int)*r)+1)+1)<hi))==true)) (yu 1000000 (ix X (first+(((2:Int)*r)+1))) (ix X ((first+(((2:Int)*r)+1))+1)))) fun i=>
    bif (decide (((((2:Int)*r)+1)+1)<hi))&&(i.getD default) then(
    gd (in64 ((((2:Int)*r)+1)+1))<|
    some ((((2:Int)*r)+1)+1)) else(
    some (((2:Int)*r)+1)))=some c∧r<c∧c<hi:=by
    obtain⟨y,p⟩:=z8l (true&&((decide (((((2:Int)*r)+1)+1)<hi))==true)) (ix X (first+(((2:Int)*r)+1))) (ix X ((first+(((2:Int)*r)+1))+1))
    rw [qh p]
    cases hz:(decide (((((2:Int)*r)+1)+1)<hi))&&(y.getD default) with
    |false=>exact⟨_,by rw [cond_false],by omega,by omega⟩
    |true=>
     have w:2*r+1+1<hi:=by simp only [Bool.and_eq_true,decide_eq_true_eq] at hz;exact hz.1
     exact⟨_,by rw [cond_true,zm (sw (by omega))],by omega,by omega⟩
   obtain⟨c,q,x,z⟩:=g
   rw [zm (sw (by omega)),zm (fun h=>sw (by omega)),zm (fun h=>by have:=gH h;exact⟨by omega,by omega⟩),zm (fun h=>sw (by omega)),zm (fun h=>sw (by omega)),zm (fun h=>by have:=gH h;exact⟨by omega,by omega⟩),qh q]
   have d:okI X (first+r):=⟨by omega,by omega⟩
   have e:okI X (first+c):=⟨by omega,by omega⟩
   rw [zm (sw (by omega)),zm d,zm (sw (by omega)),zm e]
   obtain⟨b,s⟩:=zcv (ix X (first+r)) (ix X (first+c))
   rw [qh s]
   cases b
   ·exact⟨X,rfl,.refl _⟩
   ·have k:=z3v d e
    have a:=k.length_eq
    obtain⟨Y,t,j⟩:=zzc F c _ (by omega) (by omega) m (by rw [a];exact n) (by rw [a];exact o) f (by omega) (by omega)
    refine⟨Y,?_,j.trans k⟩
    refine(cf rfl).trans ?_
    rw [zm (sw (by omega)),zm (sw (by omega)),zm (sw (by omega)),zm e,zm (sw (by omega)),zm d,zm d,zm e]
    exact t
theorem zw2{lo hi first:Int}{X:List Int}(b:0≤lo)(c:lo≤200)(d:0≤first)(e:first+hi≤X.length)(f:X.length≤100)(a:0≤hi): ∃ Y,z0g 1000000 X lo hi first=some Y∧Y.Perm X:=
 zzc 1000000 lo X b c d e f a (by omega) (by omega)
theorem q0e{a b:Int}: ∀ (F:Nat) (i:Int) (X:List Int),0≤a→a≤b→b≤X.length→X.length≤100→ -1≤i→i≤100→i+1<F→ ∃ Y,bv 1000000 a b F i X=some Y∧Y.Perm X
 |0,i,X,_,_,_,_,_,_,h=>by omega
 |F+1,i,X,f,d,k,g,hi,l,o=>by
  simp only [bv]
  by_cases h:0≤i
  ·obtain⟨Y,m,j⟩:=zw2 (lo:=i) (hi:=b-a) (first:=a) (X:=X) h (by omega) f (by omega) g (by omega)
   have c:=j.length_eq
   rw [ut h,qh m,zm (sw (by omega))]
   obtain⟨Z,n,e⟩:=q0e F (i-1) Y f d (by rw [c];exact k) (by rw [c];exact g) (by omega) (by omega) (by omega)
   exact⟨Z,n,e.trans j⟩
  ·rw [ul h];exact⟨X,rfl,.refl _⟩
theorem zz1{a:Int}: ∀ (F:Nat) (i:Int) (X:List Int),0≤a→a+i<X.length→X.length≤100→ -1≤i→i+1<F→ ∃ Y,bi 1000000 a F i X=some Y∧Y.Perm X
 |0,i,X,_,_,_,_,h=>by omega
 |F+1,i,X,e,m,k,hi,p=>by
  simp only [bi]
  by_cases h:0≤i
  ·have f:okI X a:=⟨e,by omega⟩
   have g:okI X (a+i):=⟨by omega,by omega⟩
   have c:=z3v f g
   have b:=c.length_eq
   obtain⟨Y,n,l⟩:=zw2 (lo:=0) (hi:=i) (first:=a) (X:=up (up X a (ix X (a+i))) (a+i) (ix X a)) (by omega) (by omega) e (by rw [b];omega) (by rw [b];exact k) h
   have d:=l.length_eq
   rw [ut h,zm (sw (by omega)),zm (sw (by omega)),zm g,zm f,zm f,zm g,qh n,zm (sw (by omega))]
   obtain⟨Z,o,j⟩:=zz1 F (i-1) Y e (by rw [d,b];omega) (by rw [d,b];exact k) (by omega) (by omega)
   exact⟨Z,o,(j.trans l).trans c⟩
  ·rw [ul h];exact⟨X,rfl,.refl _⟩
theorem q3o{a b:Int}{X:List Int}(e:0≤a)(h:a<b)(i:b≤X.length)(f:X.length≤100): ∃ Y,z0h 1000000 X a b=some Y∧Y.Perm X:=by
 unfold z0h
 obtain⟨Y,j,g⟩:=q0e (a:=a) (b:=b) 1000000 ((b-a-1)/2) X e (by omega) i f (by omega) (by omega) (by omega)
 have c:=g.length_eq
 obtain⟨Z,k,d⟩:=zz1 (a:=a) 1000000 (b-a-1) Y e (by rw [c];omega) (by rw [c];exact f) (by omega) (by omega)
 rw [zm (sw (by omega)),zm (sw (by omega)),zm ⟨by omega,by omega,by decide⟩,qh j,zm (sw (by omega))]
 exact⟨Z,k,d.trans g⟩
/-! ### breaking patterns-/
theorem q3l:(List.range 128).all (fun n=>match z6f 1000000 (n:Int) with|some y=>decide (0≤y∧y≤64)|none=>false)=true:=by decide+kernel
theorem q62{n:Nat}(h:n<128): ∃ y,z6f 1000000 (n:Int)=some y∧0≤y∧y≤64:=by
 have:=List.all_eq_true.1 q3l n (List.mem_range.2 h)
 cases hm:z6f 1000000 (n:Int) with
 |none=>rw [hm] at this;cases this
 |some y=>rw [hm] at this;exact⟨y,rfl,by simpa using this⟩
theorem q2u:(List.range 128).all (fun n=>match z1y 1000000 (n:Int) with|some y=>decide (n=0∨(1≤y∧y≤2*(n:Int)))|none=>false)=true:=by decide+kernel
theorem q72{n:Nat}(h:n<128)(a:0<n): ∃ y,z1y 1000000 (n:Int)=some y∧1≤y∧y≤2*(n:Int):=by
 have:=List.all_eq_true.1 q2u n (List.mem_range.2 h)
 cases hm:z1y 1000000 (n:Int) with
 |none=>rw [hm] at this;cases this
 |some y=>
  rw [hm] at this
  refine⟨y,rfl,?_⟩
  simp only [decide_eq_true_eq] at this
  rcases this with h|h
  ·omega
  ·exact h
def zjy(x:Int):Prop:=0≤x∧x≤IntKind.u64.max
theorem zhu{x y:Int}:zjy (z0k .u64 x y):=by
 unfold zjy z0k
 simp only [IntKind.wrap,IntKind.max,IntKind.signed,IntKind.bits]
 simp
 omega
theorem zrj{x y:Int}(h:zjy x):zjy (qg x y):=by
 unfold zjy qg at*
 rw [Int.fdiv_eq_ediv_of_nonneg _ (Int.le_of_lt (Int.pow_pos (by decide)))]
 exact⟨Int.ediv_nonneg h.1 (Int.le_of_lt (Int.pow_pos (by decide))),Int.le_trans (Int.ediv_le_self _ h.1) h.2⟩
theorem zls{x y:Int}(c:zjy x)(d:zjy y):zjy (z1s x y):=by
 refine⟨Int.natCast_nonneg _,?_⟩
 exact zp3 (k:= .u64) (f:=fun a b=>a^^^b) (fun n a b e g=>Nat.xor_lt_two_pow e g) ⟨c,d⟩
theorem q3k{r:Int}(h:zjy r): ∃ y,z4g 1000000 r=some (y,y)∧zjy y:=by
 unfold z4g
 have a:=zls h (zhu (x:=r) (y:=13))
 have b:=zls a (zrj (y:=7) a)
 have c:=zls b (zhu (x:=z1s (z1s r (z0k .u64 r 13)) (qg (z1s r (z0k .u64 r 13)) 7)) (y:=17))
 rw [zm ⟨by decide,by decide⟩,zm ⟨h,zhu⟩,zm ⟨by decide,by decide⟩,zm ⟨a,zrj a⟩,zm ⟨by decide,by decide⟩,zm ⟨b,zhu⟩]
 exact⟨_,rfl,c⟩
theorem q43{x y:Int}(a:0≤y):0≤zn x y∧zn x y≤y:=by
 unfold zn
 have:x.toNat&&&y.toNat≤y.toNat:=Nat.and_le_right
 omega
theorem zvh{a b p:Int}(s:0≤a)(t:8≤b-a)(e:1≤p)(f:p≤2*(b-a)): ∀ (F:Nat) (i:Int) (X:List Int) (r:Int),b≤X.length→X.length≤100→a+(b-a)/4*2-1≤i→i≤a+(b-a)/4*2+2→a+(b-a)/4*2+2-i<F→zjy r→ ∃ Y,ym 1000000 a b p F i X r=some Y∧Y.Perm X
 |0,i,X,r,_,_,_,_,h,_=>by omega
 |F+1,i,X,r,u,v,hi,w,E,z=>by
  simp only [ym]
  rw [zm ⟨by omega,by omega,by decide⟩,zm (sw (by omega)),zm (sw (by omega)),zm (sw (by omega))]
  by_cases h:i≤a+(b-a)/4*2+1
  ·obtain⟨y,A,c⟩:=q3k z
   have B:IntKind.u64.wrap (p-1)=p-1:=z8r .u64 (by omega) (q0y (by omega))
   have n:=q43 (x:=y) (y:=p-1) (by omega)
   rw [ut h,qh A,B]
   dsimp only
   have g:zjy (p-1):=⟨by omega,q0y (by omega)⟩
   rw [zm ⟨c,g⟩,zm (sw (by omega))]
   have j: ∃ o,(bif decide ((b-a)≤zn y (p-1)) then(gd (in64 (zn y (p-1)-(b-a)))<|some (zn y (p-1)-(b-a))) else some (zn y (p-1)))=some o∧0≤o∧o<b-a:=by
    by_cases hc:b-a≤zn y (p-1)
    ·exact⟨_,by rw [ut hc,zm (sw (by omega))],by omega,by omega⟩
    ·exact⟨_,by rw [ul hc],by omega,by omega⟩
   obtain⟨o,C,o0,G⟩:=j
   have k:okI X i:=⟨by omega,by omega⟩
   have l:okI X (a+o):=⟨by omega,by omega⟩
   rw [qh C,zm (sw (by omega)),zm (sw (by omega)),zm l,zm k,zm k,zm l,zm (sw (by omega))]
   have q:=z3v k l
   have d:=q.length_eq
   obtain⟨Y,D,m⟩:=zvh s t e f F (i+1) _ y (by rw [d];exact u) (by rw [d];exact v) (by omega) (by omega) (by omega) c
   exact⟨Y,D,m.trans q⟩
  ·rw [ul h];exact⟨X,rfl,.refl _⟩
theorem q1g{a b:Int}{X:List Int}(e:0≤a)(f:a≤b)(g:b≤X.length)(i:X.length≤100): ∃ Y,dm 1000000 X a b=some Y∧Y.Perm X:=by
 unfold dm
 rw [zm (sw (by omega))]
 by_cases h:8≤b-a
 ·obtain⟨n,j⟩: ∃ n:Nat,b-a=(n:Int):=⟨(b-a).toNat,by omega⟩
  obtain⟨p,c,k,d⟩:=q72 (n:=n) (by omega) (by omega)
  rw [ut h]
  rw [←j] at c d
  have l:IntKind.u64.wrap (b-a)=b-a:=z8r .u64 (by omega) (q0y (by omega))
  rw [qh c,zm ⟨by omega,by omega,by decide⟩,zm (sw (by omega)),zm (sw (by omega)),zm (sw (by omega)),l]
  exact zvh e h k d 1000000 _ X _ g i (by omega) (by omega) (by omega) ⟨by omega,q0y (by omega)⟩
 ·rw [ul h];exact⟨X,rfl,.refl _⟩
/-! ### the pivot-/
theorem zix{X:List Int}{a b s:Int}(c:okI X a)(d:okI X b)(e:0≤s∧s≤1000): ∃ y,oh 1000000 X a b s=some y∧((y.1=a∧y.2.1=b)∨(y.1=b∧y.2.1=a))∧0≤y.2.2∧y.2.2≤s+1:=by
 unfold oh
 obtain⟨z,f⟩:=zcv (ix X b) (ix X a)
 rw [zm d,zm c,qh f]
 cases z
 ·exact⟨_,rfl,.inl ⟨rfl,rfl⟩,e.1,by show s≤s+1;omega⟩
 ·rw [cond_true,zm (sw (by omega))]
  exact⟨_,rfl,.inr ⟨rfl,rfl⟩,by show 0≤s+1;omega,by show s+1≤s+1;omega⟩
theorem zo9{X:List Int}{a b c s:Int}(k:okI X a)(l:okI X b)(f:okI X c)(A:0≤s∧s≤100): ∃ y,lw 1000000 X a b c s=some y∧(y.1=a∨y.1=b∨y.1=c)∧0≤y.2∧y.2≤s+3:=by
 unfold lw
 obtain⟨g,m,i,B⟩:=zix k l (s:=s) (by omega)
 have d:okI X g.1∧okI X g.2.1:=by rcases i with⟨p,q⟩|⟨p,q⟩<;>rw [p,q]<;>exact⟨by assumption,by assumption⟩
 obtain⟨h,n,j,C⟩:=zix d.2 f (s:=g.2.2) (by omega)
 have o:okI X h.1∧okI X h.2.1:=by rcases j with⟨p,q⟩|⟨p,q⟩<;>rw [p,q]<;>exact⟨by first|exact d.2|exact f,by first|exact d.2|exact f⟩
 obtain⟨e,r,t,u⟩:=zix d.1 o.1 (s:=h.2.2) (by omega)
 rw [qh m,qh n,qh r]
 refine⟨_,rfl,?_,u.1,by show e.2.2≤s+3;omega⟩
 show e.2.1=a∨e.2.1=b∨e.2.1=c
 rcases i with⟨p,q⟩|⟨p,q⟩<;>rcases j with⟨v,w⟩|⟨v,w⟩<;>rcases t with⟨x,z⟩|⟨x,z⟩<;>omega
theorem zta{X:List Int}{a s:Int}(f:okI X (a-1))(g:okI X (a+1))(n:X.length≤100)(h:0≤s∧s≤100): ∃ y,uk 1000000 X a s=some y∧(a-1≤y.1∧y.1≤a+1)∧0≤y.2∧y.2≤s+3:=by
 obtain⟨i,j⟩:=f
 obtain⟨k,l⟩:=g
 unfold uk
 obtain⟨y,m,e,d⟩:=zo9 (X:=X) (a:=a-1) (b:=a) (c:=a+1) (s:=s) ⟨i,j⟩ ⟨by omega,by omega⟩ ⟨k,l⟩ h
 rw [zm (sw (by omega)),zm (sw (by omega)),qh m]
 exact⟨_,rfl,by show a-1≤y.1∧y.1≤a+1;omega,d⟩
theorem zye{X:List Int}{a b:Int}(z:0≤a)(q:12<b-a)(A:b≤X.length)(i:X.length≤100): ∃ y,lv 1000000 X a b=some y∧a≤y.1∧y.1<b:=by
 unfold lv
 have j:okQ (b-a) 4:=⟨by omega,by omega,by decide⟩
 rw [zm (sw (by omega)),zm j,zm (sw (by omega)),zm (sw (by omega)),zm j,zm (sw (by omega)),zm (sw (by omega)),zm j,zm (sw (by omega)),zm (sw (by omega))]
 have k: ∃ o:Int×Int×Int×Int,(bif decide (50≤(b-a)) then(
  bd (uk 1000000 X (a+(((b-a)/4)*1)) 0) fun e=>
  bd (uk 1000000 X (a+(((b-a)/4)*2)) e.2) fun f=>
  bd (uk 1000000 X (a+(((b-a)/4)*3)) f.2) fun g=>
  some (e.1,f.1,g.1,g.2)) else(
  some (a+(((b-a)/4)*1),a+(((b-a)/4)*2),a+(((b-a)/4)*3),0)))=some o∧(a≤o.1∧o.1<b)∧(a≤o.2.1∧o.2.1<b)∧(a≤o.2.2.1∧o.2.2.1<b)∧0≤o.2.2.2∧o.2.2.2≤9:=by
  by_cases h:50≤b-a
  ·obtain⟨l,r,B,C⟩:=zta (X:=X) (a:=a+(b-a)/4*1) (s:=0) ⟨by omega,by omega⟩ ⟨by omega,by omega⟩ i (by omega)
   obtain⟨n,t,D,E⟩:=zta (X:=X) (a:=a+(b-a)/4*2) (s:=l.2) ⟨by omega,by omega⟩ ⟨by omega,by omega⟩ i (by omega)
   obtain⟨p,u,F,v⟩:=zta (X:=X) (a:=a+(b-a)/4*3) (s:=n.2) ⟨by omega,by omega⟩ ⟨by omega,by omega⟩ i (by omega)
   rw [ut h,qh r,qh t,qh u]
   exact⟨_,rfl,⟨by show a≤l.1;omega,by show l.1<b;omega⟩,⟨by show a≤n.1;omega,by show n.1<b;omega⟩,⟨by show a≤p.1;omega,by show p.1<b;omega⟩,v.1,by show p.2≤9;omega⟩
  ·rw [ul h]
   exact⟨_,rfl,⟨by show a≤a+(b-a)/4*1;omega,by show a+(b-a)/4*1<b;omega⟩,⟨by show a≤a+(b-a)/4*2;omega,by show a+(b-a)/4*2<b;omega⟩,⟨by show a≤a+(b-a)/4*3;omega,by show a+(b-a)/4*3<b;omega⟩,by show (0:Int)≤0;omega,by show (0:Int)≤9;omega⟩
 obtain⟨o,w,G,H,I,J⟩:=k
 obtain⟨m,x,em,sm⟩:=zo9 (X:=X) (a:=o.1) (b:=o.2.1) (c:=o.2.2.1) (s:=o.2.2.2) ⟨by omega,by omega⟩ ⟨by omega,by omega⟩ ⟨by omega,by omega⟩ (by omega)
 rw [ut (show (8:Int)≤b-a by omega),qh w,qh x,z2r]
 have d:a≤m.1∧m.1<b:=by omega
 by_cases c1:m.2=0
 ·rw [ut c1];exact⟨_,rfl,d⟩
 ·rw [ul c1]
  by_cases c2:m.2=12
  ·rw [ut c2];exact⟨_,rfl,d⟩
  ·rw [ul c2];exact⟨_,rfl,d⟩
theorem q4k: ∀ (F:Nat) (i j:Int) (X:List Int),0≤i→j<X.length→X.length≤100→i≤200→ -200≤j→j-i<F→0<F→ ∃ Y,yw 1000000 F i j X=some Y∧Y.Perm X
 |0,i,j,X,_,_,_,_,_,_,h=>by omega
 |F+1,i,j,X,hi,f,g,k,l,n,_=>by
  simp only [yw]
  by_cases h:i<j
  ·have b:okI X i:=⟨hi,by omega⟩
   have c:okI X j:=⟨by omega,f⟩
   rw [ut h,zm c,zm b,zm b,zm c,zm (sw (by omega)),zm (sw (by omega))]
   have e:=z3v b c
   have a:=e.length_eq
   obtain⟨Y,m,d⟩:=q4k F (i+1) (j-1) _ (by omega) (by rw [a];omega) (by rw [a];exact g) (by omega) (by omega) (by omega) (by omega)
   exact⟨Y,m,d.trans e⟩
  ·rw [ul h];exact⟨X,rfl,.refl _⟩
theorem q6g{a b:Int}{X:List Int}(c:0≤a)(d:a<b)(f:b≤X.length)(e:X.length≤100): ∃ Y,nu 1000000 X a b=some Y∧Y.Perm X:=by
 unfold nu
 rw [zm (sw (by omega))]
 exact q4k 1000000 a (b-1) X c (by omega) e (by omega) (by omega) (by omega) (by omega)
/-! ### partial insertion-/
theorem q45{b:Int}{X:List Int}(c:b≤X.length)(d:X.length≤100): ∀ (F:Nat) (i:Int),1≤i→i≤b→b-i<F→ ∃ o,uu 1000000 b X F i=some o∧i≤o∧o≤b
 |0,i,_,_,h=>by omega
 |F+1,i,hi,a,j=>by
  simp only [uu]
  rw [zm (fun h=>by have:=gH h;exact⟨by omega,by omega⟩),zm (fun h=>sw (by omega)),zm (fun h=>by have:=gH h;exact⟨by omega,by omega⟩)]
  obtain⟨y,e⟩:=z8l (true&&((decide (i<b))==true)) (ix X i) (ix X (i-1))
  rw [qh e]
  cases hz:(decide (i<b)&&(!(y.getD default))) with
  |false=>exact⟨i,by rw [cond_false],by omega,a⟩
  |true=>
   have hib':i<b:=by simp only [Bool.and_eq_true,decide_eq_true_eq] at hz;exact hz.1
   rw [cond_true,zm (sw (by omega))]
   obtain⟨o,f,k,g⟩:=q45 c d F (i+1) (by omega) (by omega) (by omega)
   exact⟨o,f,by omega,g⟩
theorem q4l: ∀ (F:Nat) (j:Int) (X:List Int),0≤j→j<X.length→X.length≤100→j<F→ ∃ Y,uh 1000000 F j X=some Y∧Y.Perm X
 |0,j,X,_,_,_,h=>by omega
 |F+1,j,X,g,d,i,m=>by
  simp only [uh]
  by_cases h:1≤j
  ·have b:okI X j:=⟨g,d⟩
   have c:okI X (j-1):=⟨by omega,by omega⟩
   obtain⟨z,k⟩:=zcv (ix X j) (ix X (j-1))
   rw [ut h,zm b,zm (sw (by omega)),zm c,qh k]
   cases z
   ·exact⟨X,rfl,.refl _⟩
   ·have f:=z3v b c
    have a:=f.length_eq
    obtain⟨Y,l,e⟩:=q4l F (j-1) _ (by omega) (by rw [a];omega) (by rw [a];exact i) (by omega)
    refine⟨Y,(cf rfl).trans ?_,e.trans f⟩
    rw [zm (sw (by omega)),zm (sw (by omega)),zm c,zm b,zm b,zm c,zm (sw (by omega))]
    exact l
  ·rw [ul h];exact⟨X,rfl,.refl _⟩
theorem q48{b o:Int}: ∀ (F:Nat) (j:Int) (X:List Int),1≤j→b≤X.length→X.length≤100→j≤200→b-j<F→0<F→ ∃ Y,ug 1000000 b o F j X=some (Ex.go (o,Y))∧Y.Perm X
 |0,j,X,_,_,_,_,_,h=>by omega
 |F+1,j,X,n,g,i,k,p,_=>by
  simp only [ug]
  by_cases h:j<b
  ·have c:okI X j:=⟨by omega,by omega⟩
   have d:okI X (j-1):=⟨by omega,by omega⟩
   obtain⟨z,l⟩:=zcv (ix X j) (ix X (j-1))
   rw [ut h,zm c,zm (sw (by omega)),zm d,qh l]
   cases z
   ·exact⟨X,rfl,.refl _⟩
   ·have f:=z3v c d
    have a:=f.length_eq
    obtain⟨Y,m,e⟩:=q48 F (j+1) _ (by omega) (by rw [a];exact g) (by rw [a];exact i) (by omega) (by omega) (by omega)
    refine⟨Y,(cf rfl).trans ?_,e.trans f⟩
    rw [zm (sw (by omega)),zm (sw (by omega)),zm d,zm c,zm c,zm d,zm (sw (by omega))]
    exact m
  ·rw [ul h];exact⟨X,rfl,.refl _⟩
theorem q4p{a b:Int}(v:0≤a): ∀ (F:Nat) (i k:Int) (X:List Int),a+1≤i→i≤b→b≤X.length→X.length≤100→0≤k→k≤5→5-k<F→ ∃ q,uo 1000000 a b F i k X=some q∧((∃ Y,q=Ex.go Y∧Y.Perm X)∨ ∃ z Y,q=Ex.rt (z,Y)∧Y.Perm X)
 |0,i,k,X,_,_,_,_,_,_,h=>by omega
 |F+1,i,k,X,hi,m,n,l,D,w,E=>by
  simp only [uo]
  by_cases h:k<5
  ·obtain⟨o,x,G,y⟩:=q45 (X:=X) n l 1000000 i (by omega) m (by omega)
   rw [ut h,qh x]
   by_cases c1:o=b
   ·rw [ut c1];exact⟨_,rfl,.inr ⟨true,X,rfl,.refl _⟩⟩
   ·rw [ul c1,zm (sw (by omega))]
    by_cases c2:b-a<50
    ·rw [ut c2];exact⟨_,rfl,.inr ⟨false,X,rfl,.refl _⟩⟩
    ·rw [ul c2]
     have p:okI X o:=⟨by omega,by omega⟩
     have r:okI X (o-1):=⟨by omega,by omega⟩
     have d:=z3v p r
     have c:=d.length_eq
     rw [zm (sw (by omega)),zm (sw (by omega)),zm r,zm p,zm p,zm r]
     generalize hX0:up (up X o (ix X (o-1))) (o-1) (ix X o)=X0 at d c
     have s: ∃ Y,(gd (in64 (o-a))<|bif decide (2≤(o-a)) then(gd (in64 (o-1))<|uh 1000000 1000000 (o-1) X0) else some X0)=some Y∧Y.Perm X0:=by
      rw [zm (sw (by omega))]
      by_cases c3:2≤o-a
      ·rw [ut c3,zm (sw (by omega))]
       exact q4l 1000000 (o-1) X0 (by omega) (by rw [c];omega) (by rw [c];exact l) (by omega)
      ·rw [ul c3];exact⟨X0,rfl,.refl _⟩
     obtain⟨Y,A,f⟩:=s
     have hley:=f.length_eq
     rw [qh A,zm (sw (by omega))]
     have g: ∃ Z,(bif decide (2≤(b-o)) then(gd (in64 (o+1))<|ug 1000000 b o 1000000 (o+1) Y) else some (Ex.go (o,Y)))=some (Ex.go (o,Z))∧Z.Perm Y:=by
      by_cases c3:2≤b-o
      ·rw [ut c3,zm (sw (by omega))]
       exact q48 1000000 (o+1) Y (by omega) (by rw [hley,c];exact n) (by rw [hley,c];exact l) (by omega) (by omega) (by omega)
      ·rw [ul c3];exact⟨Y,rfl,.refl _⟩
     obtain⟨Z,B,j⟩:=g
     have hlez:=j.length_eq
     rw [qh B,z6z,zm (sw (by omega))]
     have hpall:Z.Perm X:=(j.trans f).trans d
     obtain⟨q,C,t⟩:=q4p v F o (k+1) Z (by omega) y (by rw [hlez,hley,c];exact n) (by rw [hlez,hley,c];exact l) (by omega) (by omega) (by omega)
     refine⟨q,C,?_⟩
     rcases t with⟨W,e,u⟩|⟨z,W,e,u⟩
     ·exact .inl ⟨W,e,u.trans hpall⟩
     ·exact .inr ⟨z,W,e,u.trans hpall⟩
  ·rw [ul h];exact⟨_,rfl,.inl ⟨X,rfl,.refl _⟩⟩
theorem q6j{a b:Int}{X:List Int}(e:0≤a)(f:a<b)(g:b≤X.length)(h:X.length≤100): ∃ y,yt 1000000 X a b=some y∧y.2.Perm X:=by
 unfold yt
 obtain⟨q,i,c⟩:=q4p (b:=b) e 1000000 (a+1) 0 X (by omega) (by omega) g h (by omega) (by omega) (by omega)
 rw [zm (sw (by omega)),qh i]
 rcases c with⟨W,rfl,d⟩|⟨z,W,rfl,d⟩
 ·exact⟨_,rfl,d⟩
 ·exact⟨_,rfl,d⟩
end GV
end Go.Proofs.YtjmlpkkbmnjhcaaGreat
