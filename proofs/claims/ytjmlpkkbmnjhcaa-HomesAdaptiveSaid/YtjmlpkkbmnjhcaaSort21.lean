import Derived.Test.YtjmlpkkbmnjhcaaShPlain
import Derived.Test.YtjmlpkkbmnjhcaaShPl
set_option linter.unusedVariables false
set_option linter.unusedSimpArgs false
set_option linter.unusedSectionVars false
namespace Go.Proofs.Ytjmlpkkbmnjhcaa
namespace GV
set_option maxRecDepth 100000
theorem z0k{X:List Int}{i j:Int}(hi:okI X i)(a:okI X j):(up (up X i (ix X j)) j (ix X i)).Perm X:=by
 obtain⟨d,e⟩:=hi
 obtain⟨f,g⟩:=a
 have hi':i.toNat<X.length:=by omega
 have hj':j.toNat<X.length:=by omega
 have b:ix X j=X[j.toNat]:=by rw [zq4,List.getD_eq_getElem?_getD,List.getElem?_eq_getElem hj'];rfl
 have c:ix X i=X[i.toNat]:=by rw [zq4,List.getD_eq_getElem?_getD,List.getElem?_eq_getElem hi'];rfl
 rw [b,c]
 exact List.set_set_perm hi' hj'
theorem zrb{X Y:List Int}{i:Int}(h:Y.Perm X)(hi:okI X i):okI Y i:=⟨hi.1,by rw [h.length_eq];exact hi.2⟩
theorem z94(x y:Int): ∃ b,uw 1000000 x y=some b:=by
 unfold uw z2e
 rw [z2z,decide_eq_false (fun h=>h rfl),qh (zna (by rfl))]
 exact⟨_,rfl⟩
theorem z4a(c:Bool)(x y:Int): ∃ z,gop c (uw 1000000 x y)=some z:=by
 obtain⟨b,a⟩:=z94 x y
 rw [a]
 cases c
 ·exact⟨none,rfl⟩
 ·exact⟨some b,rfl⟩
theorem zq1{x:Int}(h:x≤1000000000):x≤IntKind.u64.max:=Int.le_trans h (by decide)
theorem gH{p:Prop}[Decidable p](h:(true&&((decide p)==true))=true):p:=by simpa using h
theorem dz{x:Int}(h: -1000000≤x∧x≤1000000):in64 x:=jc (by omega)
/-! ### insertion-/
theorem zv5{a:Int}: ∀ (F:Nat) (j:Int) (X:List Int),0≤a→a≤j→j<X.length→X.length≤100→j-a<F→ ∃ Y,uo 1000000 a F j X=some Y∧Y.Perm X
 |0,j,X,_,_,_,_,h=>by omega
 |F+1,j,X,g,i,k,l,o=>by
  simp only [uo]
  rw [zk (fun h=>by have:=gH h;exact⟨by omega,by omega⟩),zk (fun h=>dz (by omega)),zk (fun h=>by have:=gH h;exact⟨by omega,by omega⟩)]
  obtain⟨y,m⟩:=z4a (true&&(decide (a<j)==true)) (ix X j) (ix X (j-1))
  rw [qh m]
  cases hz:(decide (a<j)&&y.getD default) with
  |false=>exact⟨X,by rw [cond_false],.refl _⟩
  |true=>
   have haj':a<j:=by simp only [Bool.and_eq_true,decide_eq_true_eq] at hz;exact hz.1
   have c:okI X j:=⟨by omega,k⟩
   have d:okI X (j-1):=⟨by omega,by omega⟩
   rw [cond_true,zk (dz (by omega)),zk (dz (by omega)),zk d,zk c,zk c,zk d,zk (dz (by omega))]
   have f:=z0k c d
   have b:=f.length_eq
   obtain⟨Y,n,e⟩:=zv5 F (j-1) _ g (by omega) (by rw [b];omega) (by rw [b];exact l) (by omega)
   exact⟨Y,n,e.trans f⟩
theorem zut{a b:Int}: ∀ (F:Nat) (i:Int) (X:List Int),0≤a→a≤i→b≤X.length→X.length≤100→b-i<F→0<F→i≤200→ ∃ Y,um 1000000 a b F i X=some Y∧Y.Perm X
 |0,i,X,_,_,_,_,_,h,_=>by omega
 |F+1,i,X,f,d,k,g,n,_,o=>by
  simp only [um]
  by_cases h:i<b
  ·obtain⟨Y,l,j⟩:=zv5 (a:=a) 1000000 i X f d (by omega) g (by omega)
   have c:=j.length_eq
   rw [ny h,qh l,zk (dz (by omega))]
   obtain⟨Z,m,e⟩:=zut F (i+1) Y f (by omega) (by rw [c];exact k) (by rw [c];exact g) (by omega) (by omega) (by omega)
   exact⟨Z,m,e.trans j⟩
  ·rw [di h];exact⟨X,rfl,.refl _⟩
theorem zvu{a b:Int}{X:List Int}(c:0≤a)(d:a≤100)(e:b≤X.length)(f:X.length≤100): ∃ Y,ng 1000000 X a b=some Y∧Y.Perm X:=by
 unfold ng
 rw [zk (dz (by omega))]
 exact zut 1000000 (a+1) X c (by omega) e f (by omega) (by omega) (by omega)
/-! ### heap-/
theorem zrw{hi first:Int}: ∀ (F:Nat) (r:Int) (X:List Int),0≤r→r≤200→0≤first→first+hi≤X.length→X.length≤100→0≤hi→hi-r<F→0<F→ ∃ Y,yj 1000000 hi first F r X=some Y∧Y.Perm X
 |0,r,X,_,_,_,_,_,_,_,h=>by omega
 |F+1,r,X,u,l,m,n,o,f,v,_=>by
  simp only [yj]
  rw [zk (dz (by omega)),zk (dz (by omega))]
  by_cases h:hi≤2*r+1
  ·rw [ny h];exact⟨X,rfl,.refl _⟩
  ·rw [di h]
   have g: ∃ c,(bd (gop (true&&((decide (((((2:Int)*r)+1)+1)<hi))==true)) (uw 1000000 (ix X (first+(((2:Int)*r)+1))) (ix X ((first+(((2:Int)*r)+1))+1)))) fun i=>
    bif (decide (((((2:Int)*r)+1)+1)<hi))&&(i.getD default) then(
    gd (in64 ((((2:Int)*r)+1)+1))<|
    some ((((2:Int)*r)+1)+1)) else(
    some (((2:Int)*r)+1)))=some c∧r<c∧c<hi:=by
    obtain⟨y,p⟩:=z4a (true&&((decide (((((2:Int)*r)+1)+1)<hi))==true)) (ix X (first+(((2:Int)*r)+1))) (ix X ((first+(((2:Int)*r)+1))+1))
    rw [qh p]
    cases hz:(decide (((((2:Int)*r)+1)+1)<hi))&&(y.getD default) with
    |false=>exact⟨_,by rw [cond_false],by omega,by omega⟩
    |true=>
     have w:2*r+1+1<hi:=by simp only [Bool.and_eq_true,decide_eq_true_eq] at hz;exact hz.1
     exact⟨_,by rw [cond_true,zk (dz (by omega))],by omega,by omega⟩
   obtain⟨c,q,x,z⟩:=g
   rw [zk (dz (by omega)),zk (fun h=>dz (by omega)),zk (fun h=>by have:=gH h;exact⟨by omega,by omega⟩),zk (fun h=>dz (by omega)),zk (fun h=>dz (by omega)),zk (fun h=>by have:=gH h;exact⟨by omega,by omega⟩),qh q]
   have d:okI X (first+r):=⟨by omega,by omega⟩
   have e:okI X (first+c):=⟨by omega,by omega⟩
   rw [zk (dz (by omega)),zk d,zk (dz (by omega)),zk e]
   obtain⟨b,s⟩:=z94 (ix X (first+r)) (ix X (first+c))
   rw [qh s]
   cases b
   ·exact⟨X,rfl,.refl _⟩
   ·have k:=z0k d e
    have a:=k.length_eq
    obtain⟨Y,t,j⟩:=zrw F c _ (by omega) (by omega) m (by rw [a];exact n) (by rw [a];exact o) f (by omega) (by omega)
    refine⟨Y,?_,j.trans k⟩
    refine(cf rfl).trans ?_
    rw [zk (dz (by omega)),zk (dz (by omega)),zk (dz (by omega)),zk e,zk (dz (by omega)),zk d,zk d,zk e]
    exact t
theorem zn2{lo hi first:Int}{X:List Int}(b:0≤lo)(c:lo≤200)(d:0≤first)(e:first+hi≤X.length)(f:X.length≤100)(a:0≤hi): ∃ Y,au 1000000 X lo hi first=some Y∧Y.Perm X:=
 zrw 1000000 lo X b c d e f a (by omega) (by omega)
theorem zsd{a b:Int}: ∀ (F:Nat) (i:Int) (X:List Int),0≤a→a≤b→b≤X.length→X.length≤100→ -1≤i→i≤100→i+1<F→ ∃ Y,yo 1000000 a b F i X=some Y∧Y.Perm X
 |0,i,X,_,_,_,_,_,_,h=>by omega
 |F+1,i,X,f,d,k,g,hi,l,o=>by
  simp only [yo]
  by_cases h:0≤i
  ·obtain⟨Y,m,j⟩:=zn2 (lo:=i) (hi:=b-a) (first:=a) (X:=X) h (by omega) f (by omega) g (by omega)
   have c:=j.length_eq
   rw [ny h,qh m,zk (dz (by omega))]
   obtain⟨Z,n,e⟩:=zsd F (i-1) Y f d (by rw [c];exact k) (by rw [c];exact g) (by omega) (by omega) (by omega)
   exact⟨Z,n,e.trans j⟩
  ·rw [di h];exact⟨X,rfl,.refl _⟩
theorem zrp{a:Int}: ∀ (F:Nat) (i:Int) (X:List Int),0≤a→a+i<X.length→X.length≤100→ -1≤i→i+1<F→ ∃ Y,yt 1000000 a F i X=some Y∧Y.Perm X
 |0,i,X,_,_,_,_,h=>by omega
 |F+1,i,X,e,m,k,hi,p=>by
  simp only [yt]
  by_cases h:0≤i
  ·have f:okI X a:=⟨e,by omega⟩
   have g:okI X (a+i):=⟨by omega,by omega⟩
   have c:=z0k f g
   have b:=c.length_eq
   obtain⟨Y,n,l⟩:=zn2 (lo:=0) (hi:=i) (first:=a) (X:=up (up X a (ix X (a+i))) (a+i) (ix X a)) (by omega) (by omega) e (by rw [b];omega) (by rw [b];exact k) h
   have d:=l.length_eq
   rw [ny h,zk (dz (by omega)),zk (dz (by omega)),zk g,zk f,zk f,zk g,qh n,zk (dz (by omega))]
   obtain⟨Z,o,j⟩:=zrp F (i-1) Y e (by rw [d,b];omega) (by rw [d,b];exact k) (by omega) (by omega)
   exact⟨Z,o,(j.trans l).trans c⟩
  ·rw [di h];exact⟨X,rfl,.refl _⟩
theorem zul{a b:Int}{X:List Int}(e:0≤a)(h:a<b)(i:b≤X.length)(f:X.length≤100): ∃ Y,ak 1000000 X a b=some Y∧Y.Perm X:=by
 unfold ak
 obtain⟨Y,j,g⟩:=zsd (a:=a) (b:=b) 1000000 ((b-a-1)/2) X e (by omega) i f (by omega) (by omega) (by omega)
 have c:=g.length_eq
 obtain⟨Z,k,d⟩:=zrp (a:=a) 1000000 (b-a-1) Y e (by rw [c];omega) (by rw [c];exact f) (by omega) (by omega)
 rw [zk (dz (by omega)),zk (dz (by omega)),zk ⟨by omega,by omega,by decide⟩,qh j,zk (dz (by omega))]
 exact⟨Z,k,d.trans g⟩
/-! ### breaking patterns-/
theorem zt9:(List.range 128).all (fun n=>match z1s 1000000 (n:Int) with|some y=>decide (0≤y∧y≤64)|none=>false)=true:=by decide+kernel
theorem zwb{n:Nat}(h:n<128): ∃ y,z1s 1000000 (n:Int)=some y∧0≤y∧y≤64:=by
 have:=List.all_eq_true.1 zt9 n (List.mem_range.2 h)
 cases hm:z1s 1000000 (n:Int) with
 |none=>rw [hm] at this;cases this
 |some y=>rw [hm] at this;exact⟨y,rfl,by simpa using this⟩
theorem zu9:(List.range 128).all (fun n=>match ll 1000000 (n:Int) with|some y=>decide (n=0∨(1≤y∧y≤2*(n:Int)))|none=>false)=true:=by decide+kernel
theorem zwi{n:Nat}(h:n<128)(a:0<n): ∃ y,ll 1000000 (n:Int)=some y∧1≤y∧y≤2*(n:Int):=by
 have:=List.all_eq_true.1 zu9 n (List.mem_range.2 h)
 cases hm:ll 1000000 (n:Int) with
 |none=>rw [hm] at this;cases this
 |some y=>
  rw [hm] at this
  refine⟨y,rfl,?_⟩
  simp only [decide_eq_true_eq] at this
  rcases this with h|h
  ·omega
  ·exact h
def zen(x:Int):Prop:=0≤x∧x≤IntKind.u64.max
theorem zd5{x y:Int}:zen (ax .u64 x y):=by
 unfold zen ax
 simp only [IntKind.wrap,IntKind.max,IntKind.signed,IntKind.bits]
 simp
 omega
theorem zkk{x y:Int}(h:zen x):zen (zt x y):=by
 unfold zen zt at*
 rw [Int.fdiv_eq_ediv_of_nonneg _ (Int.le_of_lt (Int.pow_pos (by decide)))]
 exact⟨Int.ediv_nonneg h.1 (Int.le_of_lt (Int.pow_pos (by decide))),Int.le_trans (Int.ediv_le_self _ h.1) h.2⟩
theorem zg4{x y:Int}(c:zen x)(d:zen y):zen (l8 x y):=by
 refine⟨Int.natCast_nonneg _,?_⟩
 exact zij (k:= .u64) (f:=fun a b=>a^^^b) (fun n a b e g=>Nat.xor_lt_two_pow e g) ⟨c,d⟩
theorem ztn{r:Int}(h:zen r): ∃ y,z0r 1000000 r=some (y,y)∧zen y:=by
 unfold z0r
 have a:=zg4 h (zd5 (x:=r) (y:=13))
 have b:=zg4 a (zkk (y:=7) a)
 have c:=zg4 b (zd5 (x:=l8 (l8 r (ax .u64 r 13)) (zt (l8 r (ax .u64 r 13)) 7)) (y:=17))
 rw [zk ⟨by decide,by decide⟩,zk ⟨h,zd5⟩,zk ⟨by decide,by decide⟩,zk ⟨a,zkk a⟩,zk ⟨by decide,by decide⟩,zk ⟨b,zd5⟩]
 exact⟨_,rfl,c⟩
theorem zua{x y:Int}(a:0≤y):0≤ze x y∧ze x y≤y:=by
 unfold ze
 have:x.toNat&&&y.toNat≤y.toNat:=Nat.and_le_right
 omega
theorem znl{a b p:Int}(s:0≤a)(t:8≤b-a)(e:1≤p)(f:p≤2*(b-a)): ∀ (F:Nat) (i:Int) (X:List Int) (r:Int),b≤X.length→X.length≤100→a+(b-a)/4*2-1≤i→i≤a+(b-a)/4*2+2→a+(b-a)/4*2+2-i<F→zen r→ ∃ Y,ut 1000000 a b p F i X r=some Y∧Y.Perm X
 |0,i,X,r,_,_,_,_,h,_=>by omega
 |F+1,i,X,r,u,v,hi,w,E,z=>by
  simp only [ut]
  rw [zk ⟨by omega,by omega,by decide⟩,zk (dz (by omega)),zk (dz (by omega)),zk (dz (by omega))]
  by_cases h:i≤a+(b-a)/4*2+1
  ·obtain⟨y,A,c⟩:=ztn z
   have B:IntKind.u64.wrap (p-1)=p-1:=z4h .u64 (by omega) (zq1 (by omega))
   have n:=zua (x:=y) (y:=p-1) (by omega)
   rw [ny h,qh A,B]
   dsimp only
   have g:zen (p-1):=⟨by omega,zq1 (by omega)⟩
   rw [zk ⟨c,g⟩,zk (dz (by omega))]
   have j: ∃ o,(bif decide ((b-a)≤ze y (p-1)) then(gd (in64 (ze y (p-1)-(b-a)))<|some (ze y (p-1)-(b-a))) else some (ze y (p-1)))=some o∧0≤o∧o<b-a:=by
    by_cases hc:b-a≤ze y (p-1)
    ·exact⟨_,by rw [ny hc,zk (dz (by omega))],by omega,by omega⟩
    ·exact⟨_,by rw [di hc],by omega,by omega⟩
   obtain⟨o,C,o0,G⟩:=j
   have k:okI X i:=⟨by omega,by omega⟩
   have l:okI X (a+o):=⟨by omega,by omega⟩
   rw [qh C,zk (dz (by omega)),zk (dz (by omega)),zk l,zk k,zk k,zk l,zk (dz (by omega))]
   have q:=z0k k l
   have d:=q.length_eq
   obtain⟨Y,D,m⟩:=znl s t e f F (i+1) _ y (by rw [d];exact u) (by rw [d];exact v) (by omega) (by omega) (by omega) c
   exact⟨Y,D,m.trans q⟩
  ·rw [di h];exact⟨X,rfl,.refl _⟩
theorem zql{a b:Int}{X:List Int}(e:0≤a)(f:a≤b)(g:b≤X.length)(i:X.length≤100): ∃ Y,xm 1000000 X a b=some Y∧Y.Perm X:=by
 unfold xm
 rw [zk (dz (by omega))]
 by_cases h:8≤b-a
 ·obtain⟨n,j⟩: ∃ n:Nat,b-a=(n:Int):=⟨(b-a).toNat,by omega⟩
  obtain⟨p,c,k,d⟩:=zwi (n:=n) (by omega) (by omega)
  rw [ny h]
  rw [←j] at c d
  have l:IntKind.u64.wrap (b-a)=b-a:=z4h .u64 (by omega) (zq1 (by omega))
  rw [qh c,zk ⟨by omega,by omega,by decide⟩,zk (dz (by omega)),zk (dz (by omega)),zk (dz (by omega)),l]
  exact znl e h k d 1000000 _ X _ g i (by omega) (by omega) (by omega) ⟨by omega,zq1 (by omega)⟩
 ·rw [di h];exact⟨X,rfl,.refl _⟩
/-! ### the pivot-/
theorem ze1{X:List Int}{a b s:Int}(c:okI X a)(d:okI X b)(e:0≤s∧s≤1000): ∃ y,pq 1000000 X a b s=some y∧((y.1=a∧y.2.1=b)∨(y.1=b∧y.2.1=a))∧0≤y.2.2∧y.2.2≤s+1:=by
 unfold pq
 obtain⟨z,f⟩:=z94 (ix X b) (ix X a)
 rw [zk d,zk c,qh f]
 cases z
 ·exact⟨_,rfl,.inl ⟨rfl,rfl⟩,e.1,by show s≤s+1;omega⟩
 ·rw [cond_true,zk (dz (by omega))]
  exact⟨_,rfl,.inr ⟨rfl,rfl⟩,by show 0≤s+1;omega,by show s+1≤s+1;omega⟩
theorem zhv{X:List Int}{a b c s:Int}(k:okI X a)(l:okI X b)(f:okI X c)(A:0≤s∧s≤100): ∃ y,og 1000000 X a b c s=some y∧(y.1=a∨y.1=b∨y.1=c)∧0≤y.2∧y.2≤s+3:=by
 unfold og
 obtain⟨g,m,i,B⟩:=ze1 k l (s:=s) (by omega)
 have d:okI X g.1∧okI X g.2.1:=by rcases i with⟨p,q⟩|⟨p,q⟩<;>rw [p,q]<;>exact⟨by assumption,by assumption⟩
 obtain⟨h,n,j,C⟩:=ze1 d.2 f (s:=g.2.2) (by omega)
 have o:okI X h.1∧okI X h.2.1:=by rcases j with⟨p,q⟩|⟨p,q⟩<;>rw [p,q]<;>exact⟨by first|exact d.2|exact f,by first|exact d.2|exact f⟩
 obtain⟨e,r,t,u⟩:=ze1 d.1 o.1 (s:=h.2.2) (by omega)
 rw [qh m,qh n,qh r]
 refine⟨_,rfl,?_,u.1,by show e.2.2≤s+3;omega⟩
 show e.2.1=a∨e.2.1=b∨e.2.1=c
 rcases i with⟨p,q⟩|⟨p,q⟩<;>rcases j with⟨v,w⟩|⟨v,w⟩<;>rcases t with⟨x,z⟩|⟨x,z⟩<;>omega
theorem zmd{X:List Int}{a s:Int}(f:okI X (a-1))(g:okI X (a+1))(n:X.length≤100)(h:0≤s∧s≤100): ∃ y,jr 1000000 X a s=some y∧(a-1≤y.1∧y.1≤a+1)∧0≤y.2∧y.2≤s+3:=by
 obtain⟨i,j⟩:=f
 obtain⟨k,l⟩:=g
 unfold jr
 obtain⟨y,m,e,d⟩:=zhv (X:=X) (a:=a-1) (b:=a) (c:=a+1) (s:=s) ⟨i,j⟩ ⟨by omega,by omega⟩ ⟨k,l⟩ h
 rw [zk (dz (by omega)),zk (dz (by omega)),qh m]
 exact⟨_,rfl,by show a-1≤y.1∧y.1≤a+1;omega,d⟩
theorem zr0{X:List Int}{a b:Int}(z:0≤a)(q:12<b-a)(A:b≤X.length)(i:X.length≤100): ∃ y,mr 1000000 X a b=some y∧a≤y.1∧y.1<b:=by
 unfold mr
 have j:okQ (b-a) 4:=⟨by omega,by omega,by decide⟩
 rw [zk (dz (by omega)),zk j,zk (dz (by omega)),zk (dz (by omega)),zk j,zk (dz (by omega)),zk (dz (by omega)),zk j,zk (dz (by omega)),zk (dz (by omega))]
 have k: ∃ o:Int×Int×Int×Int,(bif decide (50≤(b-a)) then(
  bd (jr 1000000 X (a+(((b-a)/4)*1)) 0) fun e=>
  bd (jr 1000000 X (a+(((b-a)/4)*2)) e.2) fun f=>
  bd (jr 1000000 X (a+(((b-a)/4)*3)) f.2) fun g=>
  some (e.1,f.1,g.1,g.2)) else(
  some (a+(((b-a)/4)*1),a+(((b-a)/4)*2),a+(((b-a)/4)*3),0)))=some o∧(a≤o.1∧o.1<b)∧(a≤o.2.1∧o.2.1<b)∧(a≤o.2.2.1∧o.2.2.1<b)∧0≤o.2.2.2∧o.2.2.2≤9:=by
  by_cases h:50≤b-a
  ·obtain⟨l,r,B,C⟩:=zmd (X:=X) (a:=a+(b-a)/4*1) (s:=0) ⟨by omega,by omega⟩ ⟨by omega,by omega⟩ i (by omega)
   obtain⟨n,t,D,E⟩:=zmd (X:=X) (a:=a+(b-a)/4*2) (s:=l.2) ⟨by omega,by omega⟩ ⟨by omega,by omega⟩ i (by omega)
   obtain⟨p,u,F,v⟩:=zmd (X:=X) (a:=a+(b-a)/4*3) (s:=n.2) ⟨by omega,by omega⟩ ⟨by omega,by omega⟩ i (by omega)
   rw [ny h,qh r,qh t,qh u]
   exact⟨_,rfl,⟨by show a≤l.1;omega,by show l.1<b;omega⟩,⟨by show a≤n.1;omega,by show n.1<b;omega⟩,⟨by show a≤p.1;omega,by show p.1<b;omega⟩,v.1,by show p.2≤9;omega⟩
  ·rw [di h]
   exact⟨_,rfl,⟨by show a≤a+(b-a)/4*1;omega,by show a+(b-a)/4*1<b;omega⟩,⟨by show a≤a+(b-a)/4*2;omega,by show a+(b-a)/4*2<b;omega⟩,⟨by show a≤a+(b-a)/4*3;omega,by show a+(b-a)/4*3<b;omega⟩,by show (0:Int)≤0;omega,by show (0:Int)≤9;omega⟩
 obtain⟨o,w,G,H,I,J⟩:=k
 obtain⟨m,x,em,sm⟩:=zhv (X:=X) (a:=o.1) (b:=o.2.1) (c:=o.2.2.1) (s:=o.2.2.2) ⟨by omega,by omega⟩ ⟨by omega,by omega⟩ ⟨by omega,by omega⟩ (by omega)
 rw [ny (show (8:Int)≤b-a by omega),qh w,qh x,z2z]
 have d:a≤m.1∧m.1<b:=by omega
 by_cases c1:m.2=0
 ·rw [ny c1];exact⟨_,rfl,d⟩
 ·rw [di c1]
  by_cases c2:m.2=12
  ·rw [ny c2];exact⟨_,rfl,d⟩
  ·rw [di c2];exact⟨_,rfl,d⟩
theorem zum: ∀ (F:Nat) (i j:Int) (X:List Int),0≤i→j<X.length→X.length≤100→i≤200→ -200≤j→j-i<F→0<F→ ∃ Y,uz 1000000 F i j X=some Y∧Y.Perm X
 |0,i,j,X,_,_,_,_,_,_,h=>by omega
 |F+1,i,j,X,hi,f,g,k,l,n,_=>by
  simp only [uz]
  by_cases h:i<j
  ·have b:okI X i:=⟨hi,by omega⟩
   have c:okI X j:=⟨by omega,f⟩
   rw [ny h,zk c,zk b,zk b,zk c,zk (dz (by omega)),zk (dz (by omega))]
   have e:=z0k b c
   have a:=e.length_eq
   obtain⟨Y,m,d⟩:=zum F (i+1) (j-1) _ (by omega) (by rw [a];omega) (by rw [a];exact g) (by omega) (by omega) (by omega) (by omega)
   exact⟨Y,m,d.trans e⟩
  ·rw [di h];exact⟨X,rfl,.refl _⟩
theorem zwa{a b:Int}{X:List Int}(c:0≤a)(d:a<b)(f:b≤X.length)(e:X.length≤100): ∃ Y,gm 1000000 X a b=some Y∧Y.Perm X:=by
 unfold gm
 rw [zk (dz (by omega))]
 exact zum 1000000 a (b-1) X c (by omega) e (by omega) (by omega) (by omega) (by omega)
/-! ### partial insertion-/
theorem zuu{b:Int}{X:List Int}(c:b≤X.length)(d:X.length≤100): ∀ (F:Nat) (i:Int),1≤i→i≤b→b-i<F→ ∃ o,jy 1000000 b X F i=some o∧i≤o∧o≤b
 |0,i,_,_,h=>by omega
 |F+1,i,hi,a,j=>by
  simp only [jy]
  rw [zk (fun h=>by have:=gH h;exact⟨by omega,by omega⟩),zk (fun h=>dz (by omega)),zk (fun h=>by have:=gH h;exact⟨by omega,by omega⟩)]
  obtain⟨y,e⟩:=z4a (true&&((decide (i<b))==true)) (ix X i) (ix X (i-1))
  rw [qh e]
  cases hz:(decide (i<b)&&(!(y.getD default))) with
  |false=>exact⟨i,by rw [cond_false],by omega,a⟩
  |true=>
   have hib':i<b:=by simp only [Bool.and_eq_true,decide_eq_true_eq] at hz;exact hz.1
   rw [cond_true,zk (dz (by omega))]
   obtain⟨o,f,k,g⟩:=zuu c d F (i+1) (by omega) (by omega) (by omega)
   exact⟨o,f,by omega,g⟩
theorem zux: ∀ (F:Nat) (j:Int) (X:List Int),0≤j→j<X.length→X.length≤100→j<F→ ∃ Y,jm 1000000 F j X=some Y∧Y.Perm X
 |0,j,X,_,_,_,h=>by omega
 |F+1,j,X,g,d,i,m=>by
  simp only [jm]
  by_cases h:1≤j
  ·have b:okI X j:=⟨g,d⟩
   have c:okI X (j-1):=⟨by omega,by omega⟩
   obtain⟨z,k⟩:=z94 (ix X j) (ix X (j-1))
   rw [ny h,zk b,zk (dz (by omega)),zk c,qh k]
   cases z
   ·exact⟨X,rfl,.refl _⟩
   ·have f:=z0k b c
    have a:=f.length_eq
    obtain⟨Y,l,e⟩:=zux F (j-1) _ (by omega) (by rw [a];omega) (by rw [a];exact i) (by omega)
    refine⟨Y,(cf rfl).trans ?_,e.trans f⟩
    rw [zk (dz (by omega)),zk (dz (by omega)),zk c,zk b,zk b,zk c,zk (dz (by omega))]
    exact l
  ·rw [di h];exact⟨X,rfl,.refl _⟩
theorem zv4{b o:Int}: ∀ (F:Nat) (j:Int) (X:List Int),1≤j→b≤X.length→X.length≤100→j≤200→b-j<F→0<F→ ∃ Y,jo 1000000 b o F j X=some (Ex.go (o,Y))∧Y.Perm X
 |0,j,X,_,_,_,_,_,h=>by omega
 |F+1,j,X,n,g,i,k,p,_=>by
  simp only [jo]
  by_cases h:j<b
  ·have c:okI X j:=⟨by omega,by omega⟩
   have d:okI X (j-1):=⟨by omega,by omega⟩
   obtain⟨z,l⟩:=z94 (ix X j) (ix X (j-1))
   rw [ny h,zk c,zk (dz (by omega)),zk d,qh l]
   cases z
   ·exact⟨X,rfl,.refl _⟩
   ·have f:=z0k c d
    have a:=f.length_eq
    obtain⟨Y,m,e⟩:=zv4 F (j+1) _ (by omega) (by rw [a];exact g) (by rw [a];exact i) (by omega) (by omega) (by omega)
    refine⟨Y,(cf rfl).trans ?_,e.trans f⟩
    rw [zk (dz (by omega)),zk (dz (by omega)),zk d,zk c,zk c,zk d,zk (dz (by omega))]
    exact m
  ·rw [di h];exact⟨X,rfl,.refl _⟩
theorem zve{a b:Int}(v:0≤a): ∀ (F:Nat) (i k:Int) (X:List Int),a+1≤i→i≤b→b≤X.length→X.length≤100→0≤k→k≤5→5-k<F→ ∃ q,kg 1000000 a b F i k X=some q∧((∃ Y,q=Ex.go Y∧Y.Perm X)∨ ∃ z Y,q=Ex.rt (z,Y)∧Y.Perm X)
 |0,i,k,X,_,_,_,_,_,_,h=>by omega
 |F+1,i,k,X,hi,m,n,l,D,w,E=>by
  simp only [kg]
  by_cases h:k<5
  ·obtain⟨o,x,G,y⟩:=zuu (X:=X) n l 1000000 i (by omega) m (by omega)
   rw [ny h,qh x]
   by_cases c1:o=b
   ·rw [ny c1];exact⟨_,rfl,.inr ⟨true,X,rfl,.refl _⟩⟩
   ·rw [di c1,zk (dz (by omega))]
    by_cases c2:b-a<50
    ·rw [ny c2];exact⟨_,rfl,.inr ⟨false,X,rfl,.refl _⟩⟩
    ·rw [di c2]
     have p:okI X o:=⟨by omega,by omega⟩
     have r:okI X (o-1):=⟨by omega,by omega⟩
     have d:=z0k p r
     have c:=d.length_eq
     rw [zk (dz (by omega)),zk (dz (by omega)),zk r,zk p,zk p,zk r]
     generalize hX0:up (up X o (ix X (o-1))) (o-1) (ix X o)=X0 at d c
     have s: ∃ Y,(gd (in64 (o-a))<|bif decide (2≤(o-a)) then(gd (in64 (o-1))<|jm 1000000 1000000 (o-1) X0) else some X0)=some Y∧Y.Perm X0:=by
      rw [zk (dz (by omega))]
      by_cases c3:2≤o-a
      ·rw [ny c3,zk (dz (by omega))]
       exact zux 1000000 (o-1) X0 (by omega) (by rw [c];omega) (by rw [c];exact l) (by omega)
      ·rw [di c3];exact⟨X0,rfl,.refl _⟩
     obtain⟨Y,A,f⟩:=s
     have hley:=f.length_eq
     rw [qh A,zk (dz (by omega))]
     have g: ∃ Z,(bif decide (2≤(b-o)) then(gd (in64 (o+1))<|jo 1000000 b o 1000000 (o+1) Y) else some (Ex.go (o,Y)))=some (Ex.go (o,Z))∧Z.Perm Y:=by
      by_cases c3:2≤b-o
      ·rw [ny c3,zk (dz (by omega))]
       exact zv4 1000000 (o+1) Y (by omega) (by rw [hley,c];exact n) (by rw [hley,c];exact l) (by omega) (by omega) (by omega)
      ·rw [di c3];exact⟨Y,rfl,.refl _⟩
     obtain⟨Z,B,j⟩:=g
     have hlez:=j.length_eq
     rw [qh B,ze3,zk (dz (by omega))]
     have hpall:Z.Perm X:=(j.trans f).trans d
     obtain⟨q,C,t⟩:=zve v F o (k+1) Z (by omega) y (by rw [hlez,hley,c];exact n) (by rw [hlez,hley,c];exact l) (by omega) (by omega) (by omega)
     refine⟨q,C,?_⟩
     rcases t with⟨W,e,u⟩|⟨z,W,e,u⟩
     ·exact .inl ⟨W,e,u.trans hpall⟩
     ·exact .inr ⟨z,W,e,u.trans hpall⟩
  ·rw [di h];exact⟨_,rfl,.inl ⟨X,rfl,.refl _⟩⟩
theorem zvv{a b:Int}{X:List Int}(e:0≤a)(f:a<b)(g:b≤X.length)(h:X.length≤100): ∃ y,uu 1000000 X a b=some y∧y.2.Perm X:=by
 unfold uu
 obtain⟨q,i,c⟩:=zve (b:=b) e 1000000 (a+1) 0 X (by omega) (by omega) g h (by omega) (by omega) (by omega)
 rw [zk (dz (by omega)),qh i]
 rcases c with⟨W,rfl,d⟩|⟨z,W,rfl,d⟩
 ·exact⟨_,rfl,d⟩
 ·exact⟨_,rfl,d⟩
end GV
end Go.Proofs.Ytjmlpkkbmnjhcaa
