
import Derived.Test.YtohjnbajgbdhhaaShFree
import Derived.MapKept
set_option linter.unusedVariables false
set_option linter.unusedSimpArgs false
namespace Go.Proofs.Ytohjnbajgbdhhaa
namespace GV
def NRep{α:Type}(t:Bool)(T:Ty α)(R:RH)(F:Frag)(v:Value)(X:List (List α)):Prop:= ∃ Vs,N2 t T R F v Vs X
theorem NRep.mono{α:Type}{t:Bool}{T:Ty α}{R R':RH}{F:Frag}{v:Value}{X:List (List α)}(h:NRep t T R F v X)(b:RH.le R R'):NRep t T R' F v X:=let⟨Vs,a⟩:=h;⟨Vs,a.mono b⟩
theorem fq{α:Type}{t:Bool}{T:Ty α}{R:RH}{F:Frag}{v:Value}{Vs:List Value}{X:List (List α)}(h:N2 t T R F v Vs X):NRep t T R F v X:=⟨Vs,h⟩
theorem z8z{P:Program}{t:TypeId}{α:Type}{T:Ty α}{b:Bool}(h:TyOk P t (tSl b T)):TyOk P t tHdr:=⟨h.agg,h.size⟩
theorem zab{P:Program}{t e:TypeId}{α:Type}{T:Ty α}{b:Bool}(h:SlOk P t e (tSl b T)):SlOk P t e tHdr:=⟨h.u,z8z h.e⟩
theorem zey{R:RH}{w y:Value}(h:VRep tHdr R w y):w=y:=by obtain⟨cs,⟨rfl,_⟩,rfl⟩:=h;rfl
theorem zld{R:RH}{w:Value}(h:w.oneCell'=true):VRep tHdr R w w:=⟨[w],⟨rfl,h⟩,rfl⟩
theorem zn1{R:RH}{w:Value}(h:w.oneCell'=true):tHdr.rep R [w] w:=⟨rfl,h⟩
theorem z3k{α:Type}{t:Bool}{T:Ty α}{R:RH}{F:Frag}{v:Value}{Vs:List Value}{X:List (List α)}(h:N2 t T R F v Vs X):v.oneCell'=true:=let⟨_,a,_⟩:=h.o;au a
theorem zkv{α:Type}{t:Bool}{T:Ty α}{R:RH}{F:Frag}{v:Value}{Vs:List Value}{X:List (List α)}(h:N2 t T R F v Vs X):v.cells=([v]:List Value).toArray:=let⟨_,a,_⟩:=h.o;z0q a
theorem zp6{α:Type}{t:Bool}{T:Ty α}{R:RH}{F:Frag}{v:Value}{Vs:List Value}{X:List (List α)}(h:N2 t T R F v Vs X){r:Nat}(a:r<X.length)(e:t=true):capOf (Vs.getD r default)=(X.getD r default).length:=
 let⟨_,_,_,_,_,_,_,g⟩:=h;g e r a (fun h=>h)
theorem z6v{v:Value}(h:v.oneCell'=true):v.cells=([v]:List Value).toArray:=by
 cases v<;>first|rfl|(simp [Value.oneCell'] at h;done)
section ops
variable {P : Program} {ρ : Option Nat} {l : Nat → Value} {R : RH} {O : List Frag} {dst : Option Tmp} {ty : TypeId} {pos : String} {after : Array Go.Edge} {g : Option (Nat × Bool)} {α : Type} {t : Bool} {T : Ty α} {F : Frag} {v : Value} {Vs : List Value} {X : List (List α)}
theorem zal{tt e:TypeId}{x ix:Operand}{k:IntKind}{i:Nat}(a:SlOk P tt e tHdr)(b:ev l x=v)(h:N2 t T R F v Vs X)(hi:ev l ix= .int k i)(d:i<X.length):
 Eff P ρ ⟨dst,.indexAddr tt x ix,ty,pos,after,g⟩ l R O (fun v' R' O'=>O'=O∧(fun u _=>z5z tHdr v Vs u i) v' R'):=by
 obtain⟨f0,c,_,f⟩:=h.o
 exact zaw a b c hi (by omega)
theorem zk0{tt:TypeId}{x:Operand}{u:Value}{i j:Nat}(d:TyOk P tt tHdr)(h:N2 t T R F v Vs X)(e:O[j]? =some F)(f:ev l x=u)(k:z5z tHdr v Vs u i)(r:i<X.length):
 Eff P ρ ⟨dst,.load tt x,ty,pos,after,g⟩ l R O (fun v' R' O'=>O'=O∧phX (Vs.getD i default) v' R'):=by
 obtain⟨f0,m,n,s⟩:=h.o
 obtain⟨w,p,q⟩:=zd2 (ρ:=ρ) (P:=P) d m n e f k (getD_some (by omega))
 exact(q dst ty pos after g).eff.mono fun v' R' O' _ ⟨a,b,c⟩=>⟨c,a.trans (zey p)⟩
theorem zgt{tt e:TypeId}{x ix:Operand}{k:IntKind}{i r:Nat}(a:SlOk P tt e T)(h:N2 t T R F v Vs X)(b:r<X.length)(c:ev l x=Vs.getD r default)(hi:ev l ix= .int k i)(d:i<(X.getD r default).length):
 Eff P ρ ⟨dst,.indexAddr tt x ix,ty,pos,after,g⟩ l R O (fun v' R' O'=>O'=O∧(fun u _=>z5z T (Vs.getD r default) (X.getD r default) u i) v' R'):=
 let⟨fk,f,_⟩:=h.row b;zaw a c f hi d
theorem zbx{tt e:TypeId}{at':Array TypeId}{x:Operand}(a:at'[0]? =some tt)(b:P.underlying tt=some (.slice e))(c:ev l x=v)(h:N2 t T R F v Vs X):Val P ρ ⟨dst,.call ⟨.builtin .len,#[x],at'⟩,ty,pos,after,g⟩ l R O (.int .i64 X.length):=by
 obtain⟨f0,d,i,f⟩:=h.o
 rw [←f];exact zbu a b c d
theorem zk8{tt e:TypeId}{at':Array TypeId}{x:Operand}(a:at'[0]? =some tt)(b:P.underlying tt=some (.slice e))(c:ev l x=v)(h:N2 t T R F v Vs X)(d:capOf v=X.length):Val P ρ ⟨dst,.call ⟨.builtin .cap,#[x],at'⟩,ty,pos,after,g⟩ l R O (.int .i64 X.length):=by
 obtain⟨f0,f,i,j⟩:=h.o
 rw [←d];exact zla a b c f
theorem z7e{tt:TypeId}{x y:Operand}{u w:Value}{i r:Nat}{z:α}(c:TyOk P tt T)(h:N2 t T R F v Vs X)(b:r<X.length)(d:ev l x=u)(f:z5z T (Vs.getD r default) (X.getD r default) u i)(hi:i<(X.getD r default).length)
 (k:ev l y=w) (m:VRep T R w z):Eff P ρ ⟨dst,.store tt x y,ty,pos,after,g⟩ l R ([F]++O) (fun v' R' O'=> ∃ Oc,O'=Oc++O∧R'=R∧ ∃ F',Oc=[F']∧N2 t T R F' v Vs (X.set r ((X.getD r default).set i z))):=by
 obtain⟨fk,n,o,p⟩:=h.hole b
 refine zbs (O1:=[fk]) (Or:=minus F fk::O) (fun A w a=>z7p a o) (z7i (j:=0) c n rfl d f hi k m) ?_
 rintro v' R' O1' q ⟨rfl,f',rfl,s⟩ A w a
 refine⟨z05 f' (minus F fk)::O,z4u a,_,rfl,rfl,_,rfl,N2h.fill (u:=default) p b s (zli a) fun e=>?_⟩
 rw [List.length_set];exact zp6 h b e
theorem zbv{f g h:Frag}(a:Apart f g)(b:Apart f h):Apart f (z05 g h):=fun k=>by
 unfold z05
 cases e:g k with
 |none=>exact b k
 |some o=>
  rcases a k with c|c
  ·exact .inl c
  ·rw [e] at c;cases c
theorem zod{f0' f G:Frag}{Fs:List Frag}{r:Nat}{w:Value}{Y:List α}(B:r<X.length)(C:Vs.length=X.length)(D:ORep tHdr R f0' v (Vs.set r w))(E:ORep T R f w Y)(hrow:Rows T R G Vs X Fs (fun _=>False))(u:Apart f0' f)(x:Apart f0' G)(l:Apart f G)
 (m:zdw t Vs X (fun _=>False)) (F:t=true→capOf w=Y.length):N2 t T R (z05 f0' (z05 f G)) v (Vs.set r w) (X.set r Y):=by
 obtain⟨o,a,p⟩:=hrow
 have n: ∀ j,¬(fun(_:Nat)=>False) j:=fun _ h=>h
 have b:Apart f0' (z05 f G):=zbv u x
 have q:Has (z05 f0' (z05 f G)) f:=(z2p b).trans z6k
 have s:Has (z05 f0' (z05 f G)) G:=(z2p b).trans (z2p l)
 have g:=fun j=>z1p (X:=Fs) (j:=j) (y:=f) (d:=emp) (k:=r) (by omega)
 have z:=fun j=>z1p (X:=X) (j:=j) (y:=Y) (d:=default) B
 have A:=fun j=>z1p (X:=Vs) (j:=j) (y:=w) (d:=default) (k:=r) (by omega)
 refine⟨f0',Fs.set r f,by simp [C],D,z6k,⟨by simp [o],fun j b _=>?_,fun i j hi b _ _ c=>?_⟩,fun j b=>?_,fun e j b _=>?_⟩
 ·have hj':j<X.length:=by simpa using b
  rw [g,z,A]
  by_cases e:j=r
  ·subst e;rw [if_pos rfl,if_pos rfl,if_pos rfl];exact⟨E,q⟩
  ·rw [if_neg e,if_neg e,if_neg e];exact⟨(a j hj' (n j)).1,s.trans (a j hj' (n j)).2⟩
 ·have hi':i<X.length:=by simpa using hi
  have hj':j<X.length:=by simpa using b
  rw [g,g]
  by_cases e1:i=r
  ·rw [if_pos e1,if_neg (fun e=>c (e1.trans e.symm))]
   exact(a j hj' (n j)).2.apart l
  ·by_cases e2:j=r
   ·rw [if_neg e1,if_pos e2];exact((a i hi' (n i)).2.apart l).symm
   ·rw [if_neg e1,if_neg e2];exact p i j hi' hj' (n i) (n j) c
 ·have hj':j<X.length:=by simpa using b
  rw [g]
  by_cases e:j=r
  ·rw [if_pos e];exact u
  ·rw [if_neg e];exact(a j hj' (n j)).2.apart x
 ·have hj':j<X.length:=by simpa using b
  rw [z,A]
  by_cases e':j=r
  ·rw [if_pos e',if_pos e'];exact F e
  ·rw [if_neg e',if_neg e'];exact m e j hj' (n j)
theorem zbj{f0:Frag}{Fs:List Frag}(hrow:Rows T R F Vs X Fs (fun _=>False))(a: ∀ j,j<X.length→Apart f0 (Fs.getD j emp)):Rows T R (minus F f0) Vs X Fs (fun _=>False):=
 ⟨hrow.1,fun j b n=>⟨(hrow.2.1 j b n).1,zai (hrow.2.1 j b n).2 (a j b)⟩,hrow.2.2⟩
theorem zfp{tt:TypeId}{x y:Operand}{u w:Value}{r:Nat}{f:Frag}{Y:List α}(n:TyOk P tt tHdr)(h:N2 t T R F v Vs X)(o:r<X.length)(p:ev l x=u)(q:z5z tHdr v Vs u r)(s:ev l y=w)(e:ORep T R f w Y)(z:t=true→capOf w=Y.length):
 Eff P ρ ⟨dst,.store tt x y,ty,pos,after,g⟩ l R ([F,f]++O) (fun v' R' O'=> ∃ Oc,O'=Oc++O∧R'=R∧ ∃ F',Oc=[F']∧N2 t T R F' v (Vs.set r w) (X.set r Y)):=by
 obtain⟨f0,Fs,B,C,a,hrow,b,c⟩:=h
 refine zbs (O1:=[f0]) (Or:=minus F f0::f::O) (fun A w d=>z7p d a) (z7i (j:=0) n C rfl p q (by omega) s (zld (au e))) ?_
 rintro v' R' O1' D ⟨rfl,f',rfl,E⟩ A w' d
 have k:Holds R' (f'::f::minus F f0::(O++A)) w':=wy d ((List.Perm.swap f _ _).cons _)
 obtain⟨m,G⟩:=List.pairwise_cons.1 k.sep
 obtain⟨H,M⟩:=List.pairwise_cons.1 G
 have I:Apart f' f:=fun i=>m f (by simp) i
 have J:Apart f' (minus F f0):=fun i=>m _ (by simp) i
 have K:Apart f (minus F f0):=fun i=>H _ (by simp) i
 refine⟨z05 f' (z05 f (minus F f0))::O,?_,_,rfl,rfl,_,rfl,zod o B E e (zbj hrow b) I J K c z⟩
 have L:Holds R' (f::minus F f0::f'::(O++A)) w':=wy k ((List.Perm.swap f f' _).trans ((List.Perm.swap _ f' _).cons f))
 exact z4u (wy (z4u L) (List.Perm.swap f' _ _))
theorem z0h{β:Type}{X Y:List β}{j:Nat}{d:β}(h:j<X.length):(X++Y).getD j d=X.getD j d:=by
 simp [List.getD_eq_getElem?_getD,List.getElem?_append_left h]
theorem zj4{β:Type}{X:List β}{y d:β}:(X++[y]).getD X.length d=y:=by
 simp [List.getD_eq_getElem?_getD]
theorem z2o{β:Type}{X:List β}{y d:β}{j:Nat}(h:j=X.length):(X++[y]).getD j d=y:=h▸zj4
theorem znl{f0' f G:Frag}{Fs:List Frag}{w v':Value}{Y:List α}(v:Vs.length=X.length)(x:ORep tHdr R f0' v' (Vs++[w]))(y:ORep T R f w Y)(hrow:Rows T R G Vs X Fs (fun _=>False))(s:Apart f0' f)(u:Apart f0' G)(g:Apart f G)
 (k:zdw t Vs X (fun _=>False)) (z:t=true→capOf w=Y.length):N2 t T R (z05 f0' (z05 f G)) v' (Vs++[w]) (X++[Y]):=by
 obtain⟨l,c,m⟩:=hrow
 have n: ∀ j,¬(fun(_:Nat)=>False) j:=fun _ h=>h
 have a:Apart f0' (z05 f G):=zbv s u
 have o:Has (z05 f0' (z05 f G)) f:=(z2p a).trans z6k
 have p:Has (z05 f0' (z05 f G)) G:=(z2p a).trans (z2p g)
 have b: ∀ j,j<(X++[Y]).length→j<X.length∨j=X.length:=fun j a=>by simp at a;omega
 refine⟨f0',Fs++[f],by simp [v],x,z6k,⟨by simp [l],fun j a _=>?_,fun i j hi a _ _ q=>?_⟩,fun j a=>?_,fun e j a _=>?_⟩
 ·rcases b j a with e|e
  ·rw [z0h (by omega),z0h (by omega),z0h e];exact⟨(c j e (n j)).1,p.trans (c j e (n j)).2⟩
  ·rw [z2o (by omega),z2o (by omega),z2o e];exact⟨y,o⟩
 ·rcases b i hi with r|r
  ·rcases b j a with d|d
   ·rw [z0h (by omega),z0h (by omega)];exact m i j r d (n i) (n j) q
   ·rw [z0h (by omega),z2o (by omega)];exact((c i r (n i)).2.apart g).symm
  ·rcases b j a with d|d
   ·rw [z2o (by omega),z0h (by omega)];exact(c j d (n j)).2.apart g
   ·omega
 ·rcases b j a with e|e
  ·rw [z0h (by omega)];exact(c j e (n j)).2.apart u
  ·rw [z2o (by omega)];exact s
 ·rcases b j a with e'|e'
  ·rw [z0h (by omega),z0h e'];exact k e j e' (n j)
  ·rw [z2o (by omega),z2o e'];exact z e
theorem zeo{z:Value}{bytes:Nat}{tt e:TypeId}{x y:Operand}{u w:Value}{f:Frag}{Y:List α}(n:P.underlying tt=some (.slice e))(o:ZeroOk P e tHdr z bytes)(p:ev l x=v)(q:ev l y=u)(h:N2 t T R F v Vs X)(r:ORep T R f w Y)(hu':VRep (ww tHdr) R u [w])
 (s:t=true→capOf w=Y.length) (B:(X.length+1)*bytes≤140737488355328) (C:X.length+1≤9223372036854775807):
 Eff P ρ ⟨dst,.call ⟨.builtin .append,#[x,y],#[tt,tt]⟩,ty,pos,after,g⟩ l R ([F,f]++O) (fun v' R' O'=> ∃ Oc,O'=Oc++O∧R'=R∧ ∃ F',Oc=[F']∧N2 t T R F' v' (Vs++[w]) (X++[Y])):=by
 obtain⟨f0,Fs,a,D,b,hrow,c,d⟩:=h
 refine zbs (O1:=[f0]) (Or:=minus F f0::f::O) (fun A w j=>z7p j b) (z5a (i:=0) n o p q rfl D hu' (by rw [a];simpa using B) (by rw [a];simpa using C)) ?_
 rintro v' R' O1' E ⟨rfl,f',rfl,G⟩ A w' j
 have k:Holds R' (f'::f::minus F f0::(O++A)) w':=wy j ((List.Perm.swap f _ _).cons _)
 obtain⟨m,H⟩:=List.pairwise_cons.1 k.sep
 obtain⟨I,N⟩:=List.pairwise_cons.1 H
 have J:Apart f' f:=fun i=>m f (by simp) i
 have K:Apart f' (minus F f0):=fun i=>m _ (by simp) i
 have L:Apart f (minus F f0):=fun i=>I _ (by simp) i
 refine⟨z05 f' (z05 f (minus F f0))::O,?_,_,rfl,rfl,_,rfl,znl a G r (zbj hrow c) J K L d s⟩
 have M:Holds R' (f::minus F f0::f'::(O++A)) w':=wy k ((List.Perm.swap f f' _).trans ((List.Perm.swap _ f' _).cons f))
 exact z4u (wy (z4u M) (List.Perm.swap f' _ _))
theorem z8d{tt e:TypeId}{bytes:Nat}{x y:Operand}{n:Nat}{k k':IntKind}(h:P.underlying tt=some (.slice e))(i:ZeroOk P e tHdr (.slice none 0 0) bytes)(j:ev l x= .int k n)(m:ev l y= .int k' n)(o:bytes*n≤281474976710656)(p:n≤9223372036854775807):
 Eff P ρ ⟨dst,.makeSlice tt x y,ty,pos,after,g⟩ l R O (fun v R' O'=> ∃ Oc,O'=Oc++O∧R'=R∧ ∃ F,Oc=[F]∧N2 t T R F v (List.replicate n (.slice none 0 0)) (List.replicate n ([]:List α))∧capOf v=n):=
 (zek h i j m (Nat.le_refl _) o p).mono fun v R' O' _ ⟨a,b,f,c,d⟩=>by subst a;exact⟨[f],c,rfl,f,rfl,zmt d,b⟩
theorem z8f{f:FuncId}{c:Operand}{args:List Operand}{at':Array TypeId}{cs vs:List Value}{Oc:List Frag}{post:Value→RH→List Frag→Prop}(a:Enters P f)(b:ev l c= .func (.func f) #[] cs.toArray)(d:args.map (ev l)=vs)(h:CallG P f (vs++cs).toArray R Oc post):
 Eff P ρ ⟨dst,.call ⟨.value c,args.toArray,at'⟩,ty,pos,after,g⟩ l R (Oc++O) (fun v R' O'=> ∃ Oc',O'=Oc'++O∧post v R' Oc'):=
 zje (fs:= #[]) (cs:=cs.toArray) a b (z4t d) (by simp) (List.Perm.refl _) h
end ops
section read
variable {α : Type} {t : Bool} {T : Ty α} {R R1 : RH} {f F : Frag} {v : Value} {Vs : List Value}
theorem zis{X:List α}(h:ORep T R f v X)(a:RH.le R R1)(d: ∀ k o,f k=some o→R1.blk k=some o):VRep (ww T) R1 v X:=by
 rcases h with⟨rfl,rfl,rfl⟩|⟨b,pre,cs,cap,bt,rfl,rfl,g,j,l,c⟩
 ·exact z7v
 ·refine dz.2 ⟨_,cap,rfl,g,fun e=>by(cases e),.inr ⟨b,pre.length,(pre++cs).toArray,bt,(0,0),rfl,d _ _ (x9 _ _),fun i x m=>?_⟩⟩
  rw [z1l]
  exact T.mono a (by simpa [xu] using c i x m)
theorem zg6{X:List α}(h:ORep T R f v X)(a:RH.le R R1)(b: ∀ k o,f k=some o→R1.blk k=some o)(c:t=true→capOf v=X.length):VRep (tSl t T) R1 v X:=by
 have:=zis h a b
 cases t
 ·exact z5t this
 ·exact z2e this (c rfl)
theorem zhi{X:List (List α)}(h:N2 t T R F v Vs X)(c:RH.le R R1)(m: ∀ k o,F k=some o→R1.blk k=some o):VRep (ww (tSl t T)) R1 v X:=by
 obtain⟨f0,Fs,n,s,d,⟨u,a,w⟩,y,z⟩:=h
 have hrow: ∀ j,j<X.length→VRep (tSl t T) R1 (Vs.getD j default) (X.getD j default):=fun j f=>
  zg6 (a j f (fun h=>h)).1 c (fun k o A=>m k o ((a j f (fun h=>h)).2 k o A)) (fun e=>z e j f (fun h=>h))
 rcases s with⟨rfl,rfl,rfl⟩|⟨b,pre,cs,cap,bt,rfl,rfl,p,B,C,g⟩
 ·obtain rfl:X=[]:=List.eq_nil_of_length_eq_zero (by simpa using n.symm)
  exact z7v
 ·rw [n] at p⊢
  refine dz.2 ⟨_,cap,rfl,p,fun e=>by(cases e),.inr ⟨b,pre.length,(pre++cs).toArray,bt,(0,0),rfl,m _ _ (d _ _ (x9 _ _)),fun i x q=>?_⟩⟩
  rw [z1l]
  have hi:i<X.length:=(List.getElem?_eq_some_iff.1 q).1
  have D:Vs[i]? =some (Vs.getD i default):=getD_some (by omega)
  obtain⟨hcc',E⟩:=g i _ D
  have l:X.getD i default=x:=by simp [List.getD_eq_getElem?_getD,q]
  have r:=qy rfl (hrow i hi)
  rw [l] at r
  show (tSl t T).rep R1 ((cs.drop (i*1)).take 1) x
  rw [show (cs.drop (i*1)).take 1=[Vs.getD i default] from hcc']
  exact r
theorem zmz{O:List Frag}{w:World}(b:Holds R (F::O) w): ∀ k o,F k=some o→(R.add F).blk k=some o:=fun k o a=>by
 have:=(b.own F (List.mem_cons_self ..) k o a).2
 simp [RH.add,this,a]
end read
section frz
variable {P : Program} {ρ : Option Nat} {n : Nat} {Q : Po} {l : Nat → Value} {D : List Nat} {R : RH} {O : List Frag} {ops : Array Oper} {os : List Oper} {c : Code} {α : Type} {t : Bool} {T : Ty α} {i : Nat} {F : Frag} {v : Value} {X : List (List α)}
theorem zgc(hi:O[i]? =some F)(h:NRep t T R F v X)(k: ∀ R',RH.le R R'→VRep (ww (tSl t T)) R' v X→wg P ρ n c Q l D R' (O.eraseIdx i)):wg P ρ n c Q l D R O:=fun a w d b=>
 let⟨Vs,h⟩:=h
 k (R.add F) (RH.le_add _ _) (zhi h (RH.le_add _ _) (zmz (z7k hi b))) a w d (z7r hi _ w b)
theorem zbw{R1:RH}(i:Nat)(hi:O[i]? =some F)(h:NRep t T R F v X)(a:RH.le R R1)(b: ∀ f∈O,∀ k o,f k=some o→R1.blk k=some o):VRep (ww (tSl t T)) R1 v X:=
 let⟨Vs,h⟩:=h
 zhi h a (b F (List.mem_of_getElem? hi))
end frz
section appT
variable {P : Program} {ρ : Option Nat} {l : Nat → Value} {R : RH} {O : List Frag} {dst : Option Tmp} {ty : TypeId} {pos : String} {after : Array Go.Edge} {g : Option (Nat × Bool)} {α : Type} {T : Ty α}
theorem zdy{t e:TypeId}{i:TypeInfo}{k:Nat}{w:World}{a:Addr}{n cap:Nat}{u:Value}{p:Option Addr}{c:Nat}(d:P.underlying t=some (.slice e))(hi:P.info? e=some i)(f:i.size=k)(b:u= .slice p 0 c)(hnew:(Builtin.firstCells k 0 u).run P w= .ok #[] w)(g:n≤cap):
 (Builtin.append_ #[t,t] ty #[.slice (some a) n cap,u]).run P w= .ok (.slice (some a) n cap) w:=by
 subst b;subst f
 simp [Builtin.append_,run_underlying d,sizeOf,typeInfo,hi,Builtin.lenOf,hnew,g,storeCells]
theorem zkg{z:α}{bytes:Nat}{t e:TypeId}{x y:Operand}{v u:Value}{X Y:List α}
 (r:P.underlying t=some (.slice e)) (L:ZeroOk P e T z bytes) (s:ev l x=v) (B:ev l y=u) (C:VRep (tSl true T) R v X) (hu':VRep (ww T) R u Y)
 (M:(X.length+Y.length)*bytes≤140737488355328) (N:X.length+Y.length≤9223372036854775807):
 Eff P ρ ⟨dst,.call ⟨.builtin .append,#[x,y],#[t,t]⟩,ty,pos,after,g⟩ l R O (fun v' R' O'=>R'=R∧((Y=[]∧O'=O∧v'=v)∨ ∃ f',O'=f'::O∧ORep T R f' v' (X++Y))):=by
 intro A w d;rw [jf (by intro c h;cases h)]
 obtain⟨inf,zv,D,Q,E,S,U⟩:=L.info
 obtain⟨cy,p,n,rfl,f,hload⟩:=z9e hu'
 have i:cy.length=Y.length*T.size:=f.len
 have hnew: ∀ w',w'.heap=w.heap→(Builtin.firstCells T.size Y.length (.slice p Y.length n)).run P w'= .ok cy.toArray w':=fun w' hw'=>
  hload w' fun k o F=>by rw [hw'];exact d.ro k o F
 obtain⟨cx,px,nx,j,m,hloadx⟩:=z9e (jd C)
 have hcap:nx=X.length:=by
  have:=zp5 C
  rw [j] at this;exact this
 subst hcap
 subst j
 by_cases hY:Y=[]
 ·subst hY
  have G:cy=[]:=List.length_eq_zero_iff.1 (by simpa using i)
  subst G
  have K:=hnew w rfl
  cases px with
  |none=>
   obtain⟨p',n',e',hn',hp',_⟩:=dz.1 (jd C)
   simp only [Value.slice.injEq] at e'
   obtain rfl:=hp' e'.1.symm
   rw [z4q s B (z9s r D E rfl K)]
   exact⟨R,O,RH.le.refl _,d,rfl,.inl ⟨rfl,rfl,rfl⟩⟩
  |some a=>
   rw [z4q s B (zdy r D E rfl K (Nat.le_refl _))]
   exact⟨R,O,RH.le.refl _,d,rfl,.inl ⟨rfl,rfl,rfl⟩⟩
 ·have hpos:0<Y.length:=List.length_pos_iff.2 hY
  rw [z4q s B (za3 (T:=T) (olds:=cx) r D Q E S rfl (fun w' hw'=>hloadx w' fun k o F=>by rw [hw'];exact d.ro k o F) rfl hnew (by omega) N M)]
  have hcap:=grownCap_ge w (X.length+Y.length) X.length e
  obtain⟨H,I⟩:=z9k (U R) (grownCap w (X.length+Y.length) X.length e-(X.length+Y.length))
  have J:=z3o (z6p d) (.cells ((cx++cy)++(Builtin.zeroCells zv.cells (grownCap w (X.length+Y.length) X.length e-(X.length+Y.length))).toList).toArray e (0,0))
  have q:=z7w (b:=w.heap.size) (bt:=e) (cap:=grownCap w (X.length+Y.length) X.length e) (m.append f) (rest:=(Builtin.zeroCells zv.cells (grownCap w (X.length+Y.length) X.length e-(X.length+Y.length))).toList)
   (by rw [List.length_append];exact hcap) (by rw [List.length_append,List.length_append,m.len,i,I,←Nat.add_mul,←Nat.add_mul];exact Nat.mul_le_mul_right _ (by omega)) H
  have V:(cx.toArray++cy.toArray++Builtin.zeroCells zv.cells (grownCap w (X.length+Y.length) X.length e-(X.length+Y.length)))=((cx++cy)++(Builtin.zeroCells zv.cells (grownCap w (X.length+Y.length) X.length e-(X.length+Y.length))).toList).toArray:=by
   apply Array.ext';simp
  rw [V]
  exact⟨R,_::O,RH.le.refl _,J,rfl,.inr ⟨_,rfl,by rw [List.length_append] at q;exact q⟩⟩
theorem zmx{z:α}{bytes:Nat}{t e:TypeId}{x y:Operand}{v u:Value}{X Y:List α}
 (c:P.underlying t=some (.slice e)) (d:ZeroOk P e T z bytes) (h:ev l x=v) (i:ev l y=u) (b:VRep (tSl true T) R v X) (hu':VRep (ww T) R u Y)
 (j:(X.length+Y.length)*bytes≤140737488355328) (k:X.length+Y.length≤9223372036854775807):
 Eff P ρ ⟨dst,.call ⟨.builtin .append,#[x,y],#[t,t]⟩,ty,pos,after,g⟩ l R O (fun v' R' O'=>O'=O∧phR (tSl false T) (X++Y) v' R'):=by
 intro A w m
 refine z3v (zkg c d h i b hu' j k A w m) ?_
 rintro v' w' ⟨R',O',a,hh',rfl,⟨rfl,rfl,rfl⟩|⟨f,rfl,n⟩⟩
 ·exact⟨R',O',a,hh',rfl,by rw [List.append_nil];exact z5t (jd b)⟩
 ·exact⟨R'.add f,O,a.trans (RH.le_add _ _),z0r hh',rfl,z5t (z2s n hh')⟩
theorem zlt{z:α}{bytes:Nat}{t e:TypeId}{x y:Operand}{f:Frag}{v u:Value}{X Y:List α}
 (b:P.underlying t=some (.slice e)) (c:ZeroOk P e T z bytes) (d:ev l x=v) (h:ev l y=u) (j:ORep T R f v X) (hu':VRep (ww T) R u Y)
 (k:(X.length+Y.length)*bytes≤140737488355328) (m:X.length+Y.length≤9223372036854775807):
 Eff P ρ ⟨dst,.call ⟨.builtin .append,#[x,y],#[t,t]⟩,ty,pos,after,g⟩ l R ([f]++O) (fun v' R' O'=> ∃ Oc,O'=Oc++O∧Oc=[]∧phR (tSl false T) (X++Y) v' R'):=by
 intro A w n
 refine z3v (z5a (i:=0) b c d h rfl j hu' k m A w n) ?_
 rintro v' w' ⟨R',O',a,hh',rfl,f',rfl,o⟩
 exact⟨R'.add f',O,a.trans (RH.le_add _ _),z0r hh',[],rfl,rfl,z5t (z2s o hh')⟩
end appT
section sliceO
variable {P : Program} {ρ : Option Nat} {l : Nat → Value} {R : RH} {O : List Frag} {α : Type} {T : Ty α}
theorem zgz{t e:TypeId}{lo hi mx:Nat}{x:Operand}{xlo xhi xmx:Option Operand}{f:Frag}{v:Value}{X:List α}(z:SlOk P t e T)(a:ev l x=v)(B:ORep T R f v X)
 (n:xlo.map (ev l)=none∧lo=0∨ ∃ k,xlo.map (ev l)=some (.int k lo)) (o:xhi.map (ev l)=none∧hi=X.length∧xmx=none∨ ∃ k,xhi.map (ev l)=some (.int k hi))
 (q:xmx.map (ev l)=none∧mx=capOf v∨ ∃ k,xmx.map (ev l)=some (.int k mx)) (C:lo≤hi) (G:hi≤X.length) (D:hi≤mx) (m:mx≤capOf v):
 ∃ u,ORep T R f u ((X.drop lo).take (hi-lo))∧capOf u=mx-lo∧ ∀ (dst:Option Tmp) (ty:TypeId) (pos:String) (after:Array Go.Edge) (g:Option (Nat×Bool)),Val P ρ ⟨dst,.slice t x xlo xhi xmx,ty,pos,after,g⟩ l R O u:=by
 obtain⟨p,d,E⟩:=z6z B
 refine⟨.slice (if mx=lo then p else p.map (·.add (lo*T.size))) (hi-lo) (mx-lo),?_,rfl,fun dst ty pos after g A w H=>?_⟩
 ·have hlen:((X.drop lo).take (hi-lo)).length=hi-lo:=by simp;omega
  rcases B with⟨rfl,rfl,rfl⟩|⟨b,pre,cs,cap,bt,rfl,rfl,F,r,j,s⟩
  ·have:mx=0:=by simpa [capOf] using m
   have:lo=0:=by omega
   have:hi=0:=by omega
   subst_vars
   simp only [Value.slice.injEq] at d
   obtain⟨rfl,_⟩:=d
   exact .inl ⟨rfl,by simp,rfl⟩
  ·simp only [Value.slice.injEq,capOf] at d m E
   obtain⟨rfl,_⟩:=d
   right
   by_cases hm:mx=lo
   ·refine⟨b,pre,cs,0,bt,?_,rfl,?_,by simp,j,fun i x a=>?_⟩
    ·rw [if_pos hm,hlen];simp only [Value.slice.injEq,true_and];omega
    ·rw [hlen];omega
    ·rw [show hi-lo=0 by omega,List.take_zero] at a;simp at a
   ·have y:lo*T.size≤cs.length:=Nat.le_trans (Nat.mul_le_mul_right _ (by omega:lo≤cap)) r
    refine⟨b,pre++cs.take (lo*T.size),cs.drop (lo*T.size),mx-lo,bt,?_,?_,by rw [hlen];omega,?_,?_,fun i x a=>?_⟩
    ·rw [if_neg hm,hlen];simp [addr_add,Nat.min_eq_left y]
    ·rw [List.append_assoc,List.take_append_drop]
    ·rw [List.length_drop,Nat.sub_mul]
     have:=Nat.mul_le_mul_right T.size m
     omega
    ·rw [List.append_assoc,List.take_append_drop];exact j
    ·rw [List.getElem?_take] at a
     split at a
     ·rw [List.getElem?_drop] at a
      have:=s (lo+i) x a
      rwa [List.drop_drop,←Nat.add_mul]
     ·cases a
 ·rw [jf (by intro c h;cases h)]
  exact zb1 z.u z.e.size (a.trans d) n o q C D m (fun _=>by omega)
end sliceO
section sliceQ
variable {P : Program} {ρ : Option Nat} {n : Nat} {Q : Po} {l : Nat → Value} {D : List Nat} {R : RH} {O : List Frag} {ops : Array Oper} {rest : List Oper} {ty : TypeId} {pos : String} {after : Array Go.Edge} {d : Nat} {α : Type} {T : Ty α}
theorem zjo{t e:TypeId}{lo hi mx:Nat}{x:Operand}{xlo xhi xmx:Option Operand}{f:Frag}{v:Value}{X:List α}(g:Nat.blt d n=true)(h:SlOk P t e T)(i:ev l x=v)(j:ORep T R f v X)
 (a:xlo.map (ev l)=none∧lo=0∨ ∃ k,xlo.map (ev l)=some (.int k lo)) (b:xhi.map (ev l)=none∧hi=X.length∧xmx=none∨ ∃ k,xhi.map (ev l)=some (.int k hi))
 (c:xmx.map (ev l)=none∧mx=capOf v∨ ∃ k,xmx.map (ev l)=some (.int k mx)) (m:lo≤hi) (o:hi≤X.length) (p:hi≤mx) (q:mx≤capOf v)
 (r: ∀ u,ORep T R f u ((X.drop lo).take (hi-lo))→capOf u=mx-lo→wo P ρ n ops Q rest (upd l d u) D R O):wo P ρ n ops Q (⟨some d,.slice t x xlo xhi xmx,ty,pos,after,none⟩::rest) l D R O:=by
 obtain⟨u,s,w,y⟩:=zgz (P:=P) (ρ:=ρ) (O:=O) h i j a b c m o p q
 exact qi g (y _ _ _ _ _) (r u s w)
end sliceQ
theorem zka{P:Program}{ρ:Option Nat}{l:Nat→Value}{R:RH}{O:List Frag}{dst:Option Tmp}{ty:TypeId}{pos:String}{after:Array Go.Edge}{g:Option (Nat×Bool)}{α:Type}{T:Ty α}{t e:TypeId}{z:α}{bytes m:Nat}{parts:List (Nat×Operand)}{ps:List (Nat×Value)}{css:List (List Value)}{X:List α}(b:P.underlying t=some (.slice e))(d:ZeroOk P e T z bytes)
 (j:(parts.map fun x=>(x.1,ev l x.2))=ps) (a:ps.map (fun p=>(p.1,p.2.cells))=css.zipIdx.map (fun x=>(x.2,x.1.toArray))) (k: ∀ (i:Nat) (c:List Value) (x:α),css[i]? =some c→X[i]? =some x→T.rep R c x)
 (n:css.length=X.length) (o:X.length=m) (hbig:m*T.size≤16777216):Eff P ρ ⟨dst,.buildSlice t m parts.toArray,ty,pos,after,g⟩ l R O fun v R' O'=> ∃ Oc,O'=Oc++O∧R'=R∧ ∃ f,Oc=[f]∧ORep T R f v X∧capOf v=X.length:=
 (z4z b d (by rw [List.map_toArray];exact congrArg List.toArray j) a k n o hbig).mono fun v R' O' _ ⟨q,r,f,s,h⟩=>by subst q;exact⟨[f],s,rfl,f,rfl,h,r⟩
theorem zbo{place:Nat→Option (Nat×Nat)}: ∀ (ps ps':List (Nat×Value)) (cells:Array Value),ps.map (fun p=>(p.1,p.2.cells))=ps'.map (fun p=>(p.1,p.2.cells))→Instr.fill place cells ps=Instr.fill place cells ps'
 | [],[],_,_=>rfl
 | [],_::_,_,h=>by simp at h
 |_::_,[],_,h=>by simp at h
 |(i,v)::r,(j,u)::r',cells,h=>by
  simp only [List.map_cons,List.cons.injEq,Prod.mk.injEq] at h
  obtain⟨⟨rfl,a⟩,b⟩:=h
  simp only [Instr.fill,a]
  cases place i with
  |none=>rfl
  |some q=>simp only [];rw [zbo r r' _ b]
theorem z1g{P:Program}{ρ:Option Nat}{l:Nat→Value}{R:RH}{O:List Frag}{dst:Option Tmp}{ty:TypeId}{pos:String}{after:Array Go.Edge}{g:Option (Nat×Bool)}{t:TypeId}{parts:List (Nat×Operand)}{ps:List (Nat×Value)}(ps':List (Nat×Value)){v:Value}(a:(parts.map fun x=>(x.1,ev l x.2))=ps)
 (b:ps.map (fun p=>(p.1,p.2.cells))=ps'.map (fun p=>(p.1,p.2.cells))) (h: ∀ w,(Instr.build t ps'.toArray).run P w= .ok v w):Val P ρ ⟨dst,.build t parts.toArray,ty,pos,after,g⟩ l R O v:=
 xm a fun w=>by
  have:(Instr.build t ps.toArray)=(Instr.build t ps'.toArray):=by
   simp only [Instr.build,zbo (place:=_) ps ps' _ b]
  rw [this];exact h w
def z0v(v:Value)(k:Nat):Value:=match v with
 | .agg a=>a.toList.getD k undef
 |_=>undef
section step
variable {P : Program} {ρ : Option Nat} {n : Nat} {Q : Po} {l : Nat → Value} {D : List Nat} {R : RH} {O : List Frag} {ops : Array Oper} {rest : List Oper} {ty : TypeId} {pos : String} {after : Array Go.Edge} {d : Nat}
theorem z4v{op:Op}{φ:Value→RH→Prop}(b:Nat.blt d n=true)(h:Eff P ρ ⟨some d,op,ty,pos,after,none⟩ l R O (fun v R' O'=>O'=O∧φ v R'))(c: ∀ v R',RH.le R R'→φ v R'→wo P ρ n ops Q rest (upd l d v) D R' O):
 wo P ρ n ops Q (⟨some d,op,ty,pos,after,none⟩::rest) l D R O:=z5p b h fun v R' O' a ⟨e,f⟩=>by subst e;exact c v R' a f
theorem za5{op:Op}{Oc Or:List Frag}{φ:Value→RH→List Frag→Prop}(a:O.Perm (Oc++Or))(h:Eff P ρ ⟨none,op,ty,pos,after,none⟩ l R (Oc++Or) (fun v R' O'=> ∃ Oc',O'=Oc'++Or∧φ v R' Oc'))
 (c: ∀ v R' Oc',RH.le R R'→φ v R' Oc'→wo P ρ n ops Q rest l D R' (Oc'++Or)):wo P ρ n ops Q (⟨none,op,ty,pos,after,none⟩::rest) l D R O:=
 ze3 (jr a h) fun v R' O' b ⟨Oc',e,a⟩=>by subst e;exact c v R' Oc' b a
end step
end GV
end Go.Proofs.Ytohjnbajgbdhhaa

namespace Go.Proofs.Ytohjnbajgbdhhaa
namespace GV
section p
variable {P : Program} {ρ : Option Nat} {n : Nat} {ops : Array Oper} {Q : Po} {rest : List Oper} {l : Nat → Value} {D : List Nat} {R : RH} {O : List Frag} {ty : TypeId} {pos : String} {after : Array Go.Edge} {d : Nat} {dst : Option Tmp} {g : Option (Nat × Bool)}
variable {α β : Type} {T : Ty α} {B : Ty β} {X : List α} {v u w : Value} {x y : Operand} {f F : Frag} {i j o fld : Nat} {t s : TypeId} {pr : α → β} {se : α → β → α}
end p
section q
variable {P : Program} {ρ : Option Nat} {l : Nat → Value} {R : RH} {O : List Frag} {ty : TypeId} {pos : String} {after : Array Go.Edge} {dst : Option Tmp} {g : Option (Nat × Bool)}
variable {α β : Type} [Inhabited α] {b : Bool} {T : Ty α} {B : Ty β} {Vs : List Value} {X : List (List α)} {v u w : Value} {x y : Operand} {F : Frag} {i j o r : Nat} {t : TypeId} {pr : α → β} {se : α → β → α}
end q
end GV
end Go.Proofs.Ytohjnbajgbdhhaa

namespace Go.Proofs.Ytohjnbajgbdhhaa
namespace GV
/-! ### A map's entries as a list of pairs,in the order in which the keys came-/
def zn6{κ β:Type}[DecidableEq κ]:List (κ×β)→κ→Nat→Option (Nat×β)
 | [],_,_=>none
 |p::l,k,i=>if k=p.1 then some (i,p.2) else zn6 l k (i+1)
def zn7(e:MapEntry):Value×Value:=(e.key,e.val)
def zom{κ β:Type}(ke:κ→Value)(ve:β→Value)(es:Array MapEntry)(M:List (κ×β)):Prop:=es.toList.map zn7=M.map fun p=>(ke p.1,ve p.2)
structure KOk (P:Program) (kt:TypeId) {κ:Type} [DecidableEq κ] (ke:κ→Value):Prop where
 check: ∀ (b:Bool) (k:κ) (w:World),(Instr.checkKey b 10000 kt (ke k)).run P w= .ok () w
 find: ∀ {β:Type} (k:κ) (es:List MapEntry) (M:List (κ×β)) (ve:β→Value) (w:World),es.map zn7=M.map (fun p=>(ke p.1,ve p.2))→
  (Instr.findKey kt (ke k) es).run P w= .ok ((zn6 M k 0).map fun p=>(p.1,ve p.2)) w
 same: ∀ k:κ,Instr.sameBits 10000 (ke k) (ke k)=true
section m
variable {κ β : Type} [DecidableEq κ] {ke : κ → Value} {ve : β → Value} {M : List (κ × β)} {k : κ} {z : β}
end m
def MRep{κ β:Type}(ke:κ→Value)(ve:β→Value)(R:RH)(f:Frag)(v:Value)(M:List (κ×β)):Prop:=
 ∃ b es c,v= .map (some b)∧f=single b (.map es c)∧zom ke ve es M
theorem MRep.mono{κ β:Type}{ke:κ→Value}{ve:β→Value}{R R':RH}{f:Frag}{v:Value}{M:List (κ×β)}(h:MRep ke ve R f v M)(a:RH.le R R'):MRep ke ve R' f v M:=h
section e
variable {P : Program} {ρ : Option Nat} {n : Nat} {ops : Array Oper} {Q : Po} {rest : List Oper} {l : Nat → Value} {D : List Nat} {R : RH} {O : List Frag} {ty : TypeId} {pos : String} {after : Array Go.Edge} {d : Nat} {dst : Option Tmp} {g : Option (Nat × Bool)}
variable {κ β : Type} {ke : κ → Value} {ve : β → Value} {M : List (κ × β)} {k : κ} {z : β} {t kt et : TypeId} {x y s : Operand} {v : Value} {f : Frag}
variable [DecidableEq κ]
end e
end GV
end Go.Proofs.Ytohjnbajgbdhhaa
