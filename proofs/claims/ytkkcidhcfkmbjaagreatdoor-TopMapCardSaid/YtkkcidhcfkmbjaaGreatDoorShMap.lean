
import Derived.Test.YtkkcidhcfkmbjaaGreatDoorShFree
import Derived.MapKept
set_option linter.unusedVariables false
set_option linter.unusedSimpArgs false
set_option linter.unusedSectionVars false
namespace Go.Proofs.YtkkcidhcfkmbjaaGreatDoor
namespace GV
def NRep{α:Type}(t:Bool)(T:Ty α)(R:RH)(F:Frag)(v:Value)(X:List (List α)):Prop:= ∃ Vs,N2 t T R F v Vs X
theorem NRep.mono{α:Type}{t:Bool}{T:Ty α}{R R':RH}{F:Frag}{v:Value}{X:List (List α)}(h:NRep t T R F v X)(b:RH.le R R'):NRep t T R' F v X:=let⟨Vs,a⟩:=h;⟨Vs,a.mono b⟩
theorem ay{α:Type}{t:Bool}{T:Ty α}{R:RH}{F:Frag}{v:Value}{Vs:List Value}{X:List (List α)}(h:N2 t T R F v Vs X):NRep t T R F v X:=⟨Vs,h⟩
theorem zg8{P:Program}{t:TypeId}{α:Type}{T:Ty α}{b:Bool}(h:TyOk P t (tSl b T)):TyOk P t tHdr:=⟨h.agg,h.size⟩
theorem zjg{P:Program}{t e:TypeId}{α:Type}{T:Ty α}{b:Bool}(h:SlOk P t e (tSl b T)):SlOk P t e tHdr:=⟨h.u,zg8 h.e⟩
theorem zlv{R:RH}{w y:Value}(h:VRep tHdr R w y):w=y:=by obtain⟨cs,⟨rfl,_⟩,rfl⟩:=h;rfl
theorem zsc{R:RH}{w:Value}(h:w.oneCell'=true):VRep tHdr R w w:=⟨[w],⟨rfl,h⟩,rfl⟩
theorem zvp{R:RH}{w:Value}(h:w.oneCell'=true):tHdr.rep R [w] w:=⟨rfl,h⟩
theorem z7c{α:Type}{t:Bool}{T:Ty α}{R:RH}{F:Frag}{v:Value}{Vs:List Value}{X:List (List α)}(h:N2 t T R F v Vs X):v.oneCell'=true:=let⟨_,a,_⟩:=h.o;nu a
theorem zt1{α:Type}{t:Bool}{T:Ty α}{R:RH}{F:Frag}{v:Value}{Vs:List Value}{X:List (List α)}(h:N2 t T R F v Vs X):v.cells=([v]:List Value).toArray:=let⟨_,a,_⟩:=h.o;ma a
theorem q02{α:Type}{t:Bool}{T:Ty α}{R:RH}{F:Frag}{v:Value}{Vs:List Value}{X:List (List α)}(h:N2 t T R F v Vs X){r:Nat}(a:r<X.length)(e:t=true):capOf (Vs.getD r default)=(X.getD r default).length:=
 let⟨_,_,_,_,_,_,_,g⟩:=h;g e r a (fun h=>h)
theorem zcq{v:Value}(h:v.oneCell'=true):v.cells=([v]:List Value).toArray:=by
 cases v<;>first|rfl|(simp [Value.oneCell'] at h;done)
section ops
variable {P : Program} {ρ : Option Nat} {l : Nat → Value} {R : RH} {O : List Frag} {dst : Option Tmp} {ty : TypeId} {pos : String} {after : Array Go.Edge} {g : Option (Nat × Bool)} {α : Type} {t : Bool} {T : Ty α} {F : Frag} {v : Value} {Vs : List Value} {X : List (List α)}
theorem zi2{tt e:TypeId}{x ix:Operand}{k:IntKind}{i:Nat}(a:SlOk P tt e tHdr)(b:ev l x=v)(h:N2 t T R F v Vs X)(hi:ev l ix= .int k i)(d:i<X.length):
 Eff P ρ ⟨dst,.indexAddr tt x ix,ty,pos,after,g⟩ l R O (fun v' R' O'=>O'=O∧(fun u _=>z1i tHdr v Vs u i) v' R'):=by
 obtain⟨f0,c,_,f⟩:=h.o
 exact av a b c hi (by omega)
theorem zrm{tt:TypeId}{x:Operand}{u:Value}{i j:Nat}(d:TyOk P tt tHdr)(h:N2 t T R F v Vs X)(e:O[j]? =some F)(f:ev l x=u)(k:z1i tHdr v Vs u i)(r:i<X.length):
 Eff P ρ ⟨dst,.load tt x,ty,pos,after,g⟩ l R O (fun v' R' O'=>O'=O∧phX (Vs.getD i default) v' R'):=by
 obtain⟨f0,m,n,s⟩:=h.o
 obtain⟨w,p,q⟩:=zij (ρ:=ρ) (P:=P) d m n e f k (getD_some (by omega))
 exact(q dst ty pos after g).eff.mono fun v' R' O' _ ⟨a,b,c⟩=>⟨c,a.trans (zlv p)⟩
theorem zo0{tt e:TypeId}{x ix:Operand}{k:IntKind}{i r:Nat}(a:SlOk P tt e T)(h:N2 t T R F v Vs X)(b:r<X.length)(c:ev l x=Vs.getD r default)(hi:ev l ix= .int k i)(d:i<(X.getD r default).length):
 Eff P ρ ⟨dst,.indexAddr tt x ix,ty,pos,after,g⟩ l R O (fun v' R' O'=>O'=O∧(fun u _=>z1i T (Vs.getD r default) (X.getD r default) u i) v' R'):=
 let⟨fk,f,_⟩:=h.row b;av a c f hi d
theorem zaz{tt:TypeId}{x y:Operand}{u w:Value}{i r:Nat}{z:α}(c:TyOk P tt T)(h:N2 t T R F v Vs X)(b:r<X.length)(d:ev l x=u)(f:z1i T (Vs.getD r default) (X.getD r default) u i)(hi:i<(X.getD r default).length)
 (k:ev l y=w) (m:VRep T R w z):Eff P ρ ⟨dst,.store tt x y,ty,pos,after,g⟩ l R ([F]++O) (fun v' R' O'=> ∃ Oc,O'=Oc++O∧R'=R∧ ∃ F',Oc=[F']∧N2 t T R F' v Vs (X.set r ((X.getD r default).set i z))):=by
 obtain⟨fk,n,o,p⟩:=h.hole b
 refine zf8 (O1:=[fk]) (Or:=minus F fk::O) (fun A w a=>z9m a o) (z2r (j:=0) c n rfl d f hi k m) ?_
 rintro v' R' O1' q ⟨rfl,f',rfl,s⟩ A w a
 refine⟨l9 f' (minus F fk)::O,z5z a,_,rfl,rfl,_,rfl,N2h.fill (u:=default) p b s (zsj a) fun e=>?_⟩
 rw [List.length_set];exact q02 h b e
theorem zfr{f g h:Frag}(a:Apart f g)(b:Apart f h):Apart f (l9 g h):=fun k=>by
 unfold l9
 cases e:g k with
 |none=>exact b k
 |some o=>
  rcases a k with c|c
  ·exact .inl c
  ·rw [e] at c;cases c
theorem zxk{f0' f G:Frag}{Fs:List Frag}{r:Nat}{w:Value}{Y:List α}(B:r<X.length)(C:Vs.length=X.length)(D:ORep tHdr R f0' v (Vs.set r w))(E:ORep T R f w Y)(hrow:Rows T R G Vs X Fs (fun _=>False))(u:Apart f0' f)(x:Apart f0' G)(l:Apart f G)
 (m:zj1 t Vs X (fun _=>False)) (F:t=true→capOf w=Y.length):N2 t T R (l9 f0' (l9 f G)) v (Vs.set r w) (X.set r Y):=by
 obtain⟨o,a,p⟩:=hrow
 have n: ∀ j,¬(fun(_:Nat)=>False) j:=fun _ h=>h
 have b:Apart f0' (l9 f G):=zfr u x
 have q:Has (l9 f0' (l9 f G)) f:=(z2y b).trans z7w
 have s:Has (l9 f0' (l9 f G)) G:=(z2y b).trans (z2y l)
 have g:=fun j=>z0w (X:=Fs) (j:=j) (y:=f) (d:=emp) (k:=r) (by omega)
 have z:=fun j=>z0w (X:=X) (j:=j) (y:=Y) (d:=default) B
 have A:=fun j=>z0w (X:=Vs) (j:=j) (y:=w) (d:=default) (k:=r) (by omega)
 refine⟨f0',Fs.set r f,by simp [C],D,z7w,⟨by simp [o],fun j b _=>?_,fun i j hi b _ _ c=>?_⟩,fun j b=>?_,fun e j b _=>?_⟩
 ·have hj':j<X.length:=by simpa using b
  rw [g,z,A]
  by_cases e:j=r
  ·subst e;rw [if_pos rfl,if_pos rfl,if_pos rfl];exact⟨E,q⟩
  ·rw [if_neg e,if_neg e,if_neg e];exact⟨(a j hj' (n j)).1,s.trans (a j hj' (n j)).2⟩
 ·have hi':i<X.length:=by simpa using hi
  have hj':j<X.length:=by simpa using b
  rw [g,g]
  by_cases e1:i=r
  ·rw [if_pos e1,if_neg (fun e=>c (e1.trans e.symm))]
   exact(a j hj' (n j)).2.apart l
  ·by_cases e2:j=r
   ·rw [if_neg e1,if_pos e2];exact((a i hi' (n i)).2.apart l).symm
   ·rw [if_neg e1,if_neg e2];exact p i j hi' hj' (n i) (n j) c
 ·have hj':j<X.length:=by simpa using b
  rw [g]
  by_cases e:j=r
  ·rw [if_pos e];exact u
  ·rw [if_neg e];exact(a j hj' (n j)).2.apart x
 ·have hj':j<X.length:=by simpa using b
  rw [z,A]
  by_cases e':j=r
  ·rw [if_pos e',if_pos e'];exact F e
  ·rw [if_neg e',if_neg e'];exact m e j hj' (n j)
theorem zgd{f0:Frag}{Fs:List Frag}(hrow:Rows T R F Vs X Fs (fun _=>False))(a: ∀ j,j<X.length→Apart f0 (Fs.getD j emp)):Rows T R (minus F f0) Vs X Fs (fun _=>False):=
 ⟨hrow.1,fun j b n=>⟨(hrow.2.1 j b n).1,zdn (hrow.2.1 j b n).2 (a j b)⟩,hrow.2.2⟩
theorem zth{tt:TypeId}{x y:Operand}{u w:Value}{r:Nat}{f:Frag}{Y:List α}(n:TyOk P tt tHdr)(h:N2 t T R F v Vs X)(o:r<X.length)(p:ev l x=u)(q:z1i tHdr v Vs u r)(s:ev l y=w)(e:ORep T R f w Y)(z:t=true→capOf w=Y.length):
 Eff P ρ ⟨dst,.store tt x y,ty,pos,after,g⟩ l R ([F,f]++O) (fun v' R' O'=> ∃ Oc,O'=Oc++O∧R'=R∧ ∃ F',Oc=[F']∧N2 t T R F' v (Vs.set r w) (X.set r Y)):=by
 obtain⟨f0,Fs,B,C,a,hrow,b,c⟩:=h
 refine zf8 (O1:=[f0]) (Or:=minus F f0::f::O) (fun A w d=>z9m d a) (z2r (j:=0) n C rfl p q (by omega) s (zsc (nu e))) ?_
 rintro v' R' O1' D ⟨rfl,f',rfl,E⟩ A w' d
 have k:Holds R' (f'::f::minus F f0::(O++A)) w':=kz d ((List.Perm.swap f _ _).cons _)
 obtain⟨m,G⟩:=List.pairwise_cons.1 k.sep
 obtain⟨H,M⟩:=List.pairwise_cons.1 G
 have I:Apart f' f:=fun i=>m f (by simp) i
 have J:Apart f' (minus F f0):=fun i=>m _ (by simp) i
 have K:Apart f (minus F f0):=fun i=>H _ (by simp) i
 refine⟨l9 f' (l9 f (minus F f0))::O,?_,_,rfl,rfl,_,rfl,zxk o B E e (zgd hrow b) I J K c z⟩
 have L:Holds R' (f::minus F f0::f'::(O++A)) w':=kz k ((List.Perm.swap f f' _).trans ((List.Perm.swap _ f' _).cons f))
 exact z5z (kz (z5z L) (List.Perm.swap f' _ _))
theorem z1b{β:Type}{X Y:List β}{j:Nat}{d:β}(h:j<X.length):(X++Y).getD j d=X.getD j d:=by
 simp [List.getD_eq_getElem?_getD,List.getElem?_append_left h]
theorem zqa{β:Type}{X:List β}{y d:β}:(X++[y]).getD X.length d=y:=by
 simp [List.getD_eq_getElem?_getD]
theorem z3a{β:Type}{X:List β}{y d:β}{j:Nat}(h:j=X.length):(X++[y]).getD j d=y:=h▸zqa
theorem zxr{f0' f G:Frag}{Fs:List Frag}{w v':Value}{Y:List α}(v:Vs.length=X.length)(x:ORep tHdr R f0' v' (Vs++[w]))(y:ORep T R f w Y)(hrow:Rows T R G Vs X Fs (fun _=>False))(s:Apart f0' f)(u:Apart f0' G)(g:Apart f G)
 (k:zj1 t Vs X (fun _=>False)) (z:t=true→capOf w=Y.length):N2 t T R (l9 f0' (l9 f G)) v' (Vs++[w]) (X++[Y]):=by
 obtain⟨l,c,m⟩:=hrow
 have n: ∀ j,¬(fun(_:Nat)=>False) j:=fun _ h=>h
 have a:Apart f0' (l9 f G):=zfr s u
 have o:Has (l9 f0' (l9 f G)) f:=(z2y a).trans z7w
 have p:Has (l9 f0' (l9 f G)) G:=(z2y a).trans (z2y g)
 have b: ∀ j,j<(X++[Y]).length→j<X.length∨j=X.length:=fun j a=>by simp at a;omega
 refine⟨f0',Fs++[f],by simp [v],x,z7w,⟨by simp [l],fun j a _=>?_,fun i j hi a _ _ q=>?_⟩,fun j a=>?_,fun e j a _=>?_⟩
 ·rcases b j a with e|e
  ·rw [z1b (by omega),z1b (by omega),z1b e];exact⟨(c j e (n j)).1,p.trans (c j e (n j)).2⟩
  ·rw [z3a (by omega),z3a (by omega),z3a e];exact⟨y,o⟩
 ·rcases b i hi with r|r
  ·rcases b j a with d|d
   ·rw [z1b (by omega),z1b (by omega)];exact m i j r d (n i) (n j) q
   ·rw [z1b (by omega),z3a (by omega)];exact((c i r (n i)).2.apart g).symm
  ·rcases b j a with d|d
   ·rw [z3a (by omega),z1b (by omega)];exact(c j d (n j)).2.apart g
   ·omega
 ·rcases b j a with e|e
  ·rw [z1b (by omega)];exact(c j e (n j)).2.apart u
  ·rw [z3a (by omega)];exact s
 ·rcases b j a with e'|e'
  ·rw [z1b (by omega),z1b e'];exact k e j e' (n j)
  ·rw [z3a (by omega),z3a e'];exact z e
theorem zks{z:Value}{bytes:Nat}{tt e:TypeId}{x y:Operand}{u w:Value}{f:Frag}{Y:List α}(n:P.underlying tt=some (.slice e))(o:ZeroOk P e tHdr z bytes)(p:ev l x=v)(q:ev l y=u)(h:N2 t T R F v Vs X)(r:ORep T R f w Y)(hu':VRep (vw tHdr) R u [w])
 (s:t=true→capOf w=Y.length) (B:(X.length+1)*bytes≤140737488355328) (C:X.length+1≤9223372036854775807):
 Eff P ρ ⟨dst,.call ⟨.builtin .append,#[x,y],#[tt,tt]⟩,ty,pos,after,g⟩ l R ([F,f]++O) (fun v' R' O'=> ∃ Oc,O'=Oc++O∧R'=R∧ ∃ F',Oc=[F']∧N2 t T R F' v' (Vs++[w]) (X++[Y])):=by
 obtain⟨f0,Fs,a,D,b,hrow,c,d⟩:=h
 refine zf8 (O1:=[f0]) (Or:=minus F f0::f::O) (fun A w j=>z9m j b) (zb0 (i:=0) n o p q rfl D hu' (by rw [a];simpa using B) (by rw [a];simpa using C)) ?_
 rintro v' R' O1' E ⟨rfl,f',rfl,G⟩ A w' j
 have k:Holds R' (f'::f::minus F f0::(O++A)) w':=kz j ((List.Perm.swap f _ _).cons _)
 obtain⟨m,H⟩:=List.pairwise_cons.1 k.sep
 obtain⟨I,N⟩:=List.pairwise_cons.1 H
 have J:Apart f' f:=fun i=>m f (by simp) i
 have K:Apart f' (minus F f0):=fun i=>m _ (by simp) i
 have L:Apart f (minus F f0):=fun i=>I _ (by simp) i
 refine⟨l9 f' (l9 f (minus F f0))::O,?_,_,rfl,rfl,_,rfl,zxr a G r (zgd hrow c) J K L d s⟩
 have M:Holds R' (f::minus F f0::f'::(O++A)) w':=kz k ((List.Perm.swap f f' _).trans ((List.Perm.swap _ f' _).cons f))
 exact z5z (kz (z5z M) (List.Perm.swap f' _ _))
theorem zhs{tt e:TypeId}{bytes:Nat}{x y:Operand}{n:Nat}{k k':IntKind}(h:P.underlying tt=some (.slice e))(i:ZeroOk P e tHdr (.slice none 0 0) bytes)(j:ev l x= .int k n)(m:ev l y= .int k' n)(o:bytes*n≤281474976710656)(p:n≤9223372036854775807):
 Eff P ρ ⟨dst,.makeSlice tt x y,ty,pos,after,g⟩ l R O (fun v R' O'=> ∃ Oc,O'=Oc++O∧R'=R∧ ∃ F,Oc=[F]∧N2 t T R F v (List.replicate n (.slice none 0 0)) (List.replicate n ([]:List α))∧capOf v=n):=
 (zfi h i j m (Nat.le_refl _) o p).mono fun v R' O' _ ⟨a,b,f,c,d⟩=>by subst a;exact⟨[f],c,rfl,f,rfl,zv2 d,b⟩
end ops
section read
variable {α : Type} {t : Bool} {T : Ty α} {R R1 : RH} {f F : Frag} {v : Value} {Vs : List Value}
theorem zqd{X:List α}(h:ORep T R f v X)(a:RH.le R R1)(d: ∀ k o,f k=some o→R1.blk k=some o):VRep (vw T) R1 v X:=by
 rcases h with⟨rfl,rfl,rfl⟩|⟨b,pre,cs,cap,bt,rfl,rfl,g,j,l,c⟩
 ·exact z9v
 ·refine xg.2 ⟨_,cap,rfl,g,fun e=>by(cases e),.inr ⟨b,pre.length,(pre++cs).toArray,bt,(0,0),rfl,d _ _ (single_same _ _),fun i x m=>?_⟩⟩
  rw [z0s]
  exact T.mono a (by simpa [cellsAt] using c i x m)
theorem zn9{X:List α}(h:ORep T R f v X)(a:RH.le R R1)(b: ∀ k o,f k=some o→R1.blk k=some o)(c:t=true→capOf v=X.length):VRep (tSl t T) R1 v X:=by
 have:=zqd h a b
 cases t
 ·exact z6t this
 ·exact z5b this (c rfl)
theorem zk5{X:List (List α)}(h:N2 t T R F v Vs X)(c:RH.le R R1)(m: ∀ k o,F k=some o→R1.blk k=some o):VRep (vw (tSl t T)) R1 v X:=by
 obtain⟨f0,Fs,n,s,d,⟨u,a,w⟩,y,z⟩:=h
 have hrow: ∀ j,j<X.length→VRep (tSl t T) R1 (Vs.getD j default) (X.getD j default):=fun j f=>
  zn9 (a j f (fun h=>h)).1 c (fun k o A=>m k o ((a j f (fun h=>h)).2 k o A)) (fun e=>z e j f (fun h=>h))
 rcases s with⟨rfl,rfl,rfl⟩|⟨b,pre,cs,cap,bt,rfl,rfl,p,B,C,g⟩
 ·obtain rfl:X=[]:=List.eq_nil_of_length_eq_zero (by simpa using n.symm)
  exact z9v
 ·rw [n] at p⊢
  refine xg.2 ⟨_,cap,rfl,p,fun e=>by(cases e),.inr ⟨b,pre.length,(pre++cs).toArray,bt,(0,0),rfl,m _ _ (d _ _ (single_same _ _)),fun i x q=>?_⟩⟩
  rw [z0s]
  have hi:i<X.length:=(List.getElem?_eq_some_iff.1 q).1
  have D:Vs[i]? =some (Vs.getD i default):=getD_some (by omega)
  obtain⟨hcc',E⟩:=g i _ D
  have l:X.getD i default=x:=by simp [List.getD_eq_getElem?_getD,q]
  have r:=ul rfl (hrow i hi)
  rw [l] at r
  show (tSl t T).rep R1 ((cs.drop (i*1)).take 1) x
  rw [show (cs.drop (i*1)).take 1=[Vs.getD i default] from hcc']
  exact r
theorem zoi{O:List Frag}{w:World}(b:Holds R (F::O) w): ∀ k o,F k=some o→(R.add F).blk k=some o:=fun k o a=>by
 have:=(b.own F (List.mem_cons_self ..) k o a).2
 simp [RH.add,this,a]
end read
section frz
variable {P : Program} {ρ : Option Nat} {n : Nat} {Q : Po} {l : Nat → Value} {D : List Nat} {R : RH} {O : List Frag} {ops : Array Oper} {os : List Oper} {c : Code} {α : Type} {t : Bool} {T : Ty α} {i : Nat} {F : Frag} {v : Value} {X : List (List α)}
theorem zn6(hi:O[i]? =some F)(h:NRep t T R F v X)(k: ∀ R',RH.le R R'→VRep (vw (tSl t T)) R' v X→wo P ρ n ops Q os l D R' (O.eraseIdx i)):wo P ρ n ops Q os l D R O:=fun a w c b=>
 let⟨Vs,h⟩:=h
 k (R.add F) (RH.le_add _ _) (zk5 h (RH.le_add _ _) (zoi (z6q hi b))) a w c (z6i hi _ w b)
theorem zfq(hi:O[i]? =some F)(h:NRep t T R F v X)(k: ∀ R',RH.le R R'→VRep (vw (tSl t T)) R' v X→wg P ρ n c Q l D R' (O.eraseIdx i)):wg P ρ n c Q l D R O:=fun a w d b=>
 let⟨Vs,h⟩:=h
 k (R.add F) (RH.le_add _ _) (zk5 h (RH.le_add _ _) (zoi (z6q hi b))) a w d (z6i hi _ w b)
theorem zyh{R1:RH}(i:Nat)(hi:O[i]? =some F)(h:NRep t T R F v X)(a:RH.le R R1)(b: ∀ f∈O,∀ k o,f k=some o→R1.blk k=some o):VRep (vw (tSl t T)) R1 v X:=
 let⟨Vs,h⟩:=h
 zk5 h a (b F (List.mem_of_getElem? hi))
end frz
section appT
variable {P : Program} {ρ : Option Nat} {l : Nat → Value} {R : RH} {O : List Frag} {dst : Option Tmp} {ty : TypeId} {pos : String} {after : Array Go.Edge} {g : Option (Nat × Bool)} {α : Type} {T : Ty α}
end appT
section sliceO
variable {P : Program} {ρ : Option Nat} {l : Nat → Value} {R : RH} {O : List Frag} {α : Type} {T : Ty α}
theorem znr{t e:TypeId}{lo hi mx:Nat}{x:Operand}{xlo xhi xmx:Option Operand}{f:Frag}{v:Value}{X:List α}(z:SlOk P t e T)(a:ev l x=v)(B:ORep T R f v X)
 (n:xlo.map (ev l)=none∧lo=0∨ ∃ k,xlo.map (ev l)=some (.int k lo)) (o:xhi.map (ev l)=none∧hi=X.length∧xmx=none∨ ∃ k,xhi.map (ev l)=some (.int k hi))
 (q:xmx.map (ev l)=none∧mx=capOf v∨ ∃ k,xmx.map (ev l)=some (.int k mx)) (C:lo≤hi) (G:hi≤X.length) (D:hi≤mx) (m:mx≤capOf v):
 ∃ u,ORep T R f u ((X.drop lo).take (hi-lo))∧capOf u=mx-lo∧ ∀ (dst:Option Tmp) (ty:TypeId) (pos:String) (after:Array Go.Edge) (g:Option (Nat×Bool)),Val P ρ ⟨dst,.slice t x xlo xhi xmx,ty,pos,after,g⟩ l R O u:=by
 obtain⟨p,d,E⟩:=z3r B
 refine⟨.slice (if mx=lo then p else p.map (·.add (lo*T.size))) (hi-lo) (mx-lo),?_,rfl,fun dst ty pos after g A w H=>?_⟩
 ·have hlen:((X.drop lo).take (hi-lo)).length=hi-lo:=by simp;omega
  rcases B with⟨rfl,rfl,rfl⟩|⟨b,pre,cs,cap,bt,rfl,rfl,F,r,j,s⟩
  ·have:mx=0:=by simpa [capOf] using m
   have:lo=0:=by omega
   have:hi=0:=by omega
   subst_vars
   simp only [Value.slice.injEq] at d
   obtain⟨rfl,_⟩:=d
   exact .inl ⟨rfl,by simp,rfl⟩
  ·simp only [Value.slice.injEq,capOf] at d m E
   obtain⟨rfl,_⟩:=d
   right
   by_cases hm:mx=lo
   ·refine⟨b,pre,cs,0,bt,?_,rfl,?_,by simp,j,fun i x a=>?_⟩
    ·rw [if_pos hm,hlen];simp only [Value.slice.injEq,true_and];omega
    ·rw [hlen];omega
    ·rw [show hi-lo=0 by omega,List.take_zero] at a;simp at a
   ·have y:lo*T.size≤cs.length:=Nat.le_trans (Nat.mul_le_mul_right _ (by omega:lo≤cap)) r
    refine⟨b,pre++cs.take (lo*T.size),cs.drop (lo*T.size),mx-lo,bt,?_,?_,by rw [hlen];omega,?_,?_,fun i x a=>?_⟩
    ·rw [if_neg hm,hlen];simp [addr_add,Nat.min_eq_left y]
    ·rw [List.append_assoc,List.take_append_drop]
    ·rw [List.length_drop,Nat.sub_mul]
     have:=Nat.mul_le_mul_right T.size m
     omega
    ·rw [List.append_assoc,List.take_append_drop];exact j
    ·rw [List.getElem?_take] at a
     split at a
     ·rw [List.getElem?_drop] at a
      have:=s (lo+i) x a
      rwa [List.drop_drop,←Nat.add_mul]
     ·cases a
 ·rw [qj (by intro c h;cases h)]
  exact z9l z.u z.e.size (a.trans d) n o q C D m (fun _=>by omega)
end sliceO
section sliceQ
variable {P : Program} {ρ : Option Nat} {n : Nat} {Q : Po} {l : Nat → Value} {D : List Nat} {R : RH} {O : List Frag} {ops : Array Oper} {rest : List Oper} {ty : TypeId} {pos : String} {after : Array Go.Edge} {d : Nat} {α : Type} {T : Ty α}
theorem zhq{t e:TypeId}{lo hi mx:Nat}{x:Operand}{xlo xhi xmx:Option Operand}{f:Frag}{v:Value}{X:List α}(g:Nat.blt d n=true)(h:SlOk P t e T)(i:ev l x=v)(j:ORep T R f v X)
 (a:xlo.map (ev l)=none∧lo=0∨ ∃ k,xlo.map (ev l)=some (.int k lo)) (b:xhi.map (ev l)=none∧hi=X.length∧xmx=none∨ ∃ k,xhi.map (ev l)=some (.int k hi))
 (c:xmx.map (ev l)=none∧mx=capOf v∨ ∃ k,xmx.map (ev l)=some (.int k mx)) (m:lo≤hi) (o:hi≤X.length) (p:hi≤mx) (q:mx≤capOf v)
 (r: ∀ u,ORep T R f u ((X.drop lo).take (hi-lo))→capOf u=mx-lo→wo P ρ n ops Q rest (upd l d u) D R O):wo P ρ n ops Q (⟨some d,.slice t x xlo xhi xmx,ty,pos,after,none⟩::rest) l D R O:=by
 obtain⟨u,s,w,y⟩:=znr (P:=P) (ρ:=ρ) (O:=O) h i j a b c m o p q
 exact jy g (y _ _ _ _ _) (r u s w)
end sliceQ
theorem zse{P:Program}{ρ:Option Nat}{l:Nat→Value}{R:RH}{O:List Frag}{dst:Option Tmp}{ty:TypeId}{pos:String}{after:Array Go.Edge}{g:Option (Nat×Bool)}{α:Type}{T:Ty α}{t e:TypeId}{z:α}{bytes m:Nat}{parts:List (Nat×Operand)}{ps:List (Nat×Value)}{css:List (List Value)}{X:List α}(b:P.underlying t=some (.slice e))(d:ZeroOk P e T z bytes)
 (j:(parts.map fun x=>(x.1,ev l x.2))=ps) (a:ps.map (fun p=>(p.1,p.2.cells))=css.zipIdx.map (fun x=>(x.2,x.1.toArray))) (k: ∀ (i:Nat) (c:List Value) (x:α),css[i]? =some c→X[i]? =some x→T.rep R c x)
 (n:css.length=X.length) (o:X.length=m) (hbig:m*T.size≤16777216):Eff P ρ ⟨dst,.buildSlice t m parts.toArray,ty,pos,after,g⟩ l R O fun v R' O'=> ∃ Oc,O'=Oc++O∧R'=R∧ ∃ f,Oc=[f]∧ORep T R f v X∧capOf v=X.length:=
 (z5r b d (by rw [List.map_toArray];exact congrArg List.toArray j) a k n o hbig).mono fun v R' O' _ ⟨q,r,f,s,h⟩=>by subst q;exact⟨[f],s,rfl,f,rfl,h,r⟩
theorem zf9{place:Nat→Option (Nat×Nat)}: ∀ (ps ps':List (Nat×Value)) (cells:Array Value),ps.map (fun p=>(p.1,p.2.cells))=ps'.map (fun p=>(p.1,p.2.cells))→Instr.fill place cells ps=Instr.fill place cells ps'
 | [],[],_,_=>rfl
 | [],_::_,_,h=>by simp at h
 |_::_,[],_,h=>by simp at h
 |(i,v)::r,(j,u)::r',cells,h=>by
  simp only [List.map_cons,List.cons.injEq,Prod.mk.injEq] at h
  obtain⟨⟨rfl,a⟩,b⟩:=h
  simp only [Instr.fill,a]
  cases place i with
  |none=>rfl
  |some q=>simp only [];rw [zf9 r r' _ b]
theorem zmu{P:Program}{ρ:Option Nat}{l:Nat→Value}{R:RH}{O:List Frag}{dst:Option Tmp}{ty:TypeId}{pos:String}{after:Array Go.Edge}{g:Option (Nat×Bool)}{t:TypeId}{parts:List (Nat×Operand)}{ps:List (Nat×Value)}(ps':List (Nat×Value)){v:Value}(a:(parts.map fun x=>(x.1,ev l x.2))=ps)
 (b:ps.map (fun p=>(p.1,p.2.cells))=ps'.map (fun p=>(p.1,p.2.cells))) (h: ∀ w,(Instr.build t ps'.toArray).run P w= .ok v w):Val P ρ ⟨dst,.build t parts.toArray,ty,pos,after,g⟩ l R O v:=
 uk a fun w=>by
  have:(Instr.build t ps.toArray)=(Instr.build t ps'.toArray):=by
   simp only [Instr.build,zf9 (place:=_) ps ps' _ b]
  rw [this];exact h w
section step
variable {P : Program} {ρ : Option Nat} {n : Nat} {Q : Po} {l : Nat → Value} {D : List Nat} {R : RH} {O : List Frag} {ops : Array Oper} {rest : List Oper} {ty : TypeId} {pos : String} {after : Array Go.Edge} {d : Nat}
theorem zjr{op:Op}{φ:Value→RH→Prop}(b:Nat.blt d n=true)(h:Eff P ρ ⟨some d,op,ty,pos,after,none⟩ l R O (fun v R' O'=>O'=O∧φ v R'))(c: ∀ v R',RH.le R R'→φ v R'→wo P ρ n ops Q rest (upd l d v) D R' O):
 wo P ρ n ops Q (⟨some d,op,ty,pos,after,none⟩::rest) l D R O:=z3m b h fun v R' O' a ⟨e,f⟩=>by subst e;exact c v R' a f
theorem zwk{op:Op}{Oc Or:List Frag}{φ:Value→RH→List Frag→Prop}(c:Nat.blt d n=true)(a:O.Perm (Oc++Or))(h:Eff P ρ ⟨some d,op,ty,pos,after,none⟩ l R (Oc++Or) (fun v R' O'=> ∃ Oc',O'=Oc'++Or∧φ v R' Oc'))
 (f: ∀ v R' Oc',RH.le R R'→φ v R' Oc'→wo P ρ n ops Q rest (upd l d v) D R' (Oc'++Or)):wo P ρ n ops Q (⟨some d,op,ty,pos,after,none⟩::rest) l D R O:=
 z3m c (ku a h) fun v R' O' b ⟨Oc',e,a⟩=>by subst e;exact f v R' Oc' b a
theorem zby{op:Op}{Oc Or:List Frag}{φ:Value→RH→List Frag→Prop}(a:O.Perm (Oc++Or))(h:Eff P ρ ⟨none,op,ty,pos,after,none⟩ l R (Oc++Or) (fun v R' O'=> ∃ Oc',O'=Oc'++Or∧φ v R' Oc'))
 (c: ∀ v R' Oc',RH.le R R'→φ v R' Oc'→wo P ρ n ops Q rest l D R' (Oc'++Or)):wo P ρ n ops Q (⟨none,op,ty,pos,after,none⟩::rest) l D R O:=
 z7z (ku a h) fun v R' O' b ⟨Oc',e,a⟩=>by subst e;exact c v R' Oc' b a
end step
end GV
end Go.Proofs.YtkkcidhcfkmbjaaGreatDoor

namespace Go.Proofs.YtkkcidhcfkmbjaaGreatDoor
namespace GV
theorem zrh{cs vs:List Value}{a o s:Nat}(e:o+vs.length≤s)(f:a+s≤cs.length):over cs (a+o) vs=over cs a (over ((cs.drop a).take s) o vs):=by
 unfold over
 have g:((List.drop a cs).take s).length=s:=by rw [List.length_take,List.length_drop];omega
 have b:cs.take (a+o)=cs.take a++((cs.drop a).take s).take o:=by
  rw [List.take_take,Nat.min_eq_left (by omega),List.take_add]
 have c:a+((((cs.drop a).take s).take o++vs)++((cs.drop a).take s).drop (o+vs.length)).length=a+s:=by
  simp only [List.length_append,List.length_take,List.length_drop];omega
 rw [c,b]
 have d:cs.drop (a+o+vs.length)=((cs.drop a).take s).drop (o+vs.length)++cs.drop (a+s):=by
  rw [List.drop_take,List.drop_drop,show a+(o+vs.length)=a+o+vs.length by omega]
  have:=(List.take_append_drop (s-(o+vs.length)) (cs.drop (a+o+vs.length))).symm
  rw [List.drop_drop,show a+o+vs.length+(s-(o+vs.length))=a+s by omega] at this
  exact this
 rw [d]
 simp only [List.append_assoc]
def za0{α β:Type}(A:Ty α)(o:Nat)(B:Ty β)(s:α→β→α):Prop:=
 o+B.size≤A.size∧ ∀ R cs ds x y,A.rep R cs x→B.rep R ds y→A.rep R (over cs o ds) (s x y)
theorem zyc{α β:Type}{A:Ty α}{B:Ty β}:za0 (tq A B) 0 A (fun x y=>(y,x.2)):=⟨by simp [tq],by
 rintro R cs ds x y ⟨ca,cb,rfl,b,c⟩ a
 refine⟨ds,cb,?_,a,c⟩
 unfold over
 rw [List.take_zero,List.nil_append,Nat.zero_add,A.len a,←A.len b,List.drop_left]⟩
theorem zzj{α β γ:Type}{T:Ty α}{f:β→α}{C:Ty γ}{o:Nat}{s:α→γ→α}{g:β→γ→β}(h:za0 T o C s)(e: ∀ x y,f (g x y)=s (f x) y):za0 (T.as f) o C g:=
 ⟨h.1,fun R cs ds x y a b=>by show T.rep R _ (f (g x y));rw [e];exact h.2 R cs ds (f x) y a b⟩
def z4h{α:Type}(T:Ty α)(o:Nat)(v:Value)(X:List α)(u:Value)(i:Nat):Prop:= ∃ b off,v= .slice (some ⟨b,off,none⟩) X.length (capOf v)∧u= .pointer (some ⟨b,off+i*T.size+o,none⟩)
section p
variable {P : Program} {ρ : Option Nat} {n : Nat} {ops : Array Oper} {Q : Po} {rest : List Oper} {l : Nat → Value} {D : List Nat} {R : RH} {O : List Frag} {ty : TypeId} {pos : String} {after : Array Go.Edge} {d : Nat} {dst : Option Tmp} {g : Option (Nat × Bool)}
variable {α β : Type} {T : Ty α} {B : Ty β} {X : List α} {v u w : Value} {x y : Operand} {f F : Frag} {i j o fld : Nat} {t s : TypeId} {pr : α → β} {se : α → β → α}
theorem zng(a:FieldOk P s fld o)(c:ev l x=u)(d:z1i T v X u i): ∃ u',z4h T o v X u' i∧ ∀ (dst:Option Tmp) (ty:TypeId) (pos:String) (after:Array Go.Edge) (g:Option (Nat×Bool)),Val P ρ ⟨dst,.fieldAddr s x fld,ty,pos,after,g⟩ l R O u':=by
 obtain⟨b,off,e,rfl⟩:=d
 exact⟨_,⟨b,off,e,rfl⟩,fun dst ty pos after g=>zq a c⟩
theorem zda(d:FieldOk P s fld o)(e:ev l x=u)(f:z1i T v X u i):Eff P ρ ⟨dst,.fieldAddr s x fld,ty,pos,after,g⟩ l R O (fun v' R' O'=>O'=O∧z4h T o v X v' i):=by
 obtain⟨u',h,j⟩:=zng (ρ:=ρ) (P:=P) (R:=R) (O:=O) d e f
 exact(j dst ty pos after g).eff.mono fun v' R' O' _ ⟨a,b,c⟩=>by subst a;exact⟨c,h⟩
theorem zmz(n:TyOk P t B)(hpart:Part T o B pr)(p:ORep T R f v X)(q:Has F f)(e:O[j]? =some F)(r:ev l x=u)(s:z4h T o v X u i){z:α}(k:X[i]? =some z):
 ∃ u,VRep B R u (pr z)∧ ∀ (dst:Option Tmp) (ty:TypeId) (pos:String) (after:Array Go.Edge) (g:Option (Nat×Bool)),Val P ρ ⟨dst,.load t x,ty,pos,after,g⟩ l R O u:=by
 obtain⟨b,off,m,rfl⟩:=s
 rcases p with⟨rfl,rfl,_⟩|⟨b',pre,cs,cap,bt,rfl,rfl,G,y,C,d⟩
 ·simp at k
 ·simp only [capOf,Value.slice.injEq,Option.some.injEq,Addr.mk.injEq,and_true] at m
  obtain⟨rfl,rfl⟩:=m
  have D:T.rep R (cellsAt (pre++cs).toArray (pre.length+i*T.size) T.size) z:=by rw [z0s];simpa [cellsAt] using d i z k
  have a:=hpart.2 R _ _ D
  rw [zca hpart.1] at a
  refine⟨B.mk' (cellsAt (pre++cs).toArray (pre.length+i*T.size+o) B.size),⟨_,a,rfl⟩,fun dst ty pos after g A w E=>?_⟩
  rw [qj (by intro c h;cases h)]
  have hblk:w.heap[b']? =some (.cells (pre++cs).toArray bt (0,0)):=sj E (i:=j) (by rw [List.getElem?_append_left (by exact(List.getElem?_eq_some_iff.1 e).1)];exact e) (q _ _ (single_same _ _))
  simp only [execOp,r,Instr.loadAt,Instr.sureAddr,Sem.run_bind,Sem.run_pure,Result.andThen_ok,z6k n hblk (R:=R) (x:=pr z) a]
theorem zik[Inhabited α](e:TyOk P t B)(hpart:Part T o B pr)(d:ORep T R f v X)(k:O[j]? =some f)(m:ev l x=u)(n:z4h T o v X u i)(p:i<X.length):
 Eff P ρ ⟨dst,.load t x,ty,pos,after,g⟩ l R O (fun v' R' O'=>O'=O∧phR B (pr (X.getD i default)) v' R'):=by
 obtain⟨w,q,d⟩:=zmz (ρ:=ρ) (P:=P) e hpart d (fun _ _ h=>h) k m n (getD_some p)
 exact(d dst ty pos after g).eff.mono fun v' R' O' _ ⟨a,b,c⟩=>by subst a;subst b;exact⟨c,q⟩
theorem zjt[Inhabited α](E:za0 T o B se)(G:TyOk P t B)(H:ORep T R f v X)(I:O[j]? =some f)(J:ev l x=u)(K:z4h T o v X u i)(hi:i<X.length)(L:ev l y=w){z:β}(M:VRep B R w z):
 Eff P ρ ⟨dst,.store t x y,ty,pos,after,g⟩ l R O (fun _ R' O'=>R'=R∧ ∃ f',O'=O.set j f'∧ORep T R f' v (X.set i (se (X.getD i default) z))):=by
 obtain⟨b,off,F,rfl⟩:=K
 rcases H with⟨rfl,rfl,_⟩|⟨b',pre,cs,cap,bt,rfl,rfl,N,s,n,p⟩
 ·simp at hi
 ·simp only [capOf,Value.slice.injEq,Option.some.injEq,Addr.mk.injEq,and_true] at F
  obtain⟨rfl,rfl⟩:=F
  obtain⟨vs,d,rfl⟩:=M
  have hlen:=B.len d
  have hroom:i*T.size+T.size≤cs.length:=by
   have:(i+1)*T.size≤cap*T.size:=Nat.mul_le_mul_right _ (by omega)
   rw [Nat.add_mul,Nat.one_mul] at this
   omega
  have Q:=E.1
  refine(bn (dst:=dst) (ty:=ty) (pos:=pos) (after:=after) (g:=g) G.size J L (zfx d) hlen I (by rw [List.length_append];omega) (B.cell d)).mono ?_
  rintro v' R' O' _ ⟨rfl,rfl,rfl⟩
  have hold:=p i (X.getD i default) (getD_some hi)
  have hnew:=E.2 R' _ _ _ _ hold d
  have h:=T.len hnew
  have A:over (pre++cs) (pre.length+i*T.size+o) vs=pre++over cs (i*T.size) (over ((cs.drop (i*T.size)).take T.size) o vs):=by
   rw [Nat.add_assoc,z9u,zrh (by omega) hroom]
  refine⟨rfl,_,rfl,.inr ⟨b',pre,over cs (i*T.size) (over ((cs.drop (i*T.size)).take T.size) o vs),cap,bt,by rw [List.length_set],by rw [A],by rw [List.length_set];exact N,?_,?_,fun k x r=>?_⟩⟩
  ·have e: ∀ (a:List Value),a.length=T.size→(over cs (i*T.size) a).length=cs.length:=fun a U=>by
    simp only [over,List.length_append,List.length_take,List.length_drop];omega
   rw [e _ h];exact s
  ·intro q c
   rcases List.mem_append.1 c with c|c
   ·exact n q (List.mem_append.2 (.inl c))
   ·generalize over ((cs.drop (i*T.size)).take T.size) o vs=nw at c hnew
    simp only [over,List.mem_append] at c
    rcases c with(c|c)|c
    ·exact n q (List.mem_append.2 (.inr (List.mem_of_mem_take c)))
    ·exact T.cell hnew q c
    ·exact n q (List.mem_append.2 (.inr (List.mem_of_mem_drop c)))
  ·generalize over ((cs.drop (i*T.size)).take T.size) o vs=nw at hnew h
   rw [List.getElem?_set] at r
   by_cases hik:i=k
   ·subst hik
    rw [if_pos rfl,if_pos hi] at r
    cases r
    have:((over cs (i*T.size) nw).drop (i*T.size)).take T.size=nw:=by
     unfold over
     rw [List.append_assoc,List.drop_append,List.drop_eq_nil_of_le (by rw [List.length_take];exact Nat.min_le_left _ _),List.length_take,Nat.min_eq_left (by omega),Nat.sub_self,List.drop_zero,List.nil_append,←h,List.take_left]
    rw [this];exact hnew
   ·rw [if_neg hik] at r
    have S:=p k x r
    have:((over cs (i*T.size) nw).drop (k*T.size)).take T.size=(cs.drop (k*T.size)).take T.size:=by
     apply List.ext_getElem?
     intro j
     rw [List.getElem?_take,List.getElem?_take]
     split
     ·rename_i hj
      rw [List.getElem?_drop,List.getElem?_drop]
      unfold over
      have C:k*T.size+j<i*T.size∨i*T.size+T.size≤k*T.size+j:=by
       rcases Nat.lt_or_ge k i with m|D
       ·left
        have:(k+1)*T.size≤i*T.size:=Nat.mul_le_mul_right _ m
        rw [Nat.add_mul,Nat.one_mul] at this;omega
       ·right
        have:(i+1)*T.size≤k*T.size:=Nat.mul_le_mul_right _ (by omega)
        rw [Nat.add_mul,Nat.one_mul] at this;omega
      rw [List.append_assoc,List.getElem?_append,List.length_take,Nat.min_eq_left (by omega)]
      rcases C with m|D
      ·rw [if_pos m,List.getElem?_take,if_pos m]
      ·rw [if_neg (by omega),List.getElem?_append,h,if_neg (by omega),List.getElem?_drop]
       congr 1
       omega
     ·rfl
    rw [this];exact S
end p
section q
variable {P : Program} {ρ : Option Nat} {l : Nat → Value} {R : RH} {O : List Frag} {ty : TypeId} {pos : String} {after : Array Go.Edge} {dst : Option Tmp} {g : Option (Nat × Bool)}
variable {α β : Type} [Inhabited α] {b : Bool} {T : Ty α} {B : Ty β} {Vs : List Value} {X : List (List α)} {v u w : Value} {x y : Operand} {F : Frag} {i j o r : Nat} {t : TypeId} {pr : α → β} {se : α → β → α}
end q
end GV
end Go.Proofs.YtkkcidhcfkmbjaaGreatDoor

namespace Go.Proofs.YtkkcidhcfkmbjaaGreatDoor
namespace GV
/-! ### A map's entries as a list of pairs,in the order in which the keys came-/
def ai{κ β:Type}[DecidableEq κ](z:β):List (κ×β)→κ→β
 | [],_=>z
 |p::l,k=>if k=p.1 then p.2 else ai z l k
def z1x{κ β:Type}[DecidableEq κ]:List (κ×β)→κ→Bool
 | [],_=>false
 |p::l,k=>if k=p.1 then true else z1x l k
def z1q{κ β:Type}[DecidableEq κ]:List (κ×β)→κ→β→List (κ×β)
 | [],k,v=>[(k,v)]
 |p::l,k,v=>if k=p.1 then(k,v)::l else p::z1q l k v
def z4n{κ β:Type}[DecidableEq κ]:List (κ×β)→κ→Nat→Option (Nat×β)
 | [],_,_=>none
 |p::l,k,i=>if k=p.1 then some (i,p.2) else z4n l k (i+1)
def zau(e:MapEntry):Value×Value:=(e.key,e.val)
def zc9{κ β:Type}(ke:κ→Value)(ve:β→Value)(es:Array MapEntry)(M:List (κ×β)):Prop:=es.toList.map zau=M.map fun p=>(ke p.1,ve p.2)
structure KOk (P:Program) (kt:TypeId) {κ:Type} [DecidableEq κ] (ke:κ→Value):Prop where
 check: ∀ (b:Bool) (k:κ) (w:World),(Instr.checkKey b 10000 kt (ke k)).run P w= .ok () w
 find: ∀ {β:Type} (k:κ) (es:List MapEntry) (M:List (κ×β)) (ve:β→Value) (w:World),es.map zau=M.map (fun p=>(ke p.1,ve p.2))→
  (Instr.findKey kt (ke k) es).run P w= .ok ((z4n M k 0).map fun p=>(p.1,ve p.2)) w
 same: ∀ k:κ,Instr.sameBits 10000 (ke k) (ke k)=true
theorem ze0{β:Type}{q q':IntKind}{k:Int}{ve:β→Value}: ∀ (es:List MapEntry) (M:List (Int×β)) (i:Nat),es.map zau=M.map (fun p=>(Value.int q p.1,ve p.2))→
 Instr.findNow (.int q') (.int q k) es i=some ((z4n M k i).map fun p=>(p.1,ve p.2))
 | [],[],i,_=>rfl
 | [],_::_,_,h=>by simp at h
 |_::_,[],_,h=>by simp at h
 |e::es,p::M,i,h=>by
  simp only [List.map_cons,List.cons.injEq,zau,Prod.mk.injEq] at h
  obtain⟨⟨a,b⟩,c⟩:=h
  unfold Instr.findNow
  rw [a]
  simp only [Instr.sameNow,if_pos]
  unfold z4n
  by_cases hk:k=p.1
  ·simp [hk,b]
  ·have:(k==p.1)=false:=by simpa using hk
   rw [this]
   simp only [if_neg hk]
   exact ze0 es M (i+1) c
theorem zvr{P:Program}{kt:TypeId}{q:IntKind}(a:P.underlying kt=some (.int q)):KOk P kt (Value.int q) where
 check b k w:=MapKept.run_checkKey a (by simp [MapKept.IsKey]) b 9999
 find k es M ve w h:=MapKept.run_findKey a (ze0 es M 0 h)
 same k:=by simp [Instr.sameBits]
section m
variable {κ β : Type} [DecidableEq κ] {ke : κ → Value} {ve : β → Value} {M : List (κ × β)} {k : κ} {z : β}
theorem zrd(i:Nat):((z4n M k i).map (·.2)).getD z=ai z M k:=by
 induction M generalizing i with
 |nil=>rfl
 |cons p l ih=>
  unfold z4n ai
  by_cases h:k=p.1
  ·simp [h]
  ·simp only [if_neg h];exact ih (i+1)
theorem zps(i:Nat):(z4n M k i).isSome=z1x M k:=by
 induction M generalizing i with
 |nil=>rfl
 |cons p l ih=>
  unfold z4n z1x
  by_cases h:k=p.1
  ·simp [h]
  ·simp only [if_neg h];exact ih (i+1)
theorem zni{i:Nat}{v:β}(h:z4n M k i=none):z1q M k v=M++[(k,v)]:=by
 induction M generalizing i with
 |nil=>rfl
 |cons p l ih=>
  unfold z4n at h
  by_cases hk:k=p.1
  ·simp [hk] at h
  ·rw [if_neg hk] at h
   simp only [z1q,if_neg hk,ih h,List.cons_append]
theorem zmr{i j:Nat}{u v:β}(h:z4n M k i=some (j,u)):i≤j∧M[j-i]? =some (k,u)∧z1q M k v=M.set (j-i) (k,v):=by
 induction M generalizing i with
 |nil=>cases h
 |cons p l ih=>
  unfold z4n at h
  by_cases hk:k=p.1
  ·rw [if_pos hk] at h
   simp only [Option.some.injEq,Prod.mk.injEq] at h
   obtain⟨rfl,rfl⟩:=h
   refine⟨Nat.le_refl _,?_,?_⟩
   ·simp [hk]
   ·simp [z1q,hk]
  ·rw [if_neg hk] at h
   obtain⟨c,a,b⟩:=ih h
   have e:j-i=(j-(i+1))+1:=by omega
   refine⟨by omega,?_,?_⟩
   ·rw [e,List.getElem?_cons_succ];exact a
   ·rw [e,List.set_cons_succ,←b];simp [z1q,hk]
end m
def zo2{κ β:Type}(ke:κ→Value)(ve:β→Value):Ty (List (κ×β)) where
 size:=1
 agg:=false
 rep R cs M:= ∃ b es c,cs=[.map (some b)]∧R.blk b=some (.map es c)∧zc9 ke ve es M
 len:=by rintro R cs X ⟨b,es,c,rfl,_⟩;rfl
 mono:=by rintro R R' cs X hle ⟨b,es,c,rfl,a,d⟩;exact⟨b,es,c,rfl,hle.blk _ _ a,d⟩
 one _:=rfl
 cell:=by rintro R cs X ⟨b,es,c,rfl,_⟩ v hv;simp at hv;subst hv;rfl
theorem zl7{κ β:Type}{ke:κ→Value}{ve:β→Value}{R:RH}{v:Value}{M:List (κ×β)}:VRep (zo2 ke ve) R v M↔ ∃ b es c,v= .map (some b)∧R.blk b=some (.map es c)∧zc9 ke ve es M:=
 ⟨fun⟨_,⟨b,es,c,h,a⟩,e⟩=>by subst h;exact⟨b,es,c,e,a⟩,fun⟨b,es,c,h,a⟩=>⟨_,⟨b,es,c,rfl,a⟩,h⟩⟩
def MRep{κ β:Type}(ke:κ→Value)(ve:β→Value)(R:RH)(f:Frag)(v:Value)(M:List (κ×β)):Prop:=
 ∃ b es c,v= .map (some b)∧f=single b (.map es c)∧zc9 ke ve es M
theorem MRep.mono{κ β:Type}{ke:κ→Value}{ve:β→Value}{R R':RH}{f:Frag}{v:Value}{M:List (κ×β)}(h:MRep ke ve R f v M)(a:RH.le R R'):MRep ke ve R' f v M:=h
section e
variable {P : Program} {ρ : Option Nat} {n : Nat} {ops : Array Oper} {Q : Po} {rest : List Oper} {l : Nat → Value} {D : List Nat} {R : RH} {O : List Frag} {ty : TypeId} {pos : String} {after : Array Go.Edge} {d : Nat} {dst : Option Tmp} {g : Option (Nat × Bool)}
variable {κ β : Type} {ke : κ → Value} {ve : β → Value} {M : List (κ × β)} {k : κ} {z : β} {t kt et : TypeId} {x y s : Operand} {v : Value} {f : Frag}
theorem zpy(h:MRep ke ve R f v M):v.oneCell'=true:=by
 obtain⟨b,es,c,rfl,_⟩:=h;rfl
theorem zm6(h:MRep ke ve R f v M):v.cells=[v].toArray:=by
 obtain⟨b,es,c,rfl,_⟩:=h;rfl
theorem zm7:Eff P ρ ⟨dst,.makeMap t none,ty,pos,after,g⟩ l R O (fun v R' O'=>R'=R∧ ∃ f,O'=f::O∧MRep ke ve R f v ([]:List (κ×β))):=by
 intro A w a;rw [qj (by intro c h;cases h)]
 simp only [execOp,Option.map,Instr.makeMap,Sem.run_bind,run_newObj,Sem.run_pure,Result.andThen_ok]
 exact⟨R,_,RH.le.refl _,z1y a _,rfl,_,rfl,_,#[],0,rfl,rfl,rfl⟩
theorem z8s(a:Nat.blt d n=true)(b: ∀ v f,MRep ke ve R f v ([]:List (κ×β))→wo P ρ n ops Q rest (upd l d v) D R (f::O)):wo P ρ n ops Q (⟨some d,.makeMap t none,ty,pos,after,none⟩::rest) l D R O:=
 z3m a (zm7 (ke:=ke) (ve:=ve)) fun v R' O' _ ⟨c,f,e,h⟩=>by subst c;subst e;exact b v f h
variable [DecidableEq κ]
theorem zar{b:Nat}{es:Array MapEntry}{c:Nat}{w:World}{u:β}(m:P.underlying t=some (.map kt et))(f:KOk P kt ke)(g:w.heap[b]? =some (.map es c))(a:zc9 ke ve es M):
 ∃ es' c',(Instr.mapUpdate t (.map (some b)) (ke k) (ve u)).run P w= .ok () {w with heap:=w.heap.setIfInBounds b (.map es' c')}∧zc9 ke ve es' (z1q M k u):=by
 have n:=f.find k es.toList M ve w a
 unfold Instr.mapUpdate
 simp only [Sem.run_bind,run_underlying m,Result.andThen_ok,MapKept.run_getObj_map g,f.check,n]
 cases hm:z4n M k 0 with
 |none=>
  simp only [Option.map_none,MapKept.run_setObj_map _ g]
  refine⟨_,_,rfl,?_⟩
  unfold zc9 at a⊢
  rw [Array.toList_push,List.map_append,a,zni hm,List.map_append]
  rfl
 |some p=>
  obtain⟨j,h⟩:=p
  obtain⟨_,l,o⟩:=zmr (v:=u) hm
  simp only [Option.map_some]
  have hkey:((es[j]?).map (·.key)).getD (ke k)=ke k:=by
   have d:(es.toList.map zau)[j]? =some (ke k,ve h):=by rw [a,List.getElem?_map,show M[j]? =some (k,h) from l];rfl
   rw [List.getElem?_map,Array.getElem?_toList] at d
   cases he:es[j]? with
   |none=>rfl
   |some e=>rw [he] at d;simp only [Option.map_some,zau,Option.some.injEq,Prod.mk.injEq] at d;simp [d.1]
  rw [hkey]
  simp only [Instr.keyThatStays,f.same,if_true,Sem.run_pure,Sem.run_bind,Result.andThen_ok,MapKept.run_setObj_map _ g]
  refine⟨_,_,rfl,?_⟩
  unfold zc9 at a⊢
  rw [o,Array.toList_modify]
  apply List.ext_getElem?
  intro i
  have hi:(es.toList.map zau)[i]? =(M.map fun p=>(ke p.1,ve p.2))[i]? :=by rw [a]
  rw [List.getElem?_map,List.getElem?_modify,List.getElem?_map,List.getElem?_set]
  rw [List.getElem?_map,List.getElem?_map] at hi
  by_cases hij:j=i
  ·subst hij
   have q:j<M.length:=(List.getElem?_eq_some_iff.1 l).1
   simp only [Nat.sub_zero,if_true,q]
   rw [show M[j]? =some (k,h) from l] at hi
   cases he:es.toList[j]? with
   |none=>rw [he] at hi;simp at hi
   |some e=>simp [zau]
  ·simp only [Nat.sub_zero,if_neg hij]
   simpa using hi
theorem zh7{u:β}{w0 q:Value}{i:Nat}(p:P.underlying t=some (.map kt et))(r:KOk P kt ke)(m:O[i]? =some f)(h:MRep ke ve R f v M)(z:ev l x=v)(B:ev l y=ke k)(C:ev l s=ve u):
 Eff P ρ ⟨dst,.mapUpdate t x y s,ty,pos,after,g⟩ l R O (fun v' R' O'=>v'=undef∧R'=R∧ ∃ f',O'=O.set i f'∧MRep ke ve R f' v (z1q M k u)):=by
 intro A w n;rw [qj (by intro c h;cases h)]
 obtain⟨b,es,c,rfl,rfl,D⟩:=h
 have a:i<O.length:=(List.getElem?_eq_some_iff.1 m).1
 have hO':(O++A)[i]? =some (single b (.map es c)):=by rw [List.getElem?_append_left a];exact m
 have o:w.heap[b]? =some (.map es c):=sj n hO' (single_same _ _)
 obtain⟨es',c',E,F⟩:=zar (k:=k) (u:=u) p r o D
 have d:(execOp (ev l) (⟨dst,.mapUpdate t x y s,ty,pos,after,g⟩:Oper)).run P w= .ok .skip {w with heap:=w.heap.setIfInBounds b (.map es' c')}:=by
  simp only [execOp,z,B,C,Sem.run_bind,E,Result.andThen_ok]
  rfl
 rw [d]
 have e:b<w.heap.size:=(Array.getElem?_eq_some_iff.1 o).1
 refine⟨R,_,RH.le.refl _,?_,rfl,rfl,_,rfl,_,es',c',rfl,rfl,F⟩
 have:=z5g (w':= {w with heap:=w.heap.setIfInBounds b (.map es' c')}) n hO' (o':= .map es' c') (by simp [e]) (fun j G=>by simp [Ne.symm G]) rfl rfl trivial
 rwa [List.set_append_left _ _ a] at this
theorem z5d{u:β}{i:Nat}(a:P.underlying t=some (.map kt et))(b:KOk P kt ke)(c:O[i]? =some f)(h:MRep ke ve R f v M)(d:ev l x=v)(e:ev l y=ke k)(g:ev l s=ve u)
 (j: ∀ f',MRep ke ve R f' v (z1q M k u)→wo P ρ n ops Q rest l D R (O.set i f')):wo P ρ n ops Q (⟨none,.mapUpdate t x y s,ty,pos,after,none⟩::rest) l D R O:=
 z7z (zh7 (w0:=undef) (q:=undef) a b c h d e g) fun v' R' O' _ ⟨_,m,f',hO',h⟩=>by subst m;subst hO';exact j f' h
theorem zh4{u:β}{w0 q:Value}{i:Nat}(p:P.underlying t=some (.map kt et))(r:KOk P kt ke)(m:O[i]? =some f)(h:MRep ke ve R f v M)(z:ev l x=v)(B:ev l y=ke k)(C:ev l s=ve u):
 Eff P ρ ⟨dst,.insert t x y s,ty,pos,after,g⟩ l R O (fun v' R' O'=>v'=undef∧R'=R∧ ∃ f',O'=O.set i f'∧MRep ke ve R f' v (z1q M k u)):=by
 intro A w n;rw [qj (by intro c h;cases h)]
 obtain⟨b,es,c,rfl,rfl,D⟩:=h
 have a:i<O.length:=(List.getElem?_eq_some_iff.1 m).1
 have hO':(O++A)[i]? =some (single b (.map es c)):=by rw [List.getElem?_append_left a];exact m
 have o:w.heap[b]? =some (.map es c):=sj n hO' (single_same _ _)
 obtain⟨es',c',E,F⟩:=zar (k:=k) (u:=u) p r o D
 have d:(execOp (ev l) (⟨dst,.insert t x y s,ty,pos,after,g⟩:Oper)).run P w= .ok .skip {w with heap:=w.heap.setIfInBounds b (.map es' c')}:=by
  simp only [execOp,z,B,C,Sem.run_bind,E,Result.andThen_ok]
  rfl
 rw [d]
 have e:b<w.heap.size:=(Array.getElem?_eq_some_iff.1 o).1
 refine⟨R,_,RH.le.refl _,?_,rfl,rfl,_,rfl,_,es',c',rfl,rfl,F⟩
 have:=z5g (w':= {w with heap:=w.heap.setIfInBounds b (.map es' c')}) n hO' (o':= .map es' c') (by simp [e]) (fun j G=>by simp [Ne.symm G]) rfl rfl trivial
 rwa [List.set_append_left _ _ a] at this
theorem zct{u:β}{i:Nat}(a:P.underlying t=some (.map kt et))(b:KOk P kt ke)(c:O[i]? =some f)(h:MRep ke ve R f v M)(d:ev l x=v)(e:ev l y=ke k)(g:ev l s=ve u)
 (j: ∀ f',MRep ke ve R f' v (z1q M k u)→wo P ρ n ops Q rest l D R (O.set i f')):wo P ρ n ops Q (⟨none,.insert t x y s,ty,pos,after,none⟩::rest) l D R O:=
 z7z (zh4 (w0:=undef) (q:=undef) a b c h d e g) fun v' R' O' _ ⟨_,m,f',hO',h⟩=>by subst m;subst hO';exact j f' h
def MAt(ke:κ→Value)(ve:β→Value)(R:RH)(O:List Frag)(v:Value)(M:List (κ×β)):Prop:=
 ∀ A w,Holds R (O++A) w→ ∃ b es c,v= .map (some b)∧w.heap[b]? =some (.map es c)∧zc9 ke ve es M
omit [DecidableEq κ] in
theorem za1{i:Nat}(d:O[i]? =some f)(h:MRep ke ve R f v M):MAt ke ve R O v M:=by
 intro A w e
 obtain⟨b,es,c,rfl,rfl,g⟩:=h
 have a:i<O.length:=(List.getElem?_eq_some_iff.1 d).1
 exact⟨b,es,c,rfl,sj e (by rw [List.getElem?_append_left a];exact d) (single_same _ _),g⟩
omit [DecidableEq κ] in
theorem zuh(h:VRep (zo2 ke ve) R v M):MAt ke ve R O v M:=by
 intro A w a
 obtain⟨b,es,c,rfl,d,e⟩:=zl7.1 h
 exact⟨b,es,c,rfl,a.ro _ _ d,e⟩
omit [DecidableEq κ] in
theorem ztz{at':Array TypeId}(a:at'[0]? =some t)(d:P.underlying t=some (.map kt et))(e:ev l x=v)(h:MAt ke ve R O v M):Val P ρ ⟨dst,.call ⟨.builtin .len,#[x],at'⟩,ty,pos,after,g⟩ l R O (.int .i64 M.length):=by
 intro A w f;rw [qj (by intro c h;cases h)]
 obtain⟨b,es,c,rfl,i,j⟩:=h A w f
 have k:es.size=M.length:=by
  have:=congrArg List.length j
  simpa using this
 simp [execOp,resolve,invoke,builtin,Builtin.len_,a,underlying,d,e,goInt,MapKept.run_getObj_map i,k]
theorem zfv{b:Nat}{es:Array MapEntry}{c:Nat}{w:World}(d:P.underlying t=some (.map kt et))(a:KOk P kt ke)(e: ∀ w,(zeroValue et).run P w= .ok (ve z) w)(f:w.heap[b]? =some (.map es c))(g:zc9 ke ve es M)(ok:Bool):
 (Instr.lookup t (.map (some b)) (ke k) ok).run P w= .ok (if ok then .tuple #[ve (ai z M k),.bool (z1x M k)] else ve (ai z M k)) w:=by
 have h:=a.find k es.toList M ve w g
 unfold Instr.lookup
 simp only [Sem.run_bind,run_underlying d,Result.andThen_ok,MapKept.run_getObj_map f,a.check,h,Sem.run_pure]
 rw [←zrd 0,←zps 0]
 cases hm:z4n M k 0 with
 |none=>simp [e]
 |some p=>simp
theorem z88(a:P.underlying t=some (.map kt et))(d:KOk P kt ke)(e: ∀ w,(zeroValue et).run P w= .ok (ve z) w)(h:MAt ke ve R O v M)(f:ev l x=v)(i:ev l y=ke k):Val P ρ ⟨dst,.lookup t x y false,ty,pos,after,g⟩ l R O (ve (ai z M k)):=by
 intro A w j;rw [qj (by intro c h;cases h)]
 obtain⟨b,es,c,rfl,m,n⟩:=h A w j
 simp only [execOp,f,i,Sem.run_bind,zfv (k:=k) a d e m n,Result.andThen_ok]
 rfl
theorem zeb(a:P.underlying t=some (.map kt et))(d:KOk P kt ke)(e: ∀ w,(zeroValue et).run P w= .ok (ve z) w)(h:MAt ke ve R O v M)(f:ev l x=v)(i:ev l y=ke k):Val P ρ ⟨dst,.lookup t x y true,ty,pos,after,g⟩ l R O (.tuple #[ve (ai z M k),.bool (z1x M k)]):=by
 intro A w j;rw [qj (by intro c h;cases h)]
 obtain⟨b,es,c,rfl,m,n⟩:=h A w j
 simp only [execOp,f,i,Sem.run_bind,zfv (k:=k) a d e m n,Result.andThen_ok]
 rfl
end e
theorem zya{κ β:Type}{ke:κ→Value}{ve:β→Value}{R a:RH}{O:List Frag}{f:Frag}{v:Value}{M:List (κ×β)}(i:Nat)(hi:O[i]? =some f)(h:MRep ke ve R f v M)(d:RH.le R a)(e: ∀ f∈O,∀ k o,f k=some o→a.blk k=some o):VRep (zo2 ke ve) a v M:=by
 obtain⟨b,es,c,rfl,rfl,g⟩:=h
 exact zl7.2 ⟨b,es,c,rfl,e _ (List.mem_of_getElem? hi) b _ (single_same _ _),g⟩
end GV
end Go.Proofs.YtkkcidhcfkmbjaaGreatDoor
