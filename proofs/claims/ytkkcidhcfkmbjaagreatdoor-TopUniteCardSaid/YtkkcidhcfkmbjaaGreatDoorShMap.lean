
import Derived.Test.YtkkcidhcfkmbjaaGreatDoorShFree
import Derived.MapKept
set_option linter.unusedVariables false
set_option linter.unusedSimpArgs false
set_option linter.unusedSectionVars false
namespace Go.Proofs.YtkkcidhcfkmbjaaGreatDoor
namespace GV
def NRep{α:Type}(t:Bool)(T:Ty α)(R:RH)(F:Frag)(v:Value)(X:List (List α)):Prop:= ∃ Vs,N2 t T R F v Vs X
theorem NRep.mono{α:Type}{t:Bool}{T:Ty α}{R R':RH}{F:Frag}{v:Value}{X:List (List α)}(h:NRep t T R F v X)(b:RH.le R R'):NRep t T R' F v X:=let⟨Vs,a⟩:=h;⟨Vs,a.mono b⟩
theorem vk{α:Type}{t:Bool}{T:Ty α}{R:RH}{F:Frag}{v:Value}{Vs:List Value}{X:List (List α)}(h:N2 t T R F v Vs X):NRep t T R F v X:=⟨Vs,h⟩
theorem z8s{P:Program}{t:TypeId}{α:Type}{T:Ty α}{b:Bool}(h:TyOk P t (tSl b T)):TyOk P t tHdr:=⟨h.agg,h.size⟩
theorem zaq{P:Program}{t e:TypeId}{α:Type}{T:Ty α}{b:Bool}(h:SlOk P t e (tSl b T)):SlOk P t e tHdr:=⟨h.u,z8s h.e⟩
theorem zpc{R:RH}{w y:Value}(h:VRep tHdr R w y):w=y:=by obtain⟨cs,⟨rfl,_⟩,rfl⟩:=h;rfl
theorem zpb{R:RH}{w:Value}(h:w.oneCell'=true):VRep tHdr R w w:=⟨[w],⟨rfl,h⟩,rfl⟩
theorem zr0{R:RH}{w:Value}(h:w.oneCell'=true):tHdr.rep R [w] w:=⟨rfl,h⟩
theorem z1k{α:Type}{t:Bool}{T:Ty α}{R:RH}{F:Frag}{v:Value}{Vs:List Value}{X:List (List α)}(h:N2 t T R F v Vs X):v.oneCell'=true:=let⟨_,a,_⟩:=h.o;r9 a
theorem znr{α:Type}{t:Bool}{T:Ty α}{R:RH}{F:Frag}{v:Value}{Vs:List Value}{X:List (List α)}(h:N2 t T R F v Vs X):v.cells=([v]:List Value).toArray:=let⟨_,a,_⟩:=h.o;z0z a
theorem zt1{α:Type}{t:Bool}{T:Ty α}{R:RH}{F:Frag}{v:Value}{Vs:List Value}{X:List (List α)}(h:N2 t T R F v Vs X){r:Nat}(a:r<X.length)(e:t=true):capOf (Vs.getD r default)=(X.getD r default).length:=
 let⟨_,_,_,_,_,_,_,g⟩:=h;g e r a (fun h=>h)
theorem z5s{v:Value}(h:v.oneCell'=true):v.cells=([v]:List Value).toArray:=by
 cases v<;>first|rfl|(simp [Value.oneCell'] at h;done)
section ops
variable {P : Program} {ρ : Option Nat} {l : Nat → Value} {R : RH} {O : List Frag} {dst : Option Tmp} {ty : TypeId} {pos : String} {after : Array Go.Edge} {g : Option (Nat × Bool)} {α : Type} {t : Bool} {T : Ty α} {F : Frag} {v : Value} {Vs : List Value} {X : List (List α)}
theorem zel{tt e:TypeId}{x ix:Operand}{k:IntKind}{i:Nat}(a:SlOk P tt e tHdr)(b:ev l x=v)(h:N2 t T R F v Vs X)(hi:ev l ix= .int k i)(d:i<X.length):
 Eff P ρ ⟨dst,.indexAddr tt x ix,ty,pos,after,g⟩ l R O (fun v' R' O'=>O'=O∧(fun u _=>z1x tHdr v Vs u i) v' R'):=by
 obtain⟨f0,c,_,f⟩:=h.o
 exact z1t a b c hi (by omega)
theorem zgi{tt e:TypeId}{at':Array TypeId}{x:Operand}(a:at'[0]? =some tt)(b:P.underlying tt=some (.slice e))(c:ev l x=v)(h:N2 t T R F v Vs X):Val P ρ ⟨dst,.call ⟨.builtin .len,#[x],at'⟩,ty,pos,after,g⟩ l R O (.int .i64 X.length):=by
 obtain⟨f0,d,i,f⟩:=h.o
 rw [←f];exact z6w a b c d
theorem z5z{tt:TypeId}{x y:Operand}{u w:Value}{i r:Nat}{z:α}(c:TyOk P tt T)(h:N2 t T R F v Vs X)(b:r<X.length)(d:ev l x=u)(f:z1x T (Vs.getD r default) (X.getD r default) u i)(hi:i<(X.getD r default).length)
 (k:ev l y=w) (m:VRep T R w z):Eff P ρ ⟨dst,.store tt x y,ty,pos,after,g⟩ l R ([F]++O) (fun v' R' O'=> ∃ Oc,O'=Oc++O∧R'=R∧ ∃ F',Oc=[F']∧N2 t T R F' v Vs (X.set r ((X.getD r default).set i z))):=by
 obtain⟨fk,n,o,p⟩:=h.hole b
 refine zc4 (O1:=[fk]) (Or:=minus F fk::O) (fun A w a=>z7k a o) (z4b (j:=0) c n rfl d f hi k m) ?_
 rintro v' R' O1' q ⟨rfl,f',rfl,s⟩ A w a
 refine⟨ax f' (minus F fk)::O,z3b a,_,rfl,rfl,_,rfl,N2h.fill (u:=default) p b s (zou a) fun e=>?_⟩
 rw [List.length_set];exact zt1 h b e
theorem zdk{f g h:Frag}(a:Apart f g)(b:Apart f h):Apart f (ax g h):=fun k=>by
 unfold ax
 cases e:g k with
 |none=>exact b k
 |some o=>
  rcases a k with c|c
  ·exact .inl c
  ·rw [e] at c;cases c
theorem zs8{f0' f G:Frag}{Fs:List Frag}{r:Nat}{w:Value}{Y:List α}(B:r<X.length)(C:Vs.length=X.length)(D:ORep tHdr R f0' v (Vs.set r w))(E:ORep T R f w Y)(hrow:Rows T R G Vs X Fs (fun _=>False))(u:Apart f0' f)(x:Apart f0' G)(l:Apart f G)
 (m:zg7 t Vs X (fun _=>False)) (F:t=true→capOf w=Y.length):N2 t T R (ax f0' (ax f G)) v (Vs.set r w) (X.set r Y):=by
 obtain⟨o,a,p⟩:=hrow
 have n: ∀ j,¬(fun(_:Nat)=>False) j:=fun _ h=>h
 have b:Apart f0' (ax f G):=zdk u x
 have q:Has (ax f0' (ax f G)) f:=(z18 b).trans z4u
 have s:Has (ax f0' (ax f G)) G:=(z18 b).trans (z18 l)
 have g:=fun j=>z1m (X:=Fs) (j:=j) (y:=f) (d:=emp) (k:=r) (by omega)
 have z:=fun j=>z1m (X:=X) (j:=j) (y:=Y) (d:=default) B
 have A:=fun j=>z1m (X:=Vs) (j:=j) (y:=w) (d:=default) (k:=r) (by omega)
 refine⟨f0',Fs.set r f,by simp [C],D,z4u,⟨by simp [o],fun j b _=>?_,fun i j hi b _ _ c=>?_⟩,fun j b=>?_,fun e j b _=>?_⟩
 ·have hj':j<X.length:=by simpa using b
  rw [g,z,A]
  by_cases e:j=r
  ·subst e;rw [if_pos rfl,if_pos rfl,if_pos rfl];exact⟨E,q⟩
  ·rw [if_neg e,if_neg e,if_neg e];exact⟨(a j hj' (n j)).1,s.trans (a j hj' (n j)).2⟩
 ·have hi':i<X.length:=by simpa using hi
  have hj':j<X.length:=by simpa using b
  rw [g,g]
  by_cases e1:i=r
  ·rw [if_pos e1,if_neg (fun e=>c (e1.trans e.symm))]
   exact(a j hj' (n j)).2.apart l
  ·by_cases e2:j=r
   ·rw [if_neg e1,if_pos e2];exact((a i hi' (n i)).2.apart l).symm
   ·rw [if_neg e1,if_neg e2];exact p i j hi' hj' (n i) (n j) c
 ·have hj':j<X.length:=by simpa using b
  rw [g]
  by_cases e:j=r
  ·rw [if_pos e];exact u
  ·rw [if_neg e];exact(a j hj' (n j)).2.apart x
 ·have hj':j<X.length:=by simpa using b
  rw [z,A]
  by_cases e':j=r
  ·rw [if_pos e',if_pos e'];exact F e
  ·rw [if_neg e',if_neg e'];exact m e j hj' (n j)
theorem zde{f0:Frag}{Fs:List Frag}(hrow:Rows T R F Vs X Fs (fun _=>False))(a: ∀ j,j<X.length→Apart f0 (Fs.getD j emp)):Rows T R (minus F f0) Vs X Fs (fun _=>False):=
 ⟨hrow.1,fun j b n=>⟨(hrow.2.1 j b n).1,zae (hrow.2.1 j b n).2 (a j b)⟩,hrow.2.2⟩
theorem zi3{tt:TypeId}{x y:Operand}{u w:Value}{r:Nat}{f:Frag}{Y:List α}(n:TyOk P tt tHdr)(h:N2 t T R F v Vs X)(o:r<X.length)(p:ev l x=u)(q:z1x tHdr v Vs u r)(s:ev l y=w)(e:ORep T R f w Y)(z:t=true→capOf w=Y.length):
 Eff P ρ ⟨dst,.store tt x y,ty,pos,after,g⟩ l R ([F,f]++O) (fun v' R' O'=> ∃ Oc,O'=Oc++O∧R'=R∧ ∃ F',Oc=[F']∧N2 t T R F' v (Vs.set r w) (X.set r Y)):=by
 obtain⟨f0,Fs,B,C,a,hrow,b,c⟩:=h
 refine zc4 (O1:=[f0]) (Or:=minus F f0::f::O) (fun A w d=>z7k d a) (z4b (j:=0) n C rfl p q (by omega) s (zpb (r9 e))) ?_
 rintro v' R' O1' D ⟨rfl,f',rfl,E⟩ A w' d
 have k:Holds R' (f'::f::minus F f0::(O++A)) w':=jk d ((List.Perm.swap f _ _).cons _)
 obtain⟨m,G⟩:=List.pairwise_cons.1 k.sep
 obtain⟨H,M⟩:=List.pairwise_cons.1 G
 have I:Apart f' f:=fun i=>m f (by simp) i
 have J:Apart f' (minus F f0):=fun i=>m _ (by simp) i
 have K:Apart f (minus F f0):=fun i=>H _ (by simp) i
 refine⟨ax f' (ax f (minus F f0))::O,?_,_,rfl,rfl,_,rfl,zs8 o B E e (zde hrow b) I J K c z⟩
 have L:Holds R' (f::minus F f0::f'::(O++A)) w':=jk k ((List.Perm.swap f f' _).trans ((List.Perm.swap _ f' _).cons f))
 exact z3b (jk (z3b L) (List.Perm.swap f' _ _))
theorem lu{β:Type}{X Y:List β}{j:Nat}{d:β}(h:j<X.length):(X++Y).getD j d=X.getD j d:=by
 simp [List.getD_eq_getElem?_getD,List.getElem?_append_left h]
theorem zlv{β:Type}{X:List β}{y d:β}:(X++[y]).getD X.length d=y:=by
 simp [List.getD_eq_getElem?_getD]
theorem z19{β:Type}{X:List β}{y d:β}{j:Nat}(h:j=X.length):(X++[y]).getD j d=y:=h▸zlv
theorem zsf{f0' f G:Frag}{Fs:List Frag}{w v':Value}{Y:List α}(v:Vs.length=X.length)(x:ORep tHdr R f0' v' (Vs++[w]))(y:ORep T R f w Y)(hrow:Rows T R G Vs X Fs (fun _=>False))(s:Apart f0' f)(u:Apart f0' G)(g:Apart f G)
 (k:zg7 t Vs X (fun _=>False)) (z:t=true→capOf w=Y.length):N2 t T R (ax f0' (ax f G)) v' (Vs++[w]) (X++[Y]):=by
 obtain⟨l,c,m⟩:=hrow
 have n: ∀ j,¬(fun(_:Nat)=>False) j:=fun _ h=>h
 have a:Apart f0' (ax f G):=zdk s u
 have o:Has (ax f0' (ax f G)) f:=(z18 a).trans z4u
 have p:Has (ax f0' (ax f G)) G:=(z18 a).trans (z18 g)
 have b: ∀ j,j<(X++[Y]).length→j<X.length∨j=X.length:=fun j a=>by simp at a;omega
 refine⟨f0',Fs++[f],by simp [v],x,z4u,⟨by simp [l],fun j a _=>?_,fun i j hi a _ _ q=>?_⟩,fun j a=>?_,fun e j a _=>?_⟩
 ·rcases b j a with e|e
  ·rw [lu (by omega),lu (by omega),lu e];exact⟨(c j e (n j)).1,p.trans (c j e (n j)).2⟩
  ·rw [z19 (by omega),z19 (by omega),z19 e];exact⟨y,o⟩
 ·rcases b i hi with r|r
  ·rcases b j a with d|d
   ·rw [lu (by omega),lu (by omega)];exact m i j r d (n i) (n j) q
   ·rw [lu (by omega),z19 (by omega)];exact((c i r (n i)).2.apart g).symm
  ·rcases b j a with d|d
   ·rw [z19 (by omega),lu (by omega)];exact(c j d (n j)).2.apart g
   ·omega
 ·rcases b j a with e|e
  ·rw [lu (by omega)];exact(c j e (n j)).2.apart u
  ·rw [z19 (by omega)];exact s
 ·rcases b j a with e'|e'
  ·rw [lu (by omega),lu e'];exact k e j e' (n j)
  ·rw [z19 (by omega),z19 e'];exact z e
theorem zhy{z:Value}{bytes:Nat}{tt e:TypeId}{x y:Operand}{u w:Value}{f:Frag}{Y:List α}(n:P.underlying tt=some (.slice e))(o:ZeroOk P e tHdr z bytes)(p:ev l x=v)(q:ev l y=u)(h:N2 t T R F v Vs X)(r:ORep T R f w Y)(hu':VRep (uz tHdr) R u [w])
 (s:t=true→capOf w=Y.length) (B:(X.length+1)*bytes≤140737488355328) (C:X.length+1≤9223372036854775807):
 Eff P ρ ⟨dst,.call ⟨.builtin .append,#[x,y],#[tt,tt]⟩,ty,pos,after,g⟩ l R ([F,f]++O) (fun v' R' O'=> ∃ Oc,O'=Oc++O∧R'=R∧ ∃ F',Oc=[F']∧N2 t T R F' v' (Vs++[w]) (X++[Y])):=by
 obtain⟨f0,Fs,a,D,b,hrow,c,d⟩:=h
 refine zc4 (O1:=[f0]) (Or:=minus F f0::f::O) (fun A w j=>z7k j b) (z8v (i:=0) n o p q rfl D hu' (by rw [a];simpa using B) (by rw [a];simpa using C)) ?_
 rintro v' R' O1' E ⟨rfl,f',rfl,G⟩ A w' j
 have k:Holds R' (f'::f::minus F f0::(O++A)) w':=jk j ((List.Perm.swap f _ _).cons _)
 obtain⟨m,H⟩:=List.pairwise_cons.1 k.sep
 obtain⟨I,N⟩:=List.pairwise_cons.1 H
 have J:Apart f' f:=fun i=>m f (by simp) i
 have K:Apart f' (minus F f0):=fun i=>m _ (by simp) i
 have L:Apart f (minus F f0):=fun i=>I _ (by simp) i
 refine⟨ax f' (ax f (minus F f0))::O,?_,_,rfl,rfl,_,rfl,zsf a G r (zde hrow c) J K L d s⟩
 have M:Holds R' (f::minus F f0::f'::(O++A)) w':=jk k ((List.Perm.swap f f' _).trans ((List.Perm.swap _ f' _).cons f))
 exact z3b (jk (z3b M) (List.Perm.swap f' _ _))
theorem z7o{tt e:TypeId}{bytes:Nat}{x y:Operand}{n:Nat}{k k':IntKind}(h:P.underlying tt=some (.slice e))(i:ZeroOk P e tHdr (.slice none 0 0) bytes)(j:ev l x= .int k n)(m:ev l y= .int k' n)(o:bytes*n≤281474976710656)(p:n≤9223372036854775807):
 Eff P ρ ⟨dst,.makeSlice tt x y,ty,pos,after,g⟩ l R O (fun v R' O'=> ∃ Oc,O'=Oc++O∧R'=R∧ ∃ F,Oc=[F]∧N2 t T R F v (List.replicate n (.slice none 0 0)) (List.replicate n ([]:List α))∧capOf v=n):=
 (z9p h i j m (Nat.le_refl _) o p).mono fun v R' O' _ ⟨a,b,f,c,d⟩=>by subst a;exact⟨[f],c,rfl,f,rfl,zpr d,b⟩
end ops
section read
variable {α : Type} {t : Bool} {T : Ty α} {R R1 : RH} {f F : Frag} {v : Value} {Vs : List Value}
theorem zlo{X:List α}(h:ORep T R f v X)(a:RH.le R R1)(d: ∀ k o,f k=some o→R1.blk k=some o):VRep (uz T) R1 v X:=by
 rcases h with⟨rfl,rfl,rfl⟩|⟨b,pre,cs,cap,bt,rfl,rfl,g,j,l,c⟩
 ·exact z6r
 ·refine yx.2 ⟨_,cap,rfl,g,fun e=>by(cases e),.inr ⟨b,pre.length,(pre++cs).toArray,bt,(0,0),rfl,d _ _ (single_same _ _),fun i x m=>?_⟩⟩
  rw [rz]
  exact T.mono a (by simpa [cellsAt] using c i x m)
theorem zji{X:List α}(h:ORep T R f v X)(a:RH.le R R1)(b: ∀ k o,f k=some o→R1.blk k=some o)(c:t=true→capOf v=X.length):VRep (tSl t T) R1 v X:=by
 have:=zlo h a b
 cases t
 ·exact z9v this
 ·exact z6i this (c rfl)
theorem zfp{X:List (List α)}(h:N2 t T R F v Vs X)(c:RH.le R R1)(m: ∀ k o,F k=some o→R1.blk k=some o):VRep (uz (tSl t T)) R1 v X:=by
 obtain⟨f0,Fs,n,s,d,⟨u,a,w⟩,y,z⟩:=h
 have hrow: ∀ j,j<X.length→VRep (tSl t T) R1 (Vs.getD j default) (X.getD j default):=fun j f=>
  zji (a j f (fun h=>h)).1 c (fun k o A=>m k o ((a j f (fun h=>h)).2 k o A)) (fun e=>z e j f (fun h=>h))
 rcases s with⟨rfl,rfl,rfl⟩|⟨b,pre,cs,cap,bt,rfl,rfl,p,B,C,g⟩
 ·obtain rfl:X=[]:=List.eq_nil_of_length_eq_zero (by simpa using n.symm)
  exact z6r
 ·rw [n] at p⊢
  refine yx.2 ⟨_,cap,rfl,p,fun e=>by(cases e),.inr ⟨b,pre.length,(pre++cs).toArray,bt,(0,0),rfl,m _ _ (d _ _ (single_same _ _)),fun i x q=>?_⟩⟩
  rw [rz]
  have hi:i<X.length:=(List.getElem?_eq_some_iff.1 q).1
  have D:Vs[i]? =some (Vs.getD i default):=getD_some (by omega)
  obtain⟨hcc',E⟩:=g i _ D
  have l:X.getD i default=x:=by simp [List.getD_eq_getElem?_getD,q]
  have r:=uf rfl (hrow i hi)
  rw [l] at r
  show (tSl t T).rep R1 ((cs.drop (i*1)).take 1) x
  rw [show (cs.drop (i*1)).take 1=[Vs.getD i default] from hcc']
  exact r
theorem zkm{O:List Frag}{w:World}(b:Holds R (F::O) w): ∀ k o,F k=some o→(R.add F).blk k=some o:=fun k o a=>by
 have:=(b.own F (List.mem_cons_self ..) k o a).2
 simp [RH.add,this,a]
end read
section frz
variable {P : Program} {ρ : Option Nat} {n : Nat} {Q : Po} {l : Nat → Value} {D : List Nat} {R : RH} {O : List Frag} {ops : Array Oper} {os : List Oper} {c : Code} {α : Type} {t : Bool} {T : Ty α} {i : Nat} {F : Frag} {v : Value} {X : List (List α)}
theorem zjq(hi:O[i]? =some F)(h:NRep t T R F v X)(k: ∀ R',RH.le R R'→VRep (uz (tSl t T)) R' v X→wo P ρ n ops Q os l D R' (O.eraseIdx i)):wo P ρ n ops Q os l D R O:=fun a w c b=>
 let⟨Vs,h⟩:=h
 k (R.add F) (RH.le_add _ _) (zfp h (RH.le_add _ _) (zkm (z2f hi b))) a w c (z2j hi _ w b)
theorem z8p(hi:O[i]? =some F)(h:NRep t T R F v X)(k: ∀ R',RH.le R R'→VRep (uz (tSl t T)) R' v X→wg P ρ n c Q l D R' (O.eraseIdx i)):wg P ρ n c Q l D R O:=fun a w d b=>
 let⟨Vs,h⟩:=h
 k (R.add F) (RH.le_add _ _) (zfp h (RH.le_add _ _) (zkm (z2f hi b))) a w d (z2j hi _ w b)
theorem zsj{R1:RH}(i:Nat)(hi:O[i]? =some F)(h:NRep t T R F v X)(a:RH.le R R1)(b: ∀ f∈O,∀ k o,f k=some o→R1.blk k=some o):VRep (uz (tSl t T)) R1 v X:=
 let⟨Vs,h⟩:=h
 zfp h a (b F (List.mem_of_getElem? hi))
end frz
section appT
variable {P : Program} {ρ : Option Nat} {l : Nat → Value} {R : RH} {O : List Frag} {dst : Option Tmp} {ty : TypeId} {pos : String} {after : Array Go.Edge} {g : Option (Nat × Bool)} {α : Type} {T : Ty α}
end appT
section sliceO
variable {P : Program} {ρ : Option Nat} {l : Nat → Value} {R : RH} {O : List Frag} {α : Type} {T : Ty α}
theorem zjj{t e:TypeId}{lo hi mx:Nat}{x:Operand}{xlo xhi xmx:Option Operand}{f:Frag}{v:Value}{X:List α}(z:SlOk P t e T)(a:ev l x=v)(B:ORep T R f v X)
 (n:xlo.map (ev l)=none∧lo=0∨ ∃ k,xlo.map (ev l)=some (.int k lo)) (o:xhi.map (ev l)=none∧hi=X.length∧xmx=none∨ ∃ k,xhi.map (ev l)=some (.int k hi))
 (q:xmx.map (ev l)=none∧mx=capOf v∨ ∃ k,xmx.map (ev l)=some (.int k mx)) (C:lo≤hi) (G:hi≤X.length) (D:hi≤mx) (m:mx≤capOf v):
 ∃ u,ORep T R f u ((X.drop lo).take (hi-lo))∧capOf u=mx-lo∧ ∀ (dst:Option Tmp) (ty:TypeId) (pos:String) (after:Array Go.Edge) (g:Option (Nat×Bool)),Val P ρ ⟨dst,.slice t x xlo xhi xmx,ty,pos,after,g⟩ l R O u:=by
 obtain⟨p,d,E⟩:=z5m B
 refine⟨.slice (if mx=lo then p else p.map (·.add (lo*T.size))) (hi-lo) (mx-lo),?_,rfl,fun dst ty pos after g A w H=>?_⟩
 ·have hlen:((X.drop lo).take (hi-lo)).length=hi-lo:=by simp;omega
  rcases B with⟨rfl,rfl,rfl⟩|⟨b,pre,cs,cap,bt,rfl,rfl,F,r,j,s⟩
  ·have:mx=0:=by simpa [capOf] using m
   have:lo=0:=by omega
   have:hi=0:=by omega
   subst_vars
   simp only [Value.slice.injEq] at d
   obtain⟨rfl,_⟩:=d
   exact .inl ⟨rfl,by simp,rfl⟩
  ·simp only [Value.slice.injEq,capOf] at d m E
   obtain⟨rfl,_⟩:=d
   right
   by_cases hm:mx=lo
   ·refine⟨b,pre,cs,0,bt,?_,rfl,?_,by simp,j,fun i x a=>?_⟩
    ·rw [if_pos hm,hlen];simp only [Value.slice.injEq,true_and];omega
    ·rw [hlen];omega
    ·rw [show hi-lo=0 by omega,List.take_zero] at a;simp at a
   ·have y:lo*T.size≤cs.length:=Nat.le_trans (Nat.mul_le_mul_right _ (by omega:lo≤cap)) r
    refine⟨b,pre++cs.take (lo*T.size),cs.drop (lo*T.size),mx-lo,bt,?_,?_,by rw [hlen];omega,?_,?_,fun i x a=>?_⟩
    ·rw [if_neg hm,hlen];simp [addr_add,Nat.min_eq_left y]
    ·rw [List.append_assoc,List.take_append_drop]
    ·rw [List.length_drop,Nat.sub_mul]
     have:=Nat.mul_le_mul_right T.size m
     omega
    ·rw [List.append_assoc,List.take_append_drop];exact j
    ·rw [List.getElem?_take] at a
     split at a
     ·rw [List.getElem?_drop] at a
      have:=s (lo+i) x a
      rwa [List.drop_drop,←Nat.add_mul]
     ·cases a
 ·rw [qd (by intro c h;cases h)]
  exact z6q z.u z.e.size (a.trans d) n o q C D m (fun _=>by omega)
end sliceO
section sliceQ
variable {P : Program} {ρ : Option Nat} {n : Nat} {Q : Po} {l : Nat → Value} {D : List Nat} {R : RH} {O : List Frag} {ops : Array Oper} {rest : List Oper} {ty : TypeId} {pos : String} {after : Array Go.Edge} {d : Nat} {α : Type} {T : Ty α}
theorem zaz{t e:TypeId}{lo hi mx:Nat}{x:Operand}{xlo xhi xmx:Option Operand}{f:Frag}{v:Value}{X:List α}(g:Nat.blt d n=true)(h:SlOk P t e T)(i:ev l x=v)(j:ORep T R f v X)
 (a:xlo.map (ev l)=none∧lo=0∨ ∃ k,xlo.map (ev l)=some (.int k lo)) (b:xhi.map (ev l)=none∧hi=X.length∧xmx=none∨ ∃ k,xhi.map (ev l)=some (.int k hi))
 (c:xmx.map (ev l)=none∧mx=capOf v∨ ∃ k,xmx.map (ev l)=some (.int k mx)) (m:lo≤hi) (o:hi≤X.length) (p:hi≤mx) (q:mx≤capOf v)
 (r: ∀ u,ORep T R f u ((X.drop lo).take (hi-lo))→capOf u=mx-lo→wo P ρ n ops Q rest (upd l d u) D R O):wo P ρ n ops Q (⟨some d,.slice t x xlo xhi xmx,ty,pos,after,none⟩::rest) l D R O:=by
 obtain⟨u,s,w,y⟩:=zjj (P:=P) (ρ:=ρ) (O:=O) h i j a b c m o p q
 exact ky g (y _ _ _ _ _) (r u s w)
end sliceQ
theorem zo2{P:Program}{ρ:Option Nat}{l:Nat→Value}{R:RH}{O:List Frag}{dst:Option Tmp}{ty:TypeId}{pos:String}{after:Array Go.Edge}{g:Option (Nat×Bool)}{α:Type}{T:Ty α}{t e:TypeId}{z:α}{bytes m:Nat}{parts:List (Nat×Operand)}{ps:List (Nat×Value)}{css:List (List Value)}{X:List α}(b:P.underlying t=some (.slice e))(d:ZeroOk P e T z bytes)
 (j:(parts.map fun x=>(x.1,ev l x.2))=ps) (a:ps.map (fun p=>(p.1,p.2.cells))=css.zipIdx.map (fun x=>(x.2,x.1.toArray))) (k: ∀ (i:Nat) (c:List Value) (x:α),css[i]? =some c→X[i]? =some x→T.rep R c x)
 (n:css.length=X.length) (o:X.length=m) (hbig:m*T.size≤16777216):Eff P ρ ⟨dst,.buildSlice t m parts.toArray,ty,pos,after,g⟩ l R O fun v R' O'=> ∃ Oc,O'=Oc++O∧R'=R∧ ∃ f,Oc=[f]∧ORep T R f v X∧capOf v=X.length:=
 (z3l b d (by rw [List.map_toArray];exact congrArg List.toArray j) a k n o hbig).mono fun v R' O' _ ⟨q,r,f,s,h⟩=>by subst q;exact⟨[f],s,rfl,f,rfl,h,r⟩
theorem zd2{place:Nat→Option (Nat×Nat)}: ∀ (ps ps':List (Nat×Value)) (cells:Array Value),ps.map (fun p=>(p.1,p.2.cells))=ps'.map (fun p=>(p.1,p.2.cells))→Instr.fill place cells ps=Instr.fill place cells ps'
 | [],[],_,_=>rfl
 | [],_::_,_,h=>by simp at h
 |_::_,[],_,h=>by simp at h
 |(i,v)::r,(j,u)::r',cells,h=>by
  simp only [List.map_cons,List.cons.injEq,Prod.mk.injEq] at h
  obtain⟨⟨rfl,a⟩,b⟩:=h
  simp only [Instr.fill,a]
  cases place i with
  |none=>rfl
  |some q=>simp only [];rw [zd2 r r' _ b]
theorem z5g{P:Program}{ρ:Option Nat}{l:Nat→Value}{R:RH}{O:List Frag}{dst:Option Tmp}{ty:TypeId}{pos:String}{after:Array Go.Edge}{g:Option (Nat×Bool)}{t:TypeId}{parts:List (Nat×Operand)}{ps:List (Nat×Value)}(ps':List (Nat×Value)){v:Value}(a:(parts.map fun x=>(x.1,ev l x.2))=ps)
 (b:ps.map (fun p=>(p.1,p.2.cells))=ps'.map (fun p=>(p.1,p.2.cells))) (h: ∀ w,(Instr.build t ps'.toArray).run P w= .ok v w):Val P ρ ⟨dst,.build t parts.toArray,ty,pos,after,g⟩ l R O v:=
 vw a fun w=>by
  have:(Instr.build t ps.toArray)=(Instr.build t ps'.toArray):=by
   simp only [Instr.build,zd2 (place:=_) ps ps' _ b]
  rw [this];exact h w
section step
variable {P : Program} {ρ : Option Nat} {n : Nat} {Q : Po} {l : Nat → Value} {D : List Nat} {R : RH} {O : List Frag} {ops : Array Oper} {rest : List Oper} {ty : TypeId} {pos : String} {after : Array Go.Edge} {d : Nat}
theorem zix{op:Op}{φ:Value→RH→Prop}(b:Nat.blt d n=true)(h:Eff P ρ ⟨some d,op,ty,pos,after,none⟩ l R O (fun v R' O'=>O'=O∧φ v R'))(c: ∀ v R',RH.le R R'→φ v R'→wo P ρ n ops Q rest (upd l d v) D R' O):
 wo P ρ n ops Q (⟨some d,op,ty,pos,after,none⟩::rest) l D R O:=z0y b h fun v R' O' a ⟨e,f⟩=>by subst e;exact c v R' a f
theorem z9s{op:Op}{Oc Or:List Frag}{φ:Value→RH→List Frag→Prop}(a:O.Perm (Oc++Or))(h:Eff P ρ ⟨none,op,ty,pos,after,none⟩ l R (Oc++Or) (fun v R' O'=> ∃ Oc',O'=Oc'++Or∧φ v R' Oc'))
 (c: ∀ v R' Oc',RH.le R R'→φ v R' Oc'→wo P ρ n ops Q rest l D R' (Oc'++Or)):wo P ρ n ops Q (⟨none,op,ty,pos,after,none⟩::rest) l D R O:=
 z6d (jb a h) fun v R' O' b ⟨Oc',e,a⟩=>by subst e;exact c v R' Oc' b a
end step
end GV
end Go.Proofs.YtkkcidhcfkmbjaaGreatDoor

namespace Go.Proofs.YtkkcidhcfkmbjaaGreatDoor
namespace GV
def z3x{α:Type}(T:Ty α)(o:Nat)(v:Value)(X:List α)(u:Value)(i:Nat):Prop:= ∃ b off,v= .slice (some ⟨b,off,none⟩) X.length (capOf v)∧u= .pointer (some ⟨b,off+i*T.size+o,none⟩)
section p
variable {P : Program} {ρ : Option Nat} {n : Nat} {ops : Array Oper} {Q : Po} {rest : List Oper} {l : Nat → Value} {D : List Nat} {R : RH} {O : List Frag} {ty : TypeId} {pos : String} {after : Array Go.Edge} {d : Nat} {dst : Option Tmp} {g : Option (Nat × Bool)}
variable {α β : Type} {T : Ty α} {B : Ty β} {X : List α} {v u w : Value} {x y : Operand} {f F : Frag} {i j o fld : Nat} {t s : TypeId} {pr : α → β} {se : α → β → α}
theorem zj7(a:FieldOk P s fld o)(c:ev l x=u)(d:z1x T v X u i): ∃ u',z3x T o v X u' i∧ ∀ (dst:Option Tmp) (ty:TypeId) (pos:String) (after:Array Go.Edge) (g:Option (Nat×Bool)),Val P ρ ⟨dst,.fieldAddr s x fld,ty,pos,after,g⟩ l R O u':=by
 obtain⟨b,off,e,rfl⟩:=d
 exact⟨_,⟨b,off,e,rfl⟩,fun dst ty pos after g=>zo a c⟩
theorem zf1(d:FieldOk P s fld o)(e:ev l x=u)(f:z1x T v X u i):Eff P ρ ⟨dst,.fieldAddr s x fld,ty,pos,after,g⟩ l R O (fun v' R' O'=>O'=O∧z3x T o v X v' i):=by
 obtain⟨u',h,j⟩:=zj7 (ρ:=ρ) (P:=P) (R:=R) (O:=O) d e f
 exact(j dst ty pos after g).eff.mono fun v' R' O' _ ⟨a,b,c⟩=>by subst a;exact⟨c,h⟩
theorem zj5(n:TyOk P t B)(hpart:Part T o B pr)(p:ORep T R f v X)(q:Has F f)(e:O[j]? =some F)(r:ev l x=u)(s:z3x T o v X u i){z:α}(k:X[i]? =some z):
 ∃ u,VRep B R u (pr z)∧ ∀ (dst:Option Tmp) (ty:TypeId) (pos:String) (after:Array Go.Edge) (g:Option (Nat×Bool)),Val P ρ ⟨dst,.load t x,ty,pos,after,g⟩ l R O u:=by
 obtain⟨b,off,m,rfl⟩:=s
 rcases p with⟨rfl,rfl,_⟩|⟨b',pre,cs,cap,bt,rfl,rfl,G,y,C,d⟩
 ·simp at k
 ·simp only [capOf,Value.slice.injEq,Option.some.injEq,Addr.mk.injEq,and_true] at m
  obtain⟨rfl,rfl⟩:=m
  have D:T.rep R (cellsAt (pre++cs).toArray (pre.length+i*T.size) T.size) z:=by rw [rz];simpa [cellsAt] using d i z k
  have a:=hpart.2 R _ _ D
  rw [z5e hpart.1] at a
  refine⟨B.mk' (cellsAt (pre++cs).toArray (pre.length+i*T.size+o) B.size),⟨_,a,rfl⟩,fun dst ty pos after g A w E=>?_⟩
  rw [qd (by intro c h;cases h)]
  have hblk:w.heap[b']? =some (.cells (pre++cs).toArray bt (0,0)):=l6 E (i:=j) (by rw [List.getElem?_append_left (by exact(List.getElem?_eq_some_iff.1 e).1)];exact e) (q _ _ (single_same _ _))
  simp only [execOp,r,Instr.loadAt,Instr.sureAddr,Sem.run_bind,Sem.run_pure,Result.andThen_ok,z3u n hblk (R:=R) (x:=pr z) a]
theorem zee[Inhabited α](e:TyOk P t B)(hpart:Part T o B pr)(d:ORep T R f v X)(k:O[j]? =some f)(m:ev l x=u)(n:z3x T o v X u i)(p:i<X.length):
 Eff P ρ ⟨dst,.load t x,ty,pos,after,g⟩ l R O (fun v' R' O'=>O'=O∧phR B (pr (X.getD i default)) v' R'):=by
 obtain⟨w,q,d⟩:=zj5 (ρ:=ρ) (P:=P) e hpart d (fun _ _ h=>h) k m n (getD_some p)
 exact(d dst ty pos after g).eff.mono fun v' R' O' _ ⟨a,b,c⟩=>by subst a;subst b;exact⟨c,q⟩
end p
section q
variable {P : Program} {ρ : Option Nat} {l : Nat → Value} {R : RH} {O : List Frag} {ty : TypeId} {pos : String} {after : Array Go.Edge} {dst : Option Tmp} {g : Option (Nat × Bool)}
variable {α β : Type} [Inhabited α] {b : Bool} {T : Ty α} {B : Ty β} {Vs : List Value} {X : List (List α)} {v u w : Value} {x y : Operand} {F : Frag} {i j o r : Nat} {t : TypeId} {pr : α → β} {se : α → β → α}
end q
end GV
end Go.Proofs.YtkkcidhcfkmbjaaGreatDoor

namespace Go.Proofs.YtkkcidhcfkmbjaaGreatDoor
namespace GV
/-! ### A map's entries as a list of pairs,in the order in which the keys came-/
def z1c{κ β:Type}[DecidableEq κ](z:β):List (κ×β)→κ→β
 | [],_=>z
 |p::l,k=>if k=p.1 then p.2 else z1c z l k
def z1d{κ β:Type}[DecidableEq κ]:List (κ×β)→κ→Bool
 | [],_=>false
 |p::l,k=>if k=p.1 then true else z1d l k
def z2x{κ β:Type}[DecidableEq κ]:List (κ×β)→κ→β→List (κ×β)
 | [],k,v=>[(k,v)]
 |p::l,k,v=>if k=p.1 then(k,v)::l else p::z2x l k v
def z3j{κ β:Type}[DecidableEq κ]:List (κ×β)→κ→Nat→Option (Nat×β)
 | [],_,_=>none
 |p::l,k,i=>if k=p.1 then some (i,p.2) else z3j l k (i+1)
def zb6(e:MapEntry):Value×Value:=(e.key,e.val)
def zd8{κ β:Type}(ke:κ→Value)(ve:β→Value)(es:Array MapEntry)(M:List (κ×β)):Prop:=es.toList.map zb6=M.map fun p=>(ke p.1,ve p.2)
structure KOk (P:Program) (kt:TypeId) {κ:Type} [DecidableEq κ] (ke:κ→Value):Prop where
 check: ∀ (b:Bool) (k:κ) (w:World),(Instr.checkKey b 10000 kt (ke k)).run P w= .ok () w
 find: ∀ {β:Type} (k:κ) (es:List MapEntry) (M:List (κ×β)) (ve:β→Value) (w:World),es.map zb6=M.map (fun p=>(ke p.1,ve p.2))→
  (Instr.findKey kt (ke k) es).run P w= .ok ((z3j M k 0).map fun p=>(p.1,ve p.2)) w
 same: ∀ k:κ,Instr.sameBits 10000 (ke k) (ke k)=true
section m
variable {κ β : Type} [DecidableEq κ] {ke : κ → Value} {ve : β → Value} {M : List (κ × β)} {k : κ} {z : β}
theorem zly(i:Nat):((z3j M k i).map (·.2)).getD z=z1c z M k:=by
 induction M generalizing i with
 |nil=>rfl
 |cons p l ih=>
  unfold z3j z1c
  by_cases h:k=p.1
  ·simp [h]
  ·simp only [if_neg h];exact ih (i+1)
theorem zmy(i:Nat):(z3j M k i).isSome=z1d M k:=by
 induction M generalizing i with
 |nil=>rfl
 |cons p l ih=>
  unfold z3j z1d
  by_cases h:k=p.1
  ·simp [h]
  ·simp only [if_neg h];exact ih (i+1)
theorem zja{i:Nat}{v:β}(h:z3j M k i=none):z2x M k v=M++[(k,v)]:=by
 induction M generalizing i with
 |nil=>rfl
 |cons p l ih=>
  unfold z3j at h
  by_cases hk:k=p.1
  ·simp [hk] at h
  ·rw [if_neg hk] at h
   simp only [z2x,if_neg hk,ih h,List.cons_append]
theorem zk6{i j:Nat}{u v:β}(h:z3j M k i=some (j,u)):i≤j∧M[j-i]? =some (k,u)∧z2x M k v=M.set (j-i) (k,v):=by
 induction M generalizing i with
 |nil=>cases h
 |cons p l ih=>
  unfold z3j at h
  by_cases hk:k=p.1
  ·rw [if_pos hk] at h
   simp only [Option.some.injEq,Prod.mk.injEq] at h
   obtain⟨rfl,rfl⟩:=h
   refine⟨Nat.le_refl _,?_,?_⟩
   ·simp [hk]
   ·simp [z2x,hk]
  ·rw [if_neg hk] at h
   obtain⟨c,a,b⟩:=ih h
   have e:j-i=(j-(i+1))+1:=by omega
   refine⟨by omega,?_,?_⟩
   ·rw [e,List.getElem?_cons_succ];exact a
   ·rw [e,List.set_cons_succ,←b];simp [z2x,hk]
end m
def MRep{κ β:Type}(ke:κ→Value)(ve:β→Value)(R:RH)(f:Frag)(v:Value)(M:List (κ×β)):Prop:=
 ∃ b es c,v= .map (some b)∧f=single b (.map es c)∧zd8 ke ve es M
theorem MRep.mono{κ β:Type}{ke:κ→Value}{ve:β→Value}{R R':RH}{f:Frag}{v:Value}{M:List (κ×β)}(h:MRep ke ve R f v M)(a:RH.le R R'):MRep ke ve R' f v M:=h
section e
variable {P : Program} {ρ : Option Nat} {n : Nat} {ops : Array Oper} {Q : Po} {rest : List Oper} {l : Nat → Value} {D : List Nat} {R : RH} {O : List Frag} {ty : TypeId} {pos : String} {after : Array Go.Edge} {d : Nat} {dst : Option Tmp} {g : Option (Nat × Bool)}
variable {κ β : Type} {ke : κ → Value} {ve : β → Value} {M : List (κ × β)} {k : κ} {z : β} {t kt et : TypeId} {x y s : Operand} {v : Value} {f : Frag}
theorem zhq:Eff P ρ ⟨dst,.makeMap t none,ty,pos,after,g⟩ l R O (fun v R' O'=>R'=R∧ ∃ f,O'=f::O∧MRep ke ve R f v ([]:List (κ×β))):=by
 intro A w a;rw [qd (by intro c h;cases h)]
 simp only [execOp,Option.map,Instr.makeMap,Sem.run_bind,run_newObj,Sem.run_pure,Result.andThen_ok]
 exact⟨R,_,RH.le.refl _,z0j a _,rfl,_,rfl,_,#[],0,rfl,rfl,rfl⟩
theorem zdf(a:Nat.blt d n=true)(b: ∀ v f,MRep ke ve R f v ([]:List (κ×β))→wo P ρ n ops Q rest (upd l d v) D R (f::O)):wo P ρ n ops Q (⟨some d,.makeMap t none,ty,pos,after,none⟩::rest) l D R O:=
 z0y a (zhq (ke:=ke) (ve:=ve)) fun v R' O' _ ⟨c,f,e,h⟩=>by subst c;subst e;exact b v f h
variable [DecidableEq κ]
theorem z8j{b:Nat}{es:Array MapEntry}{c:Nat}{w:World}{u:β}(m:P.underlying t=some (.map kt et))(f:KOk P kt ke)(g:w.heap[b]? =some (.map es c))(a:zd8 ke ve es M):
 ∃ es' c',(Instr.mapUpdate t (.map (some b)) (ke k) (ve u)).run P w= .ok () {w with heap:=w.heap.setIfInBounds b (.map es' c')}∧zd8 ke ve es' (z2x M k u):=by
 have n:=f.find k es.toList M ve w a
 unfold Instr.mapUpdate
 simp only [Sem.run_bind,run_underlying m,Result.andThen_ok,MapKept.run_getObj_map g,f.check,n]
 cases hm:z3j M k 0 with
 |none=>
  simp only [Option.map_none,MapKept.run_setObj_map _ g]
  refine⟨_,_,rfl,?_⟩
  unfold zd8 at a⊢
  rw [Array.toList_push,List.map_append,a,zja hm,List.map_append]
  rfl
 |some p=>
  obtain⟨j,h⟩:=p
  obtain⟨_,l,o⟩:=zk6 (v:=u) hm
  simp only [Option.map_some]
  have hkey:((es[j]?).map (·.key)).getD (ke k)=ke k:=by
   have d:(es.toList.map zb6)[j]? =some (ke k,ve h):=by rw [a,List.getElem?_map,show M[j]? =some (k,h) from l];rfl
   rw [List.getElem?_map,Array.getElem?_toList] at d
   cases he:es[j]? with
   |none=>rfl
   |some e=>rw [he] at d;simp only [Option.map_some,zb6,Option.some.injEq,Prod.mk.injEq] at d;simp [d.1]
  rw [hkey]
  simp only [Instr.keyThatStays,f.same,if_true,Sem.run_pure,Sem.run_bind,Result.andThen_ok,MapKept.run_setObj_map _ g]
  refine⟨_,_,rfl,?_⟩
  unfold zd8 at a⊢
  rw [o,Array.toList_modify]
  apply List.ext_getElem?
  intro i
  have hi:(es.toList.map zb6)[i]? =(M.map fun p=>(ke p.1,ve p.2))[i]? :=by rw [a]
  rw [List.getElem?_map,List.getElem?_modify,List.getElem?_map,List.getElem?_set]
  rw [List.getElem?_map,List.getElem?_map] at hi
  by_cases hij:j=i
  ·subst hij
   have q:j<M.length:=(List.getElem?_eq_some_iff.1 l).1
   simp only [Nat.sub_zero,if_true,q]
   rw [show M[j]? =some (k,h) from l] at hi
   cases he:es.toList[j]? with
   |none=>rw [he] at hi;simp at hi
   |some e=>simp [zb6]
  ·simp only [Nat.sub_zero,if_neg hij]
   simpa using hi
theorem zdt{u:β}{w0 q:Value}{i:Nat}(p:P.underlying t=some (.map kt et))(r:KOk P kt ke)(m:O[i]? =some f)(h:MRep ke ve R f v M)(z:ev l x=v)(B:ev l y=ke k)(C:ev l s=ve u):
 Eff P ρ ⟨dst,.mapUpdate t x y s,ty,pos,after,g⟩ l R O (fun v' R' O'=>v'=undef∧R'=R∧ ∃ f',O'=O.set i f'∧MRep ke ve R f' v (z2x M k u)):=by
 intro A w n;rw [qd (by intro c h;cases h)]
 obtain⟨b,es,c,rfl,rfl,D⟩:=h
 have a:i<O.length:=(List.getElem?_eq_some_iff.1 m).1
 have hO':(O++A)[i]? =some (single b (.map es c)):=by rw [List.getElem?_append_left a];exact m
 have o:w.heap[b]? =some (.map es c):=l6 n hO' (single_same _ _)
 obtain⟨es',c',E,F⟩:=z8j (k:=k) (u:=u) p r o D
 have d:(execOp (ev l) (⟨dst,.mapUpdate t x y s,ty,pos,after,g⟩:Oper)).run P w= .ok .skip {w with heap:=w.heap.setIfInBounds b (.map es' c')}:=by
  simp only [execOp,z,B,C,Sem.run_bind,E,Result.andThen_ok]
  rfl
 rw [d]
 have e:b<w.heap.size:=(Array.getElem?_eq_some_iff.1 o).1
 refine⟨R,_,RH.le.refl _,?_,rfl,rfl,_,rfl,_,es',c',rfl,rfl,F⟩
 have:=z7z (w':= {w with heap:=w.heap.setIfInBounds b (.map es' c')}) n hO' (o':= .map es' c') (by simp [e]) (fun j G=>by simp [Ne.symm G]) rfl rfl trivial
 rwa [List.set_append_left _ _ a] at this
theorem z9j{u:β}{i:Nat}(a:P.underlying t=some (.map kt et))(b:KOk P kt ke)(c:O[i]? =some f)(h:MRep ke ve R f v M)(d:ev l x=v)(e:ev l y=ke k)(g:ev l s=ve u)
 (j: ∀ f',MRep ke ve R f' v (z2x M k u)→wo P ρ n ops Q rest l D R (O.set i f')):wo P ρ n ops Q (⟨none,.mapUpdate t x y s,ty,pos,after,none⟩::rest) l D R O:=
 z6d (zdt (w0:=undef) (q:=undef) a b c h d e g) fun v' R' O' _ ⟨_,m,f',hO',h⟩=>by subst m;subst hO';exact j f' h
theorem zdx{u:β}{w0 q:Value}{i:Nat}(p:P.underlying t=some (.map kt et))(r:KOk P kt ke)(m:O[i]? =some f)(h:MRep ke ve R f v M)(z:ev l x=v)(B:ev l y=ke k)(C:ev l s=ve u):
 Eff P ρ ⟨dst,.insert t x y s,ty,pos,after,g⟩ l R O (fun v' R' O'=>v'=undef∧R'=R∧ ∃ f',O'=O.set i f'∧MRep ke ve R f' v (z2x M k u)):=by
 intro A w n;rw [qd (by intro c h;cases h)]
 obtain⟨b,es,c,rfl,rfl,D⟩:=h
 have a:i<O.length:=(List.getElem?_eq_some_iff.1 m).1
 have hO':(O++A)[i]? =some (single b (.map es c)):=by rw [List.getElem?_append_left a];exact m
 have o:w.heap[b]? =some (.map es c):=l6 n hO' (single_same _ _)
 obtain⟨es',c',E,F⟩:=z8j (k:=k) (u:=u) p r o D
 have d:(execOp (ev l) (⟨dst,.insert t x y s,ty,pos,after,g⟩:Oper)).run P w= .ok .skip {w with heap:=w.heap.setIfInBounds b (.map es' c')}:=by
  simp only [execOp,z,B,C,Sem.run_bind,E,Result.andThen_ok]
  rfl
 rw [d]
 have e:b<w.heap.size:=(Array.getElem?_eq_some_iff.1 o).1
 refine⟨R,_,RH.le.refl _,?_,rfl,rfl,_,rfl,_,es',c',rfl,rfl,F⟩
 have:=z7z (w':= {w with heap:=w.heap.setIfInBounds b (.map es' c')}) n hO' (o':= .map es' c') (by simp [e]) (fun j G=>by simp [Ne.symm G]) rfl rfl trivial
 rwa [List.set_append_left _ _ a] at this
theorem zg3{u:β}{i:Nat}(a:P.underlying t=some (.map kt et))(b:KOk P kt ke)(c:O[i]? =some f)(h:MRep ke ve R f v M)(d:ev l x=v)(e:ev l y=ke k)(g:ev l s=ve u)
 (j: ∀ f',MRep ke ve R f' v (z2x M k u)→wo P ρ n ops Q rest l D R (O.set i f')):wo P ρ n ops Q (⟨none,.insert t x y s,ty,pos,after,none⟩::rest) l D R O:=
 z6d (zdx (w0:=undef) (q:=undef) a b c h d e g) fun v' R' O' _ ⟨_,m,f',hO',h⟩=>by subst m;subst hO';exact j f' h
def MAt(ke:κ→Value)(ve:β→Value)(R:RH)(O:List Frag)(v:Value)(M:List (κ×β)):Prop:=
 ∀ A w,Holds R (O++A) w→ ∃ b es c,v= .map (some b)∧w.heap[b]? =some (.map es c)∧zd8 ke ve es M
omit [DecidableEq κ] in
theorem zbr{i:Nat}(d:O[i]? =some f)(h:MRep ke ve R f v M):MAt ke ve R O v M:=by
 intro A w e
 obtain⟨b,es,c,rfl,rfl,g⟩:=h
 have a:i<O.length:=(List.getElem?_eq_some_iff.1 d).1
 exact⟨b,es,c,rfl,l6 e (by rw [List.getElem?_append_left a];exact d) (single_same _ _),g⟩
omit [DecidableEq κ] in
theorem zp1{at':Array TypeId}(a:at'[0]? =some t)(d:P.underlying t=some (.map kt et))(e:ev l x=v)(h:MAt ke ve R O v M):Val P ρ ⟨dst,.call ⟨.builtin .len,#[x],at'⟩,ty,pos,after,g⟩ l R O (.int .i64 M.length):=by
 intro A w f;rw [qd (by intro c h;cases h)]
 obtain⟨b,es,c,rfl,i,j⟩:=h A w f
 have k:es.size=M.length:=by
  have:=congrArg List.length j
  simpa using this
 simp [execOp,resolve,invoke,builtin,Builtin.len_,a,underlying,d,e,goInt,MapKept.run_getObj_map i,k]
theorem zcu{b:Nat}{es:Array MapEntry}{c:Nat}{w:World}(d:P.underlying t=some (.map kt et))(a:KOk P kt ke)(e: ∀ w,(zeroValue et).run P w= .ok (ve z) w)(f:w.heap[b]? =some (.map es c))(g:zd8 ke ve es M)(ok:Bool):
 (Instr.lookup t (.map (some b)) (ke k) ok).run P w= .ok (if ok then .tuple #[ve (z1c z M k),.bool (z1d M k)] else ve (z1c z M k)) w:=by
 have h:=a.find k es.toList M ve w g
 unfold Instr.lookup
 simp only [Sem.run_bind,run_underlying d,Result.andThen_ok,MapKept.run_getObj_map f,a.check,h,Sem.run_pure]
 rw [←zly 0,←zmy 0]
 cases hm:z3j M k 0 with
 |none=>simp [e]
 |some p=>simp
theorem zdn(a:P.underlying t=some (.map kt et))(d:KOk P kt ke)(e: ∀ w,(zeroValue et).run P w= .ok (ve z) w)(h:MAt ke ve R O v M)(f:ev l x=v)(i:ev l y=ke k):Val P ρ ⟨dst,.lookup t x y false,ty,pos,after,g⟩ l R O (ve (z1c z M k)):=by
 intro A w j;rw [qd (by intro c h;cases h)]
 obtain⟨b,es,c,rfl,m,n⟩:=h A w j
 simp only [execOp,f,i,Sem.run_bind,zcu (k:=k) a d e m n,Result.andThen_ok]
 rfl
theorem zi4(a:P.underlying t=some (.map kt et))(d:KOk P kt ke)(e: ∀ w,(zeroValue et).run P w= .ok (ve z) w)(h:MAt ke ve R O v M)(f:ev l x=v)(i:ev l y=ke k):Val P ρ ⟨dst,.lookup t x y true,ty,pos,after,g⟩ l R O (.tuple #[ve (z1c z M k),.bool (z1d M k)]):=by
 intro A w j;rw [qd (by intro c h;cases h)]
 obtain⟨b,es,c,rfl,m,n⟩:=h A w j
 simp only [execOp,f,i,Sem.run_bind,zcu (k:=k) a d e m n,Result.andThen_ok]
 rfl
end e
end GV
end Go.Proofs.YtkkcidhcfkmbjaaGreatDoor
