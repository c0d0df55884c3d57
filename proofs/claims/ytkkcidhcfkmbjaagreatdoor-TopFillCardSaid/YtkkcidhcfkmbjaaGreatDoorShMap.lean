
import Derived.Test.YtkkcidhcfkmbjaaGreatDoorShFree
import Derived.MapKept
set_option linter.unusedVariables false
set_option linter.unusedSimpArgs false
set_option linter.unusedSectionVars false
namespace Go.Proofs.YtkkcidhcfkmbjaaGreatDoor
namespace GV
def NRep{α:Type}(t:Bool)(T:Ty α)(R:RH)(F:Frag)(v:Value)(X:List (List α)):Prop:= ∃ Vs,N2 t T R F v Vs X
theorem NRep.mono{α:Type}{t:Bool}{T:Ty α}{R R':RH}{F:Frag}{v:Value}{X:List (List α)}(h:NRep t T R F v X)(b:RH.le R R'):NRep t T R' F v X:=let⟨Vs,a⟩:=h;⟨Vs,a.mono b⟩
theorem ow{α:Type}{t:Bool}{T:Ty α}{R:RH}{F:Frag}{v:Value}{Vs:List Value}{X:List (List α)}(h:N2 t T R F v Vs X):NRep t T R F v X:=⟨Vs,h⟩
theorem zbq{P:Program}{t:TypeId}{α:Type}{T:Ty α}{b:Bool}(h:TyOk P t (tSl b T)):TyOk P t z1n:=⟨h.agg,h.size⟩
theorem zez{P:Program}{t e:TypeId}{α:Type}{T:Ty α}{b:Bool}(h:SlOk P t e (tSl b T)):SlOk P t e z1n:=⟨h.u,zbq h.e⟩
theorem zh2{R:RH}{w y:Value}(h:VRep z1n R w y):w=y:=by obtain⟨cs,⟨rfl,_⟩,rfl⟩:=h;rfl
theorem zmh{R:RH}{w:Value}(h:w.oneCell'=true):VRep z1n R w w:=⟨[w],⟨rfl,h⟩,rfl⟩
theorem z6i{α:Type}{t:Bool}{T:Ty α}{R:RH}{F:Frag}{v:Value}{Vs:List Value}{X:List (List α)}(h:N2 t T R F v Vs X):v.oneCell'=true:=let⟨_,a,_⟩:=h.o;jv a
theorem ztc{α:Type}{t:Bool}{T:Ty α}{R:RH}{F:Frag}{v:Value}{Vs:List Value}{X:List (List α)}(h:N2 t T R F v Vs X){r:Nat}(a:r<X.length)(e:t=true):capOf (Vs.getD r default)=(X.getD r default).length:=
 let⟨_,_,_,_,_,_,_,g⟩:=h;g e r a (fun h=>h)
theorem z4v{v:Value}(h:v.oneCell'=true):v.cells=([v]:List Value).toArray:=by
 cases v<;>first|rfl|(simp [Value.oneCell'] at h;done)
section ops
variable {P : Program} {ρ : Option Nat} {l : Nat → Value} {R : RH} {O : List Frag} {dst : Option Tmp} {ty : TypeId} {pos : String} {after : Array Go.Edge} {g : Option (Nat × Bool)} {α : Type} {t : Bool} {T : Ty α} {F : Frag} {v : Value} {Vs : List Value} {X : List (List α)}
theorem zak{tt e:TypeId}{x ix:Operand}{k:IntKind}{i:Nat}(a:SlOk P tt e z1n)(b:ev l x=v)(h:N2 t T R F v Vs X)(hi:ev l ix= .int k i)(d:i<X.length):
 Eff P ρ ⟨dst,.indexAddr tt x ix,ty,pos,after,g⟩ l R O (fun v' R' O'=>O'=O∧(fun u _=>z14 z1n v Vs u i) v' R'):=by
 obtain⟨f0,c,_,f⟩:=h.o
 exact z1e a b c hi (by omega)
theorem zoc{tt:TypeId}{x:Operand}{u:Value}{i j:Nat}(d:TyOk P tt z1n)(h:N2 t T R F v Vs X)(e:O[j]? =some F)(f:ev l x=u)(k:z14 z1n v Vs u i)(r:i<X.length):
 Eff P ρ ⟨dst,.load tt x,ty,pos,after,g⟩ l R O (fun v' R' O'=>O'=O∧phX (Vs.getD i default) v' R'):=by
 obtain⟨f0,m,n,s⟩:=h.o
 obtain⟨w,p,q⟩:=zeb (ρ:=ρ) (P:=P) d m n e f k (getD_some (by omega))
 exact(q dst ty pos after g).eff.mono fun v' R' O' _ ⟨a,b,c⟩=>⟨c,a.trans (zh2 p)⟩
theorem zhw{tt e:TypeId}{x ix:Operand}{k:IntKind}{i r:Nat}(a:SlOk P tt e T)(h:N2 t T R F v Vs X)(b:r<X.length)(c:ev l x=Vs.getD r default)(hi:ev l ix= .int k i)(d:i<(X.getD r default).length):
 Eff P ρ ⟨dst,.indexAddr tt x ix,ty,pos,after,g⟩ l R O (fun v' R' O'=>O'=O∧(fun u _=>z14 T (Vs.getD r default) (X.getD r default) u i) v' R'):=
 let⟨fk,f,_⟩:=h.row b;z1e a c f hi d
theorem zm3{tt e:TypeId}{at':Array TypeId}{x:Operand}(a:at'[0]? =some tt)(b:P.underlying tt=some (.slice e))(c:ev l x=v)(h:N2 t T R F v Vs X):Val P ρ ⟨dst,.call ⟨.builtin .len,#[x],at'⟩,ty,pos,after,g⟩ l R O (.int .i64 X.length):=by
 obtain⟨f0,d,i,f⟩:=h.o
 rw [←f];exact z4f a b c d
theorem zcd{tt:TypeId}{x y:Operand}{u w:Value}{i r:Nat}{z:α}(c:TyOk P tt T)(h:N2 t T R F v Vs X)(b:r<X.length)(d:ev l x=u)(f:z14 T (Vs.getD r default) (X.getD r default) u i)(hi:i<(X.getD r default).length)
 (k:ev l y=w) (m:VRep T R w z):Eff P ρ ⟨dst,.store tt x y,ty,pos,after,g⟩ l R ([F]++O) (fun v' R' O'=> ∃ Oc,O'=Oc++O∧R'=R∧ ∃ F',Oc=[F']∧N2 t T R F' v Vs (X.set r ((X.getD r default).set i z))):=by
 obtain⟨fk,n,o,p⟩:=h.hole b
 refine zgu (O1:=[fk]) (Or:=minus F fk::O) (fun A w a=>zb3 a o) (z3e (j:=0) c n rfl d f hi k m) ?_
 rintro v' R' O1' q ⟨rfl,f',rfl,s⟩ A w a
 refine⟨z0g f' (minus F fk)::O,z8f a,_,rfl,rfl,_,rfl,N2h.fill (u:=default) p b s (zm6 a) fun e=>?_⟩
 rw [List.length_set];exact ztc h b e
theorem zhz{f g h:Frag}(a:Apart f g)(b:Apart f h):Apart f (z0g g h):=fun k=>by
 unfold z0g
 cases e:g k with
 |none=>exact b k
 |some o=>
  rcases a k with c|c
  ·exact .inl c
  ·rw [e] at c;cases c
theorem zqo{f0' f G:Frag}{Fs:List Frag}{r:Nat}{w:Value}{Y:List α}(B:r<X.length)(C:Vs.length=X.length)(D:ORep z1n R f0' v (Vs.set r w))(E:ORep T R f w Y)(hrow:Rows T R G Vs X Fs (fun _=>False))(u:Apart f0' f)(x:Apart f0' G)(l:Apart f G)
 (m:zhx t Vs X (fun _=>False)) (F:t=true→capOf w=Y.length):N2 t T R (z0g f0' (z0g f G)) v (Vs.set r w) (X.set r Y):=by
 obtain⟨o,a,p⟩:=hrow
 have n: ∀ j,¬(fun(_:Nat)=>False) j:=fun _ h=>h
 have b:Apart f0' (z0g f G):=zhz u x
 have q:Has (z0g f0' (z0g f G)) f:=(z4n b).trans z9y
 have s:Has (z0g f0' (z0g f G)) G:=(z4n b).trans (z4n l)
 have g:=fun j=>z10 (X:=Fs) (j:=j) (y:=f) (d:=emp) (k:=r) (by omega)
 have z:=fun j=>z10 (X:=X) (j:=j) (y:=Y) (d:=default) B
 have A:=fun j=>z10 (X:=Vs) (j:=j) (y:=w) (d:=default) (k:=r) (by omega)
 refine⟨f0',Fs.set r f,by simp [C],D,z9y,⟨by simp [o],fun j b _=>?_,fun i j hi b _ _ c=>?_⟩,fun j b=>?_,fun e j b _=>?_⟩
 ·have hj':j<X.length:=by simpa using b
  rw [g,z,A]
  by_cases e:j=r
  ·subst e;rw [if_pos rfl,if_pos rfl,if_pos rfl];exact⟨E,q⟩
  ·rw [if_neg e,if_neg e,if_neg e];exact⟨(a j hj' (n j)).1,s.trans (a j hj' (n j)).2⟩
 ·have hi':i<X.length:=by simpa using hi
  have hj':j<X.length:=by simpa using b
  rw [g,g]
  by_cases e1:i=r
  ·rw [if_pos e1,if_neg (fun e=>c (e1.trans e.symm))]
   exact(a j hj' (n j)).2.apart l
  ·by_cases e2:j=r
   ·rw [if_neg e1,if_pos e2];exact((a i hi' (n i)).2.apart l).symm
   ·rw [if_neg e1,if_neg e2];exact p i j hi' hj' (n i) (n j) c
 ·have hj':j<X.length:=by simpa using b
  rw [g]
  by_cases e:j=r
  ·rw [if_pos e];exact u
  ·rw [if_neg e];exact(a j hj' (n j)).2.apart x
 ·have hj':j<X.length:=by simpa using b
  rw [z,A]
  by_cases e':j=r
  ·rw [if_pos e',if_pos e'];exact F e
  ·rw [if_neg e',if_neg e'];exact m e j hj' (n j)
theorem zir{f0:Frag}{Fs:List Frag}(hrow:Rows T R F Vs X Fs (fun _=>False))(a: ∀ j,j<X.length→Apart f0 (Fs.getD j emp)):Rows T R (minus F f0) Vs X Fs (fun _=>False):=
 ⟨hrow.1,fun j b n=>⟨(hrow.2.1 j b n).1,zac (hrow.2.1 j b n).2 (a j b)⟩,hrow.2.2⟩
theorem zhc{tt:TypeId}{x y:Operand}{u w:Value}{r:Nat}{f:Frag}{Y:List α}(n:TyOk P tt z1n)(h:N2 t T R F v Vs X)(o:r<X.length)(p:ev l x=u)(q:z14 z1n v Vs u r)(s:ev l y=w)(e:ORep T R f w Y)(z:t=true→capOf w=Y.length):
 Eff P ρ ⟨dst,.store tt x y,ty,pos,after,g⟩ l R ([F,f]++O) (fun v' R' O'=> ∃ Oc,O'=Oc++O∧R'=R∧ ∃ F',Oc=[F']∧N2 t T R F' v (Vs.set r w) (X.set r Y)):=by
 obtain⟨f0,Fs,B,C,a,hrow,b,c⟩:=h
 refine zgu (O1:=[f0]) (Or:=minus F f0::f::O) (fun A w d=>zb3 d a) (z3e (j:=0) n C rfl p q (by omega) s (zmh (jv e))) ?_
 rintro v' R' O1' D ⟨rfl,f',rfl,E⟩ A w' d
 have k:Holds R' (f'::f::minus F f0::(O++A)) w':=jo d ((List.Perm.swap f _ _).cons _)
 obtain⟨m,G⟩:=List.pairwise_cons.1 k.sep
 obtain⟨H,M⟩:=List.pairwise_cons.1 G
 have I:Apart f' f:=fun i=>m f (by simp) i
 have J:Apart f' (minus F f0):=fun i=>m _ (by simp) i
 have K:Apart f (minus F f0):=fun i=>H _ (by simp) i
 refine⟨z0g f' (z0g f (minus F f0))::O,?_,_,rfl,rfl,_,rfl,zqo o B E e (zir hrow b) I J K c z⟩
 have L:Holds R' (f::minus F f0::f'::(O++A)) w':=jo k ((List.Perm.swap f f' _).trans ((List.Perm.swap _ f' _).cons f))
 exact z8f (jo (z8f L) (List.Perm.swap f' _ _))
theorem z6z{tt e:TypeId}{bytes:Nat}{x y:Operand}{n:Nat}{k k':IntKind}(h:P.underlying tt=some (.slice e))(i:ZeroOk P e z1n (.slice none 0 0) bytes)(j:ev l x= .int k n)(m:ev l y= .int k' n)(o:bytes*n≤281474976710656)(p:n≤9223372036854775807):
 Eff P ρ ⟨dst,.makeSlice tt x y,ty,pos,after,g⟩ l R O (fun v R' O'=> ∃ Oc,O'=Oc++O∧R'=R∧ ∃ F,Oc=[F]∧N2 t T R F v (List.replicate n (.slice none 0 0)) (List.replicate n ([]:List α))∧capOf v=n):=
 (xh h i j m (Nat.le_refl _) o p).mono fun v R' O' _ ⟨a,b,f,c,d⟩=>by subst a;exact⟨[f],c,rfl,f,rfl,zox d,b⟩
theorem zl7{f:FuncId}{c:Operand}{args:List Operand}{at':Array TypeId}{cs vs:List Value}{Oc:List Frag}{post:Value→RH→List Frag→Prop}(a:Enters P f)(b:ev l c= .func (.func f) #[] cs.toArray)(d:args.map (ev l)=vs)(h:CallG P f (vs++cs).toArray R Oc post):
 Eff P ρ ⟨dst,.call ⟨.value c,args.toArray,at'⟩,ty,pos,after,g⟩ l R (Oc++O) (fun v R' O'=> ∃ Oc',O'=Oc'++O∧post v R' Oc'):=
 zl4 (fs:= #[]) (cs:=cs.toArray) a b (z0a d) (by simp) (List.Perm.refl _) h
end ops
section read
variable {α : Type} {t : Bool} {T : Ty α} {R R1 : RH} {f F : Frag} {v : Value} {Vs : List Value}
theorem zkt{X:List α}(h:ORep T R f v X)(a:RH.le R R1)(d: ∀ k o,f k=some o→R1.blk k=some o):VRep (uq T) R1 v X:=by
 rcases h with⟨rfl,rfl,rfl⟩|⟨b,pre,cs,cap,bt,rfl,rfl,g,j,l,c⟩
 ·exact z6e
 ·refine wz.2 ⟨_,cap,rfl,g,fun e=>by(cases e),.inr ⟨b,pre.length,(pre++cs).toArray,bt,(0,0),rfl,d _ _ (single_same _ _),fun i x m=>?_⟩⟩
  rw [iy]
  exact T.mono a (by simpa [cellsAt] using c i x m)
theorem zih{X:List α}(h:ORep T R f v X)(a:RH.le R R1)(b: ∀ k o,f k=some o→R1.blk k=some o)(c:t=true→capOf v=X.length):VRep (tSl t T) R1 v X:=by
 have:=zkt h a b
 cases t
 ·exact z8e this
 ·exact z2k this (c rfl)
theorem zq4{X:List (List α)}(h:N2 t T R F v Vs X)(c:RH.le R R1)(m: ∀ k o,F k=some o→R1.blk k=some o):VRep (uq (tSl t T)) R1 v X:=by
 obtain⟨f0,Fs,n,s,d,⟨u,a,w⟩,y,z⟩:=h
 have hrow: ∀ j,j<X.length→VRep (tSl t T) R1 (Vs.getD j default) (X.getD j default):=fun j f=>
  zih (a j f (fun h=>h)).1 c (fun k o A=>m k o ((a j f (fun h=>h)).2 k o A)) (fun e=>z e j f (fun h=>h))
 rcases s with⟨rfl,rfl,rfl⟩|⟨b,pre,cs,cap,bt,rfl,rfl,p,B,C,g⟩
 ·obtain rfl:X=[]:=List.eq_nil_of_length_eq_zero (by simpa using n.symm)
  exact z6e
 ·rw [n] at p⊢
  refine wz.2 ⟨_,cap,rfl,p,fun e=>by(cases e),.inr ⟨b,pre.length,(pre++cs).toArray,bt,(0,0),rfl,m _ _ (d _ _ (single_same _ _)),fun i x q=>?_⟩⟩
  rw [iy]
  have hi:i<X.length:=(List.getElem?_eq_some_iff.1 q).1
  have D:Vs[i]? =some (Vs.getD i default):=getD_some (by omega)
  obtain⟨hcc',E⟩:=g i _ D
  have l:X.getD i default=x:=by simp [List.getD_eq_getElem?_getD,q]
  have r:=yn rfl (hrow i hi)
  rw [l] at r
  show (tSl t T).rep R1 ((cs.drop (i*1)).take 1) x
  rw [show (cs.drop (i*1)).take 1=[Vs.getD i default] from hcc']
  exact r
theorem zq3{O:List Frag}{w:World}(b:Holds R (F::O) w): ∀ k o,F k=some o→(R.add F).blk k=some o:=fun k o a=>by
 have:=(b.own F (List.mem_cons_self ..) k o a).2
 simp [RH.add,this,a]
end read
section frz
variable {P : Program} {ρ : Option Nat} {n : Nat} {Q : Po} {l : Nat → Value} {D : List Nat} {R : RH} {O : List Frag} {ops : Array Oper} {os : List Oper} {c : Code} {α : Type} {t : Bool} {T : Ty α} {i : Nat} {F : Frag} {v : Value} {X : List (List α)}
theorem zcq(hi:O[i]? =some F)(h:NRep t T R F v X)(k: ∀ R',RH.le R R'→VRep (uq (tSl t T)) R' v X→wg P ρ n c Q l D R' (O.eraseIdx i)):wg P ρ n c Q l D R O:=fun a w d b=>
 let⟨Vs,h⟩:=h
 k (R.add F) (RH.le_add _ _) (zq4 h (RH.le_add _ _) (zq3 (z3o hi b))) a w d (z3k hi _ w b)
end frz
section appT
variable {P : Program} {ρ : Option Nat} {l : Nat → Value} {R : RH} {O : List Frag} {dst : Option Tmp} {ty : TypeId} {pos : String} {after : Array Go.Edge} {g : Option (Nat × Bool)} {α : Type} {T : Ty α}
theorem zfp{t e:TypeId}{i:TypeInfo}{k:Nat}{w:World}{a:Addr}{n cap:Nat}{u:Value}{p:Option Addr}{c:Nat}(d:P.underlying t=some (.slice e))(hi:P.info? e=some i)(f:i.size=k)(b:u= .slice p 0 c)(hnew:(Builtin.firstCells k 0 u).run P w= .ok #[] w)(g:n≤cap):
 (Builtin.append_ #[t,t] ty #[.slice (some a) n cap,u]).run P w= .ok (.slice (some a) n cap) w:=by
 subst b;subst f
 simp [Builtin.append_,run_underlying d,sizeOf,typeInfo,hi,Builtin.lenOf,hnew,g,storeCells]
theorem zm5{z:α}{bytes:Nat}{t e:TypeId}{x y:Operand}{v u:Value}{X Y:List α}
 (r:P.underlying t=some (.slice e)) (L:ZeroOk P e T z bytes) (s:ev l x=v) (B:ev l y=u) (C:VRep (tSl true T) R v X) (hu':VRep (uq T) R u Y)
 (M:(X.length+Y.length)*bytes≤140737488355328) (N:X.length+Y.length≤9223372036854775807):
 Eff P ρ ⟨dst,.call ⟨.builtin .append,#[x,y],#[t,t]⟩,ty,pos,after,g⟩ l R O (fun v' R' O'=>R'=R∧((Y=[]∧O'=O∧v'=v)∨ ∃ f',O'=f'::O∧ORep T R f' v' (X++Y))):=by
 intro A w d;rw [qi (by intro c h;cases h)]
 obtain⟨inf,zv,D,Q,E,S,U⟩:=L.info
 obtain⟨cy,p,n,rfl,f,hload⟩:=z8b hu'
 have i:cy.length=Y.length*T.size:=f.len
 have hnew: ∀ w',w'.heap=w.heap→(Builtin.firstCells T.size Y.length (.slice p Y.length n)).run P w'= .ok cy.toArray w':=fun w' hw'=>
  hload w' fun k o F=>by rw [hw'];exact d.ro k o F
 obtain⟨cx,px,nx,j,m,hloadx⟩:=z8b (jg C)
 have hcap:nx=X.length:=by
  have:=ztz C
  rw [j] at this;exact this
 subst hcap
 subst j
 by_cases hY:Y=[]
 ·subst hY
  have G:cy=[]:=List.length_eq_zero_iff.1 (by simpa using i)
  subst G
  have K:=hnew w rfl
  cases px with
  |none=>
   obtain⟨p',n',e',hn',hp',_⟩:=wz.1 (jg C)
   simp only [Value.slice.injEq] at e'
   obtain rfl:=hp' e'.1.symm
   rw [z2m s B (run_app_nil0 r D E rfl K)]
   exact⟨R,O,RH.le.refl _,d,rfl,.inl ⟨rfl,rfl,rfl⟩⟩
  |some a=>
   rw [z2m s B (zfp r D E rfl K (Nat.le_refl _))]
   exact⟨R,O,RH.le.refl _,d,rfl,.inl ⟨rfl,rfl,rfl⟩⟩
 ·have hpos:0<Y.length:=List.length_pos_iff.2 hY
  rw [z2m s B (run_app_grow (T:=T) (olds:=cx) r D Q E S rfl (fun w' hw'=>hloadx w' fun k o F=>by rw [hw'];exact d.ro k o F) rfl hnew (by omega) N M)]
  have hcap:=grownCap_ge w (X.length+Y.length) X.length e
  obtain⟨H,I⟩:=z9h (U R) (grownCap w (X.length+Y.length) X.length e-(X.length+Y.length))
  have J:=holds_alloc (z5j d) (.cells ((cx++cy)++(Builtin.zeroCells zv.cells (grownCap w (X.length+Y.length) X.length e-(X.length+Y.length))).toList).toArray e (0,0))
  have q:=z6r (b:=w.heap.size) (bt:=e) (cap:=grownCap w (X.length+Y.length) X.length e) (m.append f) (rest:=(Builtin.zeroCells zv.cells (grownCap w (X.length+Y.length) X.length e-(X.length+Y.length))).toList)
   (by rw [List.length_append];exact hcap) (by rw [List.length_append,List.length_append,m.len,i,I,←Nat.add_mul,←Nat.add_mul];exact Nat.mul_le_mul_right _ (by omega)) H
  have V:(cx.toArray++cy.toArray++Builtin.zeroCells zv.cells (grownCap w (X.length+Y.length) X.length e-(X.length+Y.length)))=((cx++cy)++(Builtin.zeroCells zv.cells (grownCap w (X.length+Y.length) X.length e-(X.length+Y.length))).toList).toArray:=by
   apply Array.ext';simp
  rw [V]
  exact⟨R,_::O,RH.le.refl _,J,rfl,.inr ⟨_,rfl,by rw [List.length_append] at q;exact q⟩⟩
theorem zks{z:α}{bytes:Nat}{t e:TypeId}{x y:Operand}{v u:Value}{X Y:List α}
 (h:P.underlying t=some (.slice e)) (i:ZeroOk P e T z bytes) (j:ev l x=v) (k:ev l y=u) (m:VRep (tSl true T) R v X) (hu':VRep (uq T) R u Y)
 (n:(X.length+Y.length)*bytes≤140737488355328) (o:X.length+Y.length≤9223372036854775807) (p:0<Y.length):
 Eff P ρ ⟨dst,.call ⟨.builtin .append,#[x,y],#[t,t]⟩,ty,pos,after,g⟩ l R O (fun v' R' O'=> ∃ Oc,O'=Oc++O∧R'=R∧ ∃ f',Oc=[f']∧ORep T R f' v' (X++Y)):=
 (zm5 h i j k m hu' n o).mono fun v' R' O' _ ⟨a,b⟩=>by
  rcases b with⟨rfl,_,_⟩|⟨f,c,d⟩
  ·simp at p
  ·exact⟨[f],c,a,f,rfl,d⟩
theorem zog{z:α}{bytes:Nat}{t e:TypeId}{x y:Operand}{f:Frag}{v u:Value}{X Y:List α}
 (b:P.underlying t=some (.slice e)) (c:ZeroOk P e T z bytes) (d:ev l x=v) (h:ev l y=u) (j:ORep T R f v X) (hu':VRep (uq T) R u Y)
 (k:(X.length+Y.length)*bytes≤140737488355328) (m:X.length+Y.length≤9223372036854775807):
 Eff P ρ ⟨dst,.call ⟨.builtin .append,#[x,y],#[t,t]⟩,ty,pos,after,g⟩ l R ([f]++O) (fun v' R' O'=> ∃ Oc,O'=Oc++O∧Oc=[]∧phR (tSl false T) (X++Y) v' R'):=by
 intro A w n
 refine z2o (zcn (i:=0) b c d h rfl j hu' k m A w n) ?_
 rintro v' w' ⟨R',O',a,hh',rfl,f',rfl,o⟩
 exact⟨R'.add f',O,a.trans (RH.le_add _ _),z0v hh',[],rfl,rfl,z8e (z1t o hh')⟩
end appT
section sliceO
variable {P : Program} {ρ : Option Nat} {l : Nat → Value} {R : RH} {O : List Frag} {α : Type} {T : Ty α}
theorem zhu{t e:TypeId}{lo hi mx:Nat}{x:Operand}{xlo xhi xmx:Option Operand}{f:Frag}{v:Value}{X:List α}(z:SlOk P t e T)(a:ev l x=v)(B:ORep T R f v X)
 (n:xlo.map (ev l)=none∧lo=0∨ ∃ k,xlo.map (ev l)=some (.int k lo)) (o:xhi.map (ev l)=none∧hi=X.length∧xmx=none∨ ∃ k,xhi.map (ev l)=some (.int k hi))
 (q:xmx.map (ev l)=none∧mx=capOf v∨ ∃ k,xmx.map (ev l)=some (.int k mx)) (C:lo≤hi) (G:hi≤X.length) (D:hi≤mx) (m:mx≤capOf v):
 ∃ u,ORep T R f u ((X.drop lo).take (hi-lo))∧capOf u=mx-lo∧ ∀ (dst:Option Tmp) (ty:TypeId) (pos:String) (after:Array Go.Edge) (g:Option (Nat×Bool)),Val P ρ ⟨dst,.slice t x xlo xhi xmx,ty,pos,after,g⟩ l R O u:=by
 obtain⟨p,d,E⟩:=z1d B
 refine⟨.slice (if mx=lo then p else p.map (·.add (lo*T.size))) (hi-lo) (mx-lo),?_,rfl,fun dst ty pos after g A w H=>?_⟩
 ·have hlen:((X.drop lo).take (hi-lo)).length=hi-lo:=by simp;omega
  rcases B with⟨rfl,rfl,rfl⟩|⟨b,pre,cs,cap,bt,rfl,rfl,F,r,j,s⟩
  ·have:mx=0:=by simpa [capOf] using m
   have:lo=0:=by omega
   have:hi=0:=by omega
   subst_vars
   simp only [Value.slice.injEq] at d
   obtain⟨rfl,_⟩:=d
   exact .inl ⟨rfl,by simp,rfl⟩
  ·simp only [Value.slice.injEq,capOf] at d m E
   obtain⟨rfl,_⟩:=d
   right
   by_cases hm:mx=lo
   ·refine⟨b,pre,cs,0,bt,?_,rfl,?_,by simp,j,fun i x a=>?_⟩
    ·rw [if_pos hm,hlen];simp only [Value.slice.injEq,true_and];omega
    ·rw [hlen];omega
    ·rw [show hi-lo=0 by omega,List.take_zero] at a;simp at a
   ·have y:lo*T.size≤cs.length:=Nat.le_trans (Nat.mul_le_mul_right _ (by omega:lo≤cap)) r
    refine⟨b,pre++cs.take (lo*T.size),cs.drop (lo*T.size),mx-lo,bt,?_,?_,by rw [hlen];omega,?_,?_,fun i x a=>?_⟩
    ·rw [if_neg hm,hlen];simp [addr_add,Nat.min_eq_left y]
    ·rw [List.append_assoc,List.take_append_drop]
    ·rw [List.length_drop,Nat.sub_mul]
     have:=Nat.mul_le_mul_right T.size m
     omega
    ·rw [List.append_assoc,List.take_append_drop];exact j
    ·rw [List.getElem?_take] at a
     split at a
     ·rw [List.getElem?_drop] at a
      have:=s (lo+i) x a
      rwa [List.drop_drop,←Nat.add_mul]
     ·cases a
 ·rw [qi (by intro c h;cases h)]
  exact z5x z.u z.e.size (a.trans d) n o q C D m (fun _=>by omega)
end sliceO
section sliceQ
variable {P : Program} {ρ : Option Nat} {n : Nat} {Q : Po} {l : Nat → Value} {D : List Nat} {R : RH} {O : List Frag} {ops : Array Oper} {rest : List Oper} {ty : TypeId} {pos : String} {after : Array Go.Edge} {d : Nat} {α : Type} {T : Ty α}
theorem zec{t e:TypeId}{lo hi mx:Nat}{x:Operand}{xlo xhi xmx:Option Operand}{f:Frag}{v:Value}{X:List α}(g:Nat.blt d n=true)(h:SlOk P t e T)(i:ev l x=v)(j:ORep T R f v X)
 (a:xlo.map (ev l)=none∧lo=0∨ ∃ k,xlo.map (ev l)=some (.int k lo)) (b:xhi.map (ev l)=none∧hi=X.length∧xmx=none∨ ∃ k,xhi.map (ev l)=some (.int k hi))
 (c:xmx.map (ev l)=none∧mx=capOf v∨ ∃ k,xmx.map (ev l)=some (.int k mx)) (m:lo≤hi) (o:hi≤X.length) (p:hi≤mx) (q:mx≤capOf v)
 (r: ∀ u,ORep T R f u ((X.drop lo).take (hi-lo))→capOf u=mx-lo→wo P ρ n ops Q rest (upd l d u) D R O):wo P ρ n ops Q (⟨some d,.slice t x xlo xhi xmx,ty,pos,after,none⟩::rest) l D R O:=by
 obtain⟨u,s,w,y⟩:=zhu (P:=P) (ρ:=ρ) (O:=O) h i j a b c m o p q
 exact ji g (y _ _ _ _ _) (r u s w)
end sliceQ
theorem zbz{place:Nat→Option (Nat×Nat)}: ∀ (ps ps':List (Nat×Value)) (cells:Array Value),ps.map (fun p=>(p.1,p.2.cells))=ps'.map (fun p=>(p.1,p.2.cells))→Instr.fill place cells ps=Instr.fill place cells ps'
 | [],[],_,_=>rfl
 | [],_::_,_,h=>by simp at h
 |_::_,[],_,h=>by simp at h
 |(i,v)::r,(j,u)::r',cells,h=>by
  simp only [List.map_cons,List.cons.injEq,Prod.mk.injEq] at h
  obtain⟨⟨rfl,a⟩,b⟩:=h
  simp only [Instr.fill,a]
  cases place i with
  |none=>rfl
  |some q=>simp only [];rw [zbz r r' _ b]
theorem zc7{P:Program}{ρ:Option Nat}{l:Nat→Value}{R:RH}{O:List Frag}{dst:Option Tmp}{ty:TypeId}{pos:String}{after:Array Go.Edge}{g:Option (Nat×Bool)}{t:TypeId}{parts:List (Nat×Operand)}{ps:List (Nat×Value)}(ps':List (Nat×Value)){v:Value}(a:(parts.map fun x=>(x.1,ev l x.2))=ps)
 (b:ps.map (fun p=>(p.1,p.2.cells))=ps'.map (fun p=>(p.1,p.2.cells))) (h: ∀ w,(Instr.build t ps'.toArray).run P w= .ok v w):Val P ρ ⟨dst,.build t parts.toArray,ty,pos,after,g⟩ l R O v:=
 u7 a fun w=>by
  have:(Instr.build t ps.toArray)=(Instr.build t ps'.toArray):=by
   simp only [Instr.build,zbz (place:=_) ps ps' _ b]
  rw [this];exact h w
def zh7(v:Value)(k:Nat):Value:=match v with
 | .agg a=>a.toList.getD k undef
 |_=>undef
section step
variable {P : Program} {ρ : Option Nat} {n : Nat} {Q : Po} {l : Nat → Value} {D : List Nat} {R : RH} {O : List Frag} {ops : Array Oper} {rest : List Oper} {ty : TypeId} {pos : String} {after : Array Go.Edge} {d : Nat}
theorem zm4{op:Op}{φ:Value→RH→Prop}(b:Nat.blt d n=true)(h:Eff P ρ ⟨some d,op,ty,pos,after,none⟩ l R O (fun v R' O'=>O'=O∧φ v R'))(c: ∀ v R',RH.le R R'→φ v R'→wo P ρ n ops Q rest (upd l d v) D R' O):
 wo P ρ n ops Q (⟨some d,op,ty,pos,after,none⟩::rest) l D R O:=z01 b h fun v R' O' a ⟨e,f⟩=>by subst e;exact c v R' a f
theorem zon{op:Op}{Oc Or:List Frag}{φ:Value→RH→List Frag→Prop}(c:Nat.blt d n=true)(a:O.Perm (Oc++Or))(h:Eff P ρ ⟨some d,op,ty,pos,after,none⟩ l R (Oc++Or) (fun v R' O'=> ∃ Oc',O'=Oc'++Or∧φ v R' Oc'))
 (f: ∀ v R' Oc',RH.le R R'→φ v R' Oc'→wo P ρ n ops Q rest (upd l d v) D R' (Oc'++Or)):wo P ρ n ops Q (⟨some d,op,ty,pos,after,none⟩::rest) l D R O:=
 z01 c (q8 a h) fun v R' O' b ⟨Oc',e,a⟩=>by subst e;exact f v R' Oc' b a
theorem zgj{op:Op}{Oc Or:List Frag}{φ:Value→RH→List Frag→Prop}(a:O.Perm (Oc++Or))(h:Eff P ρ ⟨none,op,ty,pos,after,none⟩ l R (Oc++Or) (fun v R' O'=> ∃ Oc',O'=Oc'++Or∧φ v R' Oc'))
 (c: ∀ v R' Oc',RH.le R R'→φ v R' Oc'→wo P ρ n ops Q rest l D R' (Oc'++Or)):wo P ρ n ops Q (⟨none,op,ty,pos,after,none⟩::rest) l D R O:=
 z8z (q8 a h) fun v R' O' b ⟨Oc',e,a⟩=>by subst e;exact c v R' Oc' b a
theorem ziz{α:Type}{T:Ty α}{z:α}{bytes:Nat}{t e:TypeId}{x y:Operand}{v u:Value}{X Y:List α}(a:Nat.blt d n=true)
 (b:P.underlying t=some (.slice e)) (c:ZeroOk P e T z bytes) (f:ev l x=v) (g:ev l y=u) (i:VRep (tSl true T) R v X) (hu':VRep (uq T) R u Y)
 (j:(X.length+Y.length)*bytes≤140737488355328) (k:X.length+Y.length≤9223372036854775807) (m:0<Y.length) (o: ∀ v' f',ORep T R f' v' (X++Y)→wo P ρ n ops Q rest (upd l d v') D R (f'::O)):
 wo P ρ n ops Q (⟨some d,.call ⟨.builtin .append,#[x,y],#[t,t]⟩,ty,pos,after,none⟩::rest) l D R O:=
 z01 a (zks b c f g i hu' j k m) fun v' R' O' _ ⟨Oc,p,q,f',r,h⟩=>by subst q;subst p;subst r;exact o v' f' h
end step
end GV
end Go.Proofs.YtkkcidhcfkmbjaaGreatDoor

namespace Go.Proofs.YtkkcidhcfkmbjaaGreatDoor
namespace GV
def z3f{α:Type}(T:Ty α)(o:Nat)(v:Value)(X:List α)(u:Value)(i:Nat):Prop:= ∃ b off,v= .slice (some ⟨b,off,none⟩) X.length (capOf v)∧u= .pointer (some ⟨b,off+i*T.size+o,none⟩)
section p
variable {P : Program} {ρ : Option Nat} {n : Nat} {ops : Array Oper} {Q : Po} {rest : List Oper} {l : Nat → Value} {D : List Nat} {R : RH} {O : List Frag} {ty : TypeId} {pos : String} {after : Array Go.Edge} {d : Nat} {dst : Option Tmp} {g : Option (Nat × Bool)}
variable {α β : Type} {T : Ty α} {B : Ty β} {X : List α} {v u w : Value} {x y : Operand} {f F : Frag} {i j o fld : Nat} {t s : TypeId} {pr : α → β} {se : α → β → α}
theorem zi9(a:FieldOk P s fld o)(c:ev l x=u)(d:z14 T v X u i): ∃ u',z3f T o v X u' i∧ ∀ (dst:Option Tmp) (ty:TypeId) (pos:String) (after:Array Go.Edge) (g:Option (Nat×Bool)),Val P ρ ⟨dst,.fieldAddr s x fld,ty,pos,after,g⟩ l R O u':=by
 obtain⟨b,off,e,rfl⟩:=d
 exact⟨_,⟨b,off,e,rfl⟩,fun dst ty pos after g=>qf a c⟩
theorem ze3(d:FieldOk P s fld o)(e:ev l x=u)(f:z14 T v X u i):Eff P ρ ⟨dst,.fieldAddr s x fld,ty,pos,after,g⟩ l R O (fun v' R' O'=>O'=O∧z3f T o v X v' i):=by
 obtain⟨u',h,j⟩:=zi9 (ρ:=ρ) (P:=P) (R:=R) (O:=O) d e f
 exact(j dst ty pos after g).eff.mono fun v' R' O' _ ⟨a,b,c⟩=>by subst a;exact⟨c,h⟩
theorem ziv(n:TyOk P t B)(hpart:Part T o B pr)(p:ORep T R f v X)(q:Has F f)(e:O[j]? =some F)(r:ev l x=u)(s:z3f T o v X u i){z:α}(k:X[i]? =some z):
 ∃ u,VRep B R u (pr z)∧ ∀ (dst:Option Tmp) (ty:TypeId) (pos:String) (after:Array Go.Edge) (g:Option (Nat×Bool)),Val P ρ ⟨dst,.load t x,ty,pos,after,g⟩ l R O u:=by
 obtain⟨b,off,m,rfl⟩:=s
 rcases p with⟨rfl,rfl,_⟩|⟨b',pre,cs,cap,bt,rfl,rfl,G,y,C,d⟩
 ·simp at k
 ·simp only [capOf,Value.slice.injEq,Option.some.injEq,Addr.mk.injEq,and_true] at m
  obtain⟨rfl,rfl⟩:=m
  have D:T.rep R (cellsAt (pre++cs).toArray (pre.length+i*T.size) T.size) z:=by rw [iy];simpa [cellsAt] using d i z k
  have a:=hpart.2 R _ _ D
  rw [z9i hpart.1] at a
  refine⟨B.mk' (cellsAt (pre++cs).toArray (pre.length+i*T.size+o) B.size),⟨_,a,rfl⟩,fun dst ty pos after g A w E=>?_⟩
  rw [qi (by intro c h;cases h)]
  have hblk:w.heap[b']? =some (.cells (pre++cs).toArray bt (0,0)):=ng E (i:=j) (by rw [List.getElem?_append_left (by exact(List.getElem?_eq_some_iff.1 e).1)];exact e) (q _ _ (single_same _ _))
  simp only [execOp,r,Instr.loadAt,Instr.sureAddr,Sem.run_bind,Sem.run_pure,Result.andThen_ok,z3n n hblk (R:=R) (x:=pr z) a]
theorem zel[Inhabited α](e:TyOk P t B)(hpart:Part T o B pr)(d:ORep T R f v X)(k:O[j]? =some f)(m:ev l x=u)(n:z3f T o v X u i)(p:i<X.length):
 Eff P ρ ⟨dst,.load t x,ty,pos,after,g⟩ l R O (fun v' R' O'=>O'=O∧phR B (pr (X.getD i default)) v' R'):=by
 obtain⟨w,q,d⟩:=ziv (ρ:=ρ) (P:=P) e hpart d (fun _ _ h=>h) k m n (getD_some p)
 exact(d dst ty pos after g).eff.mono fun v' R' O' _ ⟨a,b,c⟩=>by subst a;subst b;exact⟨c,q⟩
end p
section q
variable {P : Program} {ρ : Option Nat} {l : Nat → Value} {R : RH} {O : List Frag} {ty : TypeId} {pos : String} {after : Array Go.Edge} {dst : Option Tmp} {g : Option (Nat × Bool)}
variable {α β : Type} [Inhabited α] {b : Bool} {T : Ty α} {B : Ty β} {Vs : List Value} {X : List (List α)} {v u w : Value} {x y : Operand} {F : Frag} {i j o r : Nat} {t : TypeId} {pr : α → β} {se : α → β → α}
end q
end GV
end Go.Proofs.YtkkcidhcfkmbjaaGreatDoor

namespace Go.Proofs.YtkkcidhcfkmbjaaGreatDoor
namespace GV
/-! ### A map's entries as a list of pairs,in the order in which the keys came-/
def z08{κ β:Type}[DecidableEq κ](z:β):List (κ×β)→κ→β
 | [],_=>z
 |p::l,k=>if k=p.1 then p.2 else z08 z l k
def zp1{κ β:Type}[DecidableEq κ]:List (κ×β)→κ→Bool
 | [],_=>false
 |p::l,k=>if k=p.1 then true else zp1 l k
def z11{κ β:Type}[DecidableEq κ]:List (κ×β)→κ→β→List (κ×β)
 | [],k,v=>[(k,v)]
 |p::l,k,v=>if k=p.1 then(k,v)::l else p::z11 l k v
def z1m{κ β:Type}[DecidableEq κ]:List (κ×β)→κ→Nat→Option (Nat×β)
 | [],_,_=>none
 |p::l,k,i=>if k=p.1 then some (i,p.2) else z1m l k (i+1)
def z7q(e:MapEntry):Value×Value:=(e.key,e.val)
def z8g{κ β:Type}(ke:κ→Value)(ve:β→Value)(es:Array MapEntry)(M:List (κ×β)):Prop:=es.toList.map z7q=M.map fun p=>(ke p.1,ve p.2)
structure KOk (P:Program) (kt:TypeId) {κ:Type} [DecidableEq κ] (ke:κ→Value):Prop where
 check: ∀ (b:Bool) (k:κ) (w:World),(Instr.checkKey b 10000 kt (ke k)).run P w= .ok () w
 find: ∀ {β:Type} (k:κ) (es:List MapEntry) (M:List (κ×β)) (ve:β→Value) (w:World),es.map z7q=M.map (fun p=>(ke p.1,ve p.2))→
  (Instr.findKey kt (ke k) es).run P w= .ok ((z1m M k 0).map fun p=>(p.1,ve p.2)) w
 same: ∀ k:κ,Instr.sameBits 10000 (ke k) (ke k)=true
theorem zb2{β:Type}{q q':IntKind}{k:Int}{ve:β→Value}: ∀ (es:List MapEntry) (M:List (Int×β)) (i:Nat),es.map z7q=M.map (fun p=>(Value.int q p.1,ve p.2))→
 Instr.findNow (.int q') (.int q k) es i=some ((z1m M k i).map fun p=>(p.1,ve p.2))
 | [],[],i,_=>rfl
 | [],_::_,_,h=>by simp at h
 |_::_,[],_,h=>by simp at h
 |e::es,p::M,i,h=>by
  simp only [List.map_cons,List.cons.injEq,z7q,Prod.mk.injEq] at h
  obtain⟨⟨a,b⟩,c⟩:=h
  unfold Instr.findNow
  rw [a]
  simp only [Instr.sameNow,if_pos]
  unfold z1m
  by_cases hk:k=p.1
  ·simp [hk,b]
  ·have:(k==p.1)=false:=by simpa using hk
   rw [this]
   simp only [if_neg hk]
   exact zb2 es M (i+1) c
theorem zp3{P:Program}{kt:TypeId}{q:IntKind}(a:P.underlying kt=some (.int q)):KOk P kt (Value.int q) where
 check b k w:=MapKept.run_checkKey a (by simp [MapKept.IsKey]) b 9999
 find k es M ve w h:=MapKept.run_findKey a (zb2 es M 0 h)
 same k:=by simp [Instr.sameBits]
section m
variable {κ β : Type} [DecidableEq κ] {ke : κ → Value} {ve : β → Value} {M : List (κ × β)} {k : κ} {z : β}
theorem zle(i:Nat):((z1m M k i).map (·.2)).getD z=z08 z M k:=by
 induction M generalizing i with
 |nil=>rfl
 |cons p l ih=>
  unfold z1m z08
  by_cases h:k=p.1
  ·simp [h]
  ·simp only [if_neg h];exact ih (i+1)
theorem zki(i:Nat):(z1m M k i).isSome=zp1 M k:=by
 induction M generalizing i with
 |nil=>rfl
 |cons p l ih=>
  unfold z1m zp1
  by_cases h:k=p.1
  ·simp [h]
  ·simp only [if_neg h];exact ih (i+1)
theorem zio{i:Nat}{v:β}(h:z1m M k i=none):z11 M k v=M++[(k,v)]:=by
 induction M generalizing i with
 |nil=>rfl
 |cons p l ih=>
  unfold z1m at h
  by_cases hk:k=p.1
  ·simp [hk] at h
  ·rw [if_neg hk] at h
   simp only [z11,if_neg hk,ih h,List.cons_append]
theorem ziq{i j:Nat}{u v:β}(h:z1m M k i=some (j,u)):i≤j∧M[j-i]? =some (k,u)∧z11 M k v=M.set (j-i) (k,v):=by
 induction M generalizing i with
 |nil=>cases h
 |cons p l ih=>
  unfold z1m at h
  by_cases hk:k=p.1
  ·rw [if_pos hk] at h
   simp only [Option.some.injEq,Prod.mk.injEq] at h
   obtain⟨rfl,rfl⟩:=h
   refine⟨Nat.le_refl _,?_,?_⟩
   ·simp [hk]
   ·simp [z11,hk]
  ·rw [if_neg hk] at h
   obtain⟨c,a,b⟩:=ih h
   have e:j-i=(j-(i+1))+1:=by omega
   refine⟨by omega,?_,?_⟩
   ·rw [e,List.getElem?_cons_succ];exact a
   ·rw [e,List.set_cons_succ,←b];simp [z11,hk]
end m
def zit{κ β:Type}(ke:κ→Value)(ve:β→Value):Ty (List (κ×β)) where
 size:=1
 agg:=false
 rep R cs M:= ∃ b es c,cs=[.map (some b)]∧R.blk b=some (.map es c)∧z8g ke ve es M
 len:=by rintro R cs X ⟨b,es,c,rfl,_⟩;rfl
 mono:=by rintro R R' cs X hle ⟨b,es,c,rfl,a,d⟩;exact⟨b,es,c,rfl,hle.blk _ _ a,d⟩
 one _:=rfl
 cell:=by rintro R cs X ⟨b,es,c,rfl,_⟩ v hv;simp at hv;subst hv;rfl
theorem zh8{κ β:Type}{ke:κ→Value}{ve:β→Value}{R:RH}{v:Value}{M:List (κ×β)}:VRep (zit ke ve) R v M↔ ∃ b es c,v= .map (some b)∧R.blk b=some (.map es c)∧z8g ke ve es M:=
 ⟨fun⟨_,⟨b,es,c,h,a⟩,e⟩=>by subst h;exact⟨b,es,c,e,a⟩,fun⟨b,es,c,h,a⟩=>⟨_,⟨b,es,c,rfl,a⟩,h⟩⟩
def MRep{κ β:Type}(ke:κ→Value)(ve:β→Value)(R:RH)(f:Frag)(v:Value)(M:List (κ×β)):Prop:=
 ∃ b es c,v= .map (some b)∧f=single b (.map es c)∧z8g ke ve es M
theorem MRep.mono{κ β:Type}{ke:κ→Value}{ve:β→Value}{R R':RH}{f:Frag}{v:Value}{M:List (κ×β)}(h:MRep ke ve R f v M)(a:RH.le R R'):MRep ke ve R' f v M:=h
section e
variable {P : Program} {ρ : Option Nat} {n : Nat} {ops : Array Oper} {Q : Po} {rest : List Oper} {l : Nat → Value} {D : List Nat} {R : RH} {O : List Frag} {ty : TypeId} {pos : String} {after : Array Go.Edge} {d : Nat} {dst : Option Tmp} {g : Option (Nat × Bool)}
variable {κ β : Type} {ke : κ → Value} {ve : β → Value} {M : List (κ × β)} {k : κ} {z : β} {t kt et : TypeId} {x y s : Operand} {v : Value} {f : Frag}
theorem zkv(h:MRep ke ve R f v M):v.oneCell'=true:=by
 obtain⟨b,es,c,rfl,_⟩:=h;rfl
theorem zga(h:MRep ke ve R f v M):v.cells=[v].toArray:=by
 obtain⟨b,es,c,rfl,_⟩:=h;rfl
theorem zhk:Eff P ρ ⟨dst,.makeMap t none,ty,pos,after,g⟩ l R O (fun v R' O'=>R'=R∧ ∃ f,O'=f::O∧MRep ke ve R f v ([]:List (κ×β))):=by
 intro A w a;rw [qi (by intro c h;cases h)]
 simp only [execOp,Option.map,Instr.makeMap,Sem.run_bind,run_newObj,Sem.run_pure,Result.andThen_ok]
 exact⟨R,_,RH.le.refl _,lw a _,rfl,_,rfl,_,#[],0,rfl,rfl,rfl⟩
theorem zcl(a:Nat.blt d n=true)(b: ∀ v f,MRep ke ve R f v ([]:List (κ×β))→wo P ρ n ops Q rest (upd l d v) D R (f::O)):wo P ρ n ops Q (⟨some d,.makeMap t none,ty,pos,after,none⟩::rest) l D R O:=
 z01 a (zhk (ke:=ke) (ve:=ve)) fun v R' O' _ ⟨c,f,e,h⟩=>by subst c;subst e;exact b v f h
variable [DecidableEq κ]
theorem z7n{b:Nat}{es:Array MapEntry}{c:Nat}{w:World}{u:β}(m:P.underlying t=some (.map kt et))(f:KOk P kt ke)(g:w.heap[b]? =some (.map es c))(a:z8g ke ve es M):
 ∃ es' c',(Instr.mapUpdate t (.map (some b)) (ke k) (ve u)).run P w= .ok () {w with heap:=w.heap.setIfInBounds b (.map es' c')}∧z8g ke ve es' (z11 M k u):=by
 have n:=f.find k es.toList M ve w a
 unfold Instr.mapUpdate
 simp only [Sem.run_bind,run_underlying m,Result.andThen_ok,MapKept.run_getObj_map g,f.check,n]
 cases hm:z1m M k 0 with
 |none=>
  simp only [Option.map_none,MapKept.run_setObj_map _ g]
  refine⟨_,_,rfl,?_⟩
  unfold z8g at a⊢
  rw [Array.toList_push,List.map_append,a,zio hm,List.map_append]
  rfl
 |some p=>
  obtain⟨j,h⟩:=p
  obtain⟨_,l,o⟩:=ziq (v:=u) hm
  simp only [Option.map_some]
  have hkey:((es[j]?).map (·.key)).getD (ke k)=ke k:=by
   have d:(es.toList.map z7q)[j]? =some (ke k,ve h):=by rw [a,List.getElem?_map,show M[j]? =some (k,h) from l];rfl
   rw [List.getElem?_map,Array.getElem?_toList] at d
   cases he:es[j]? with
   |none=>rfl
   |some e=>rw [he] at d;simp only [Option.map_some,z7q,Option.some.injEq,Prod.mk.injEq] at d;simp [d.1]
  rw [hkey]
  simp only [Instr.keyThatStays,f.same,if_true,Sem.run_pure,Sem.run_bind,Result.andThen_ok,MapKept.run_setObj_map _ g]
  refine⟨_,_,rfl,?_⟩
  unfold z8g at a⊢
  rw [o,Array.toList_modify]
  apply List.ext_getElem?
  intro i
  have hi:(es.toList.map z7q)[i]? =(M.map fun p=>(ke p.1,ve p.2))[i]? :=by rw [a]
  rw [List.getElem?_map,List.getElem?_modify,List.getElem?_map,List.getElem?_set]
  rw [List.getElem?_map,List.getElem?_map] at hi
  by_cases hij:j=i
  ·subst hij
   have q:j<M.length:=(List.getElem?_eq_some_iff.1 l).1
   simp only [Nat.sub_zero,if_true,q]
   rw [show M[j]? =some (k,h) from l] at hi
   cases he:es.toList[j]? with
   |none=>rw [he] at hi;simp at hi
   |some e=>simp [z7q]
  ·simp only [Nat.sub_zero,if_neg hij]
   simpa using hi
theorem ze2{u:β}{w0 q:Value}{i:Nat}(p:P.underlying t=some (.map kt et))(r:KOk P kt ke)(m:O[i]? =some f)(h:MRep ke ve R f v M)(z:ev l x=v)(B:ev l y=ke k)(C:ev l s=ve u):
 Eff P ρ ⟨dst,.mapUpdate t x y s,ty,pos,after,g⟩ l R O (fun v' R' O'=>v'=undef∧R'=R∧ ∃ f',O'=O.set i f'∧MRep ke ve R f' v (z11 M k u)):=by
 intro A w n;rw [qi (by intro c h;cases h)]
 obtain⟨b,es,c,rfl,rfl,D⟩:=h
 have a:i<O.length:=(List.getElem?_eq_some_iff.1 m).1
 have hO':(O++A)[i]? =some (single b (.map es c)):=by rw [List.getElem?_append_left a];exact m
 have o:w.heap[b]? =some (.map es c):=ng n hO' (single_same _ _)
 obtain⟨es',c',E,F⟩:=z7n (k:=k) (u:=u) p r o D
 have d:(execOp (ev l) (⟨dst,.mapUpdate t x y s,ty,pos,after,g⟩:Oper)).run P w= .ok .skip {w with heap:=w.heap.setIfInBounds b (.map es' c')}:=by
  simp only [execOp,z,B,C,Sem.run_bind,E,Result.andThen_ok]
  rfl
 rw [d]
 have e:b<w.heap.size:=(Array.getElem?_eq_some_iff.1 o).1
 refine⟨R,_,RH.le.refl _,?_,rfl,rfl,_,rfl,_,es',c',rfl,rfl,F⟩
 have:=z2n (w':= {w with heap:=w.heap.setIfInBounds b (.map es' c')}) n hO' (o':= .map es' c') (by simp [e]) (fun j G=>by simp [Ne.symm G]) rfl rfl trivial
 rwa [List.set_append_left _ _ a] at this
theorem z8l{u:β}{i:Nat}(a:P.underlying t=some (.map kt et))(b:KOk P kt ke)(c:O[i]? =some f)(h:MRep ke ve R f v M)(d:ev l x=v)(e:ev l y=ke k)(g:ev l s=ve u)
 (j: ∀ f',MRep ke ve R f' v (z11 M k u)→wo P ρ n ops Q rest l D R (O.set i f')):wo P ρ n ops Q (⟨none,.mapUpdate t x y s,ty,pos,after,none⟩::rest) l D R O:=
 z8z (ze2 (w0:=undef) (q:=undef) a b c h d e g) fun v' R' O' _ ⟨_,m,f',hO',h⟩=>by subst m;subst hO';exact j f' h
theorem zdw{u:β}{w0 q:Value}{i:Nat}(p:P.underlying t=some (.map kt et))(r:KOk P kt ke)(m:O[i]? =some f)(h:MRep ke ve R f v M)(z:ev l x=v)(B:ev l y=ke k)(C:ev l s=ve u):
 Eff P ρ ⟨dst,.insert t x y s,ty,pos,after,g⟩ l R O (fun v' R' O'=>v'=undef∧R'=R∧ ∃ f',O'=O.set i f'∧MRep ke ve R f' v (z11 M k u)):=by
 intro A w n;rw [qi (by intro c h;cases h)]
 obtain⟨b,es,c,rfl,rfl,D⟩:=h
 have a:i<O.length:=(List.getElem?_eq_some_iff.1 m).1
 have hO':(O++A)[i]? =some (single b (.map es c)):=by rw [List.getElem?_append_left a];exact m
 have o:w.heap[b]? =some (.map es c):=ng n hO' (single_same _ _)
 obtain⟨es',c',E,F⟩:=z7n (k:=k) (u:=u) p r o D
 have d:(execOp (ev l) (⟨dst,.insert t x y s,ty,pos,after,g⟩:Oper)).run P w= .ok .skip {w with heap:=w.heap.setIfInBounds b (.map es' c')}:=by
  simp only [execOp,z,B,C,Sem.run_bind,E,Result.andThen_ok]
  rfl
 rw [d]
 have e:b<w.heap.size:=(Array.getElem?_eq_some_iff.1 o).1
 refine⟨R,_,RH.le.refl _,?_,rfl,rfl,_,rfl,_,es',c',rfl,rfl,F⟩
 have:=z2n (w':= {w with heap:=w.heap.setIfInBounds b (.map es' c')}) n hO' (o':= .map es' c') (by simp [e]) (fun j G=>by simp [Ne.symm G]) rfl rfl trivial
 rwa [List.set_append_left _ _ a] at this
theorem z8o{u:β}{i:Nat}(a:P.underlying t=some (.map kt et))(b:KOk P kt ke)(c:O[i]? =some f)(h:MRep ke ve R f v M)(d:ev l x=v)(e:ev l y=ke k)(g:ev l s=ve u)
 (j: ∀ f',MRep ke ve R f' v (z11 M k u)→wo P ρ n ops Q rest l D R (O.set i f')):wo P ρ n ops Q (⟨none,.insert t x y s,ty,pos,after,none⟩::rest) l D R O:=
 z8z (zdw (w0:=undef) (q:=undef) a b c h d e g) fun v' R' O' _ ⟨_,m,f',hO',h⟩=>by subst m;subst hO';exact j f' h
def MAt(ke:κ→Value)(ve:β→Value)(R:RH)(O:List Frag)(v:Value)(M:List (κ×β)):Prop:=
 ∀ A w,Holds R (O++A) w→ ∃ b es c,v= .map (some b)∧w.heap[b]? =some (.map es c)∧z8g ke ve es M
omit [DecidableEq κ] in
theorem zq0{i:Nat}(d:O[i]? =some f)(h:MRep ke ve R f v M):MAt ke ve R O v M:=by
 intro A w e
 obtain⟨b,es,c,rfl,rfl,g⟩:=h
 have a:i<O.length:=(List.getElem?_eq_some_iff.1 d).1
 exact⟨b,es,c,rfl,ng e (by rw [List.getElem?_append_left a];exact d) (single_same _ _),g⟩
omit [DecidableEq κ] in
theorem zmg(h:VRep (zit ke ve) R v M):MAt ke ve R O v M:=by
 intro A w a
 obtain⟨b,es,c,rfl,d,e⟩:=zh8.1 h
 exact⟨b,es,c,rfl,a.ro _ _ d,e⟩
theorem zj1{b:Nat}{es:Array MapEntry}{c:Nat}{w:World}(d:P.underlying t=some (.map kt et))(a:KOk P kt ke)(e: ∀ w,(zeroValue et).run P w= .ok (ve z) w)(f:w.heap[b]? =some (.map es c))(g:z8g ke ve es M)(ok:Bool):
 (Instr.lookup t (.map (some b)) (ke k) ok).run P w= .ok (if ok then .tuple #[ve (z08 z M k),.bool (zp1 M k)] else ve (z08 z M k)) w:=by
 have h:=a.find k es.toList M ve w g
 unfold Instr.lookup
 simp only [Sem.run_bind,run_underlying d,Result.andThen_ok,MapKept.run_getObj_map f,a.check,h,Sem.run_pure]
 rw [←zle 0,←zki 0]
 cases hm:z1m M k 0 with
 |none=>simp [e]
 |some p=>simp
theorem zbx(a:P.underlying t=some (.map kt et))(d:KOk P kt ke)(e: ∀ w,(zeroValue et).run P w= .ok (ve z) w)(h:MAt ke ve R O v M)(f:ev l x=v)(i:ev l y=ke k):Val P ρ ⟨dst,.lookup t x y false,ty,pos,after,g⟩ l R O (ve (z08 z M k)):=by
 intro A w j;rw [qi (by intro c h;cases h)]
 obtain⟨b,es,c,rfl,m,n⟩:=h A w j
 simp only [execOp,f,i,Sem.run_bind,zj1 (k:=k) a d e m n,Result.andThen_ok]
 rfl
end e
theorem zr1{κ β:Type}{ke:κ→Value}{ve:β→Value}{R a:RH}{O:List Frag}{f:Frag}{v:Value}{M:List (κ×β)}(i:Nat)(hi:O[i]? =some f)(h:MRep ke ve R f v M)(d:RH.le R a)(e: ∀ f∈O,∀ k o,f k=some o→a.blk k=some o):VRep (zit ke ve) a v M:=by
 obtain⟨b,es,c,rfl,rfl,g⟩:=h
 exact zh8.2 ⟨b,es,c,rfl,e _ (List.mem_of_getElem? hi) b _ (single_same _ _),g⟩
end GV
end Go.Proofs.YtkkcidhcfkmbjaaGreatDoor
