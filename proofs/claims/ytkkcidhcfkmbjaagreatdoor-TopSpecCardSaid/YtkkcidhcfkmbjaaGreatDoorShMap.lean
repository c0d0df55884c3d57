
import Derived.Test.YtkkcidhcfkmbjaaGreatDoorShFree
import Derived.MapKept
set_option linter.unusedVariables false
set_option linter.unusedSimpArgs false
set_option linter.unusedSectionVars false
namespace Go.Proofs.YtkkcidhcfkmbjaaGreatDoor
namespace GV
def NRep{α:Type}(t:Bool)(T:Ty α)(R:RH)(F:Frag)(v:Value)(X:List (List α)):Prop:= ∃ Vs,N2 t T R F v Vs X
theorem NRep.mono{α:Type}{t:Bool}{T:Ty α}{R R':RH}{F:Frag}{v:Value}{X:List (List α)}(h:NRep t T R F v X)(b:RH.le R R'):NRep t T R' F v X:=let⟨Vs,a⟩:=h;⟨Vs,a.mono b⟩
theorem yh{α:Type}{t:Bool}{T:Ty α}{R:RH}{F:Frag}{v:Value}{Vs:List Value}{X:List (List α)}(h:N2 t T R F v Vs X):NRep t T R F v X:=⟨Vs,h⟩
theorem zfb{P:Program}{t:TypeId}{α:Type}{T:Ty α}{b:Bool}(h:TyOk P t (tSl b T)):TyOk P t tHdr:=⟨h.agg,h.size⟩
theorem zim{P:Program}{t e:TypeId}{α:Type}{T:Ty α}{b:Bool}(h:SlOk P t e (tSl b T)):SlOk P t e tHdr:=⟨h.u,zfb h.e⟩
theorem znx{R:RH}{w y:Value}(h:VRep tHdr R w y):w=y:=by obtain⟨cs,⟨rfl,_⟩,rfl⟩:=h;rfl
theorem zm8{R:RH}{w:Value}(h:w.oneCell'=true):VRep tHdr R w w:=⟨[w],⟨rfl,h⟩,rfl⟩
theorem zbw{R:RH}{w:Value}(h:w.oneCell'=true):tHdr.rep R [w] w:=⟨rfl,h⟩
theorem zit{α:Type}{t:Bool}{T:Ty α}{R:RH}{F:Frag}{v:Value}{Vs:List Value}{X:List (List α)}(h:N2 t T R F v Vs X):v.oneCell'=true:=let⟨_,a,_⟩:=h.o;z0a a
theorem zso{α:Type}{t:Bool}{T:Ty α}{R:RH}{F:Frag}{v:Value}{Vs:List Value}{X:List (List α)}(h:N2 t T R F v Vs X){r:Nat}(a:r<X.length)(e:t=true):capOf (Vs.getD r default)=(X.getD r default).length:=
 let⟨_,_,_,_,_,_,_,g⟩:=h;g e r a (fun h=>h)
theorem zfy{v:Value}(h:v.oneCell'=true):v.cells=([v]:List Value).toArray:=by
 cases v<;>first|rfl|(simp [Value.oneCell'] at h;done)
section ops
variable {P : Program} {ρ : Option Nat} {l : Nat → Value} {R : RH} {O : List Frag} {dst : Option Tmp} {ty : TypeId} {pos : String} {after : Array Go.Edge} {g : Option (Nat × Bool)} {α : Type} {t : Bool} {T : Ty α} {F : Frag} {v : Value} {Vs : List Value} {X : List (List α)}
theorem zao{tt e:TypeId}{x ix:Operand}{k:IntKind}{i:Nat}(a:SlOk P tt e tHdr)(b:ev l x=v)(h:N2 t T R F v Vs X)(hi:ev l ix= .int k i)(d:i<X.length):
 Eff P ρ ⟨dst,.indexAddr tt x ix,ty,pos,after,g⟩ l R O (fun v' R' O'=>O'=O∧(fun u _=>z2l tHdr v Vs u i) v' R'):=by
 obtain⟨f0,c,_,f⟩:=h.o
 exact z14 a b c hi (by omega)
theorem zgd{tt:TypeId}{x:Operand}{u:Value}{i j:Nat}(d:TyOk P tt tHdr)(h:N2 t T R F v Vs X)(e:O[j]? =some F)(f:ev l x=u)(k:z2l tHdr v Vs u i)(r:i<X.length):
 Eff P ρ ⟨dst,.load tt x,ty,pos,after,g⟩ l R O (fun v' R' O'=>O'=O∧phX (Vs.getD i default) v' R'):=by
 obtain⟨f0,m,n,s⟩:=h.o
 obtain⟨w,p,q⟩:=zl4 (ρ:=ρ) (P:=P) d m n e f k (getD_some (by omega))
 exact(q dst ty pos after g).eff.mono fun v' R' O' _ ⟨a,b,c⟩=>⟨c,a.trans (znx p)⟩
theorem zci{tt e:TypeId}{x ix:Operand}{k:IntKind}{i r:Nat}(a:SlOk P tt e T)(h:N2 t T R F v Vs X)(b:r<X.length)(c:ev l x=Vs.getD r default)(hi:ev l ix= .int k i)(d:i<(X.getD r default).length):
 Eff P ρ ⟨dst,.indexAddr tt x ix,ty,pos,after,g⟩ l R O (fun v' R' O'=>O'=O∧(fun u _=>z2l T (Vs.getD r default) (X.getD r default) u i) v' R'):=
 let⟨fk,f,_⟩:=h.row b;z14 a c f hi d
theorem znh{tt e:TypeId}{at':Array TypeId}{x:Operand}(a:at'[0]? =some tt)(b:P.underlying tt=some (.slice e))(c:ev l x=v)(h:N2 t T R F v Vs X):Val P ρ ⟨dst,.call ⟨.builtin .len,#[x],at'⟩,ty,pos,after,g⟩ l R O (.int .i64 X.length):=by
 obtain⟨f0,d,i,f⟩:=h.o
 rw [←f];exact z2f a b c d
theorem ziz{tt:TypeId}{x y:Operand}{u w:Value}{i r:Nat}{z:α}(c:TyOk P tt T)(h:N2 t T R F v Vs X)(b:r<X.length)(d:ev l x=u)(f:z2l T (Vs.getD r default) (X.getD r default) u i)(hi:i<(X.getD r default).length)
 (k:ev l y=w) (m:VRep T R w z):Eff P ρ ⟨dst,.store tt x y,ty,pos,after,g⟩ l R ([F]++O) (fun v' R' O'=> ∃ Oc,O'=Oc++O∧R'=R∧ ∃ F',Oc=[F']∧N2 t T R F' v Vs (X.set r ((X.getD r default).set i z))):=by
 obtain⟨fk,n,o,p⟩:=h.hole b
 refine zgx (O1:=[fk]) (Or:=minus F fk::O) (fun A w a=>z7j a o) (z3h (j:=0) c n rfl d f hi k m) ?_
 rintro v' R' O1' q ⟨rfl,f',rfl,s⟩ A w a
 refine⟨lu f' (minus F fk)::O,z6t a,_,rfl,rfl,_,rfl,N2h.fill (u:=default) p b s (zhg a) fun e=>?_⟩
 rw [List.length_set];exact zso h b e
theorem ziy{f g h:Frag}(a:Apart f g)(b:Apart f h):Apart f (lu g h):=fun k=>by
 unfold lu
 cases e:g k with
 |none=>exact b k
 |some o=>
  rcases a k with c|c
  ·exact .inl c
  ·rw [e] at c;cases c
theorem zqr{f0' f G:Frag}{Fs:List Frag}{r:Nat}{w:Value}{Y:List α}(z:r<X.length)(A:Vs.length=X.length)(B:ORep tHdr R f0' v (Vs.set r w))(C:ORep T R f w Y)(hrow:Rows T R G Vs X Fs (fun _=>False))(s:Apart f0' f)(a2:Apart f0' G)(a3:Apart f G)
 (l:zil t Vs X (fun _=>False)) (D:t=true→capOf w=Y.length):N2 t T R (lu f0' (lu f G)) v (Vs.set r w) (X.set r Y):=by
 obtain⟨m,a,o⟩:=hrow
 have n: ∀ j,¬(fun(_:Nat)=>False) j:=fun _ h=>h
 have b:Apart f0' (lu f G):=ziy s a2
 have p:Has (lu f0' (lu f G)) f:=(z5o b).trans z8i
 have q:Has (lu f0' (lu f G)) G:=(z5o b).trans (z5o a3)
 have g:=fun j=>z2h (X:=Fs) (j:=j) (y:=f) (d:=emp) (k:=r) (by omega)
 have u:=fun j=>z2h (X:=X) (j:=j) (y:=Y) (d:=default) z
 have x:=fun j=>z2h (X:=Vs) (j:=j) (y:=w) (d:=default) (k:=r) (by omega)
 refine⟨f0',Fs.set r f,by simp [A],B,z8i,⟨by simp [m],fun j b _=>?_,fun i j hi b _ _ c=>?_⟩,fun j b=>?_,fun e j b _=>?_⟩
 ·have hj':j<X.length:=by simpa using b
  rw [g,u,x]
  by_cases e:j=r
  ·subst e;rw [if_pos rfl,if_pos rfl,if_pos rfl];exact⟨C,p⟩
  ·rw [if_neg e,if_neg e,if_neg e];exact⟨(a j hj' (n j)).1,q.trans (a j hj' (n j)).2⟩
 ·have hi':i<X.length:=by simpa using hi
  have hj':j<X.length:=by simpa using b
  rw [g,g]
  by_cases e1:i=r
  ·rw [if_pos e1,if_neg (fun e=>c (e1.trans e.symm))]
   exact(a j hj' (n j)).2.apart a3
  ·by_cases e2:j=r
   ·rw [if_neg e1,if_pos e2];exact((a i hi' (n i)).2.apart a3).symm
   ·rw [if_neg e1,if_neg e2];exact o i j hi' hj' (n i) (n j) c
 ·have hj':j<X.length:=by simpa using b
  rw [g]
  by_cases e:j=r
  ·rw [if_pos e];exact s
  ·rw [if_neg e];exact(a j hj' (n j)).2.apart a2
 ·have hj':j<X.length:=by simpa using b
  rw [u,x]
  by_cases e':j=r
  ·rw [if_pos e',if_pos e'];exact D e
  ·rw [if_neg e',if_neg e'];exact l e j hj' (n j)
theorem zj5{f0:Frag}{Fs:List Frag}(hrow:Rows T R F Vs X Fs (fun _=>False))(a: ∀ j,j<X.length→Apart f0 (Fs.getD j emp)):Rows T R (minus F f0) Vs X Fs (fun _=>False):=
 ⟨hrow.1,fun j b n=>⟨(hrow.2.1 j b n).1,zav (hrow.2.1 j b n).2 (a j b)⟩,hrow.2.2⟩
theorem zny{tt:TypeId}{x y:Operand}{u w:Value}{r:Nat}{f:Frag}{Y:List α}(n:TyOk P tt tHdr)(h:N2 t T R F v Vs X)(o:r<X.length)(p:ev l x=u)(q:z2l tHdr v Vs u r)(s:ev l y=w)(e:ORep T R f w Y)(z:t=true→capOf w=Y.length):
 Eff P ρ ⟨dst,.store tt x y,ty,pos,after,g⟩ l R ([F,f]++O) (fun v' R' O'=> ∃ Oc,O'=Oc++O∧R'=R∧ ∃ F',Oc=[F']∧N2 t T R F' v (Vs.set r w) (X.set r Y)):=by
 obtain⟨f0,Fs,B,C,a,hrow,b,c⟩:=h
 refine zgx (O1:=[f0]) (Or:=minus F f0::f::O) (fun A w d=>z7j d a) (z3h (j:=0) n C rfl p q (by omega) s (zm8 (z0a e))) ?_
 rintro v' R' O1' D ⟨rfl,f',rfl,E⟩ A w' d
 have k:Holds R' (f'::f::minus F f0::(O++A)) w':=u6 d ((List.Perm.swap f _ _).cons _)
 obtain⟨m,G⟩:=List.pairwise_cons.1 k.sep
 obtain⟨H,K⟩:=List.pairwise_cons.1 G
 have I:Apart f' f:=fun i=>m f (by simp) i
 have a2:Apart f' (minus F f0):=fun i=>m _ (by simp) i
 have a3:Apart f (minus F f0):=fun i=>H _ (by simp) i
 refine⟨lu f' (lu f (minus F f0))::O,?_,_,rfl,rfl,_,rfl,zqr o B E e (zj5 hrow b) I a2 a3 c z⟩
 have J:Holds R' (f::minus F f0::f'::(O++A)) w':=u6 k ((List.Perm.swap f f' _).trans ((List.Perm.swap _ f' _).cons f))
 exact z6t (u6 (z6t J) (List.Perm.swap f' _ _))
theorem zlb{tt e:TypeId}{bytes:Nat}{x y:Operand}{n:Nat}{k k':IntKind}(h:P.underlying tt=some (.slice e))(i:ZeroOk P e tHdr (.slice none 0 0) bytes)(j:ev l x= .int k n)(m:ev l y= .int k' n)(o:bytes*n≤281474976710656)(p:n≤9223372036854775807):
 Eff P ρ ⟨dst,.makeSlice tt x y,ty,pos,after,g⟩ l R O (fun v R' O'=> ∃ Oc,O'=Oc++O∧R'=R∧ ∃ F,Oc=[F]∧N2 t T R F v (List.replicate n (.slice none 0 0)) (List.replicate n ([]:List α))∧capOf v=n):=
 (zgm h i j m (Nat.le_refl _) o p).mono fun v R' O' _ ⟨a,b,f,c,d⟩=>by subst a;exact⟨[f],c,rfl,f,rfl,zpg d,b⟩
theorem zli{f:FuncId}{c:Operand}{args:List Operand}{at':Array TypeId}{cs vs:List Value}{Oc:List Frag}{post:Value→RH→List Frag→Prop}(a:Enters P f)(b:ev l c= .func (.func f) #[] cs.toArray)(d:args.map (ev l)=vs)(h:CallG P f (vs++cs).toArray R Oc post):
 Eff P ρ ⟨dst,.call ⟨.value c,args.toArray,at'⟩,ty,pos,after,g⟩ l R (Oc++O) (fun v R' O'=> ∃ Oc',O'=Oc'++O∧post v R' Oc'):=
 zel (fs:= #[]) (cs:=cs.toArray) a b (z3l d) (by simp) (List.Perm.refl _) h
end ops
section read
variable {α : Type} {t : Bool} {T : Ty α} {R R1 : RH} {f F : Frag} {v : Value} {Vs : List Value}
theorem zlh{X:List α}(h:ORep T R f v X)(a:RH.le R R1)(d: ∀ k o,f k=some o→R1.blk k=some o):VRep (yo T) R1 v X:=by
 rcases h with⟨rfl,rfl,rfl⟩|⟨b,pre,cs,cap,bt,rfl,rfl,g,j,l,c⟩
 ·exact z7m
 ·refine xh.2 ⟨_,cap,rfl,g,fun e=>by(cases e),.inr ⟨b,pre.length,(pre++cs).toArray,bt,(0,0),rfl,d _ _ (single_same _ _),fun i x m=>?_⟩⟩
  rw [z00]
  exact T.mono a (by simpa [cellsAt] using c i x m)
theorem zi0{X:List α}(h:ORep T R f v X)(a:RH.le R R1)(b: ∀ k o,f k=some o→R1.blk k=some o)(c:t=true→capOf v=X.length):VRep (tSl t T) R1 v X:=by
 have:=zlh h a b
 cases t
 ·exact z6o this
 ·exact z1r this (c rfl)
theorem zow{X:List (List α)}(h:N2 t T R F v Vs X)(c:RH.le R R1)(m: ∀ k o,F k=some o→R1.blk k=some o):VRep (yo (tSl t T)) R1 v X:=by
 obtain⟨f0,Fs,n,s,d,⟨u,a,w⟩,y,z⟩:=h
 have hrow: ∀ j,j<X.length→VRep (tSl t T) R1 (Vs.getD j default) (X.getD j default):=fun j f=>
  zi0 (a j f (fun h=>h)).1 c (fun k o A=>m k o ((a j f (fun h=>h)).2 k o A)) (fun e=>z e j f (fun h=>h))
 rcases s with⟨rfl,rfl,rfl⟩|⟨b,pre,cs,cap,bt,rfl,rfl,p,B,C,g⟩
 ·obtain rfl:X=[]:=List.eq_nil_of_length_eq_zero (by simpa using n.symm)
  exact z7m
 ·rw [n] at p⊢
  refine xh.2 ⟨_,cap,rfl,p,fun e=>by(cases e),.inr ⟨b,pre.length,(pre++cs).toArray,bt,(0,0),rfl,m _ _ (d _ _ (single_same _ _)),fun i x q=>?_⟩⟩
  rw [z00]
  have hi:i<X.length:=(List.getElem?_eq_some_iff.1 q).1
  have D:Vs[i]? =some (Vs.getD i default):=getD_some (by omega)
  obtain⟨hcc',E⟩:=g i _ D
  have l:X.getD i default=x:=by simp [List.getD_eq_getElem?_getD,q]
  have r:=ko rfl (hrow i hi)
  rw [l] at r
  show (tSl t T).rep R1 ((cs.drop (i*1)).take 1) x
  rw [show (cs.drop (i*1)).take 1=[Vs.getD i default] from hcc']
  exact r
theorem zpl{O:List Frag}{w:World}(b:Holds R (F::O) w): ∀ k o,F k=some o→(R.add F).blk k=some o:=fun k o a=>by
 have:=(b.own F (List.mem_cons_self ..) k o a).2
 simp [RH.add,this,a]
end read
section frz
variable {P : Program} {ρ : Option Nat} {n : Nat} {Q : Po} {l : Nat → Value} {D : List Nat} {R : RH} {O : List Frag} {ops : Array Oper} {os : List Oper} {c : Code} {α : Type} {t : Bool} {T : Ty α} {i : Nat} {F : Frag} {v : Value} {X : List (List α)}
theorem zi1(hi:O[i]? =some F)(h:NRep t T R F v X)(k: ∀ R',RH.le R R'→VRep (yo (tSl t T)) R' v X→wg P ρ n c Q l D R' (O.eraseIdx i)):wg P ρ n c Q l D R O:=fun a w d b=>
 let⟨Vs,h⟩:=h
 k (R.add F) (RH.le_add _ _) (zow h (RH.le_add _ _) (zpl (z7h hi b))) a w d (z8d hi _ w b)
end frz
section appT
variable {P : Program} {ρ : Option Nat} {l : Nat → Value} {R : RH} {O : List Frag} {dst : Option Tmp} {ty : TypeId} {pos : String} {after : Array Go.Edge} {g : Option (Nat × Bool)} {α : Type} {T : Ty α}
end appT
section sliceO
variable {P : Program} {ρ : Option Nat} {l : Nat → Value} {R : RH} {O : List Frag} {α : Type} {T : Ty α}
theorem zi5{t e:TypeId}{lo hi mx:Nat}{x:Operand}{xlo xhi xmx:Option Operand}{f:Frag}{v:Value}{X:List α}(z:SlOk P t e T)(a:ev l x=v)(B:ORep T R f v X)
 (n:xlo.map (ev l)=none∧lo=0∨ ∃ k,xlo.map (ev l)=some (.int k lo)) (o:xhi.map (ev l)=none∧hi=X.length∧xmx=none∨ ∃ k,xhi.map (ev l)=some (.int k hi))
 (q:xmx.map (ev l)=none∧mx=capOf v∨ ∃ k,xmx.map (ev l)=some (.int k mx)) (C:lo≤hi) (G:hi≤X.length) (D:hi≤mx) (m:mx≤capOf v):
 ∃ u,ORep T R f u ((X.drop lo).take (hi-lo))∧capOf u=mx-lo∧ ∀ (dst:Option Tmp) (ty:TypeId) (pos:String) (after:Array Go.Edge) (g:Option (Nat×Bool)),Val P ρ ⟨dst,.slice t x xlo xhi xmx,ty,pos,after,g⟩ l R O u:=by
 obtain⟨p,d,E⟩:=z0t B
 refine⟨.slice (if mx=lo then p else p.map (·.add (lo*T.size))) (hi-lo) (mx-lo),?_,rfl,fun dst ty pos after g A w H=>?_⟩
 ·have hlen:((X.drop lo).take (hi-lo)).length=hi-lo:=by simp;omega
  rcases B with⟨rfl,rfl,rfl⟩|⟨b,pre,cs,cap,bt,rfl,rfl,F,r,j,s⟩
  ·have:mx=0:=by simpa [capOf] using m
   have:lo=0:=by omega
   have:hi=0:=by omega
   subst_vars
   simp only [Value.slice.injEq] at d
   obtain⟨rfl,_⟩:=d
   exact .inl ⟨rfl,by simp,rfl⟩
  ·simp only [Value.slice.injEq,capOf] at d m E
   obtain⟨rfl,_⟩:=d
   right
   by_cases hm:mx=lo
   ·refine⟨b,pre,cs,0,bt,?_,rfl,?_,by simp,j,fun i x a=>?_⟩
    ·rw [if_pos hm,hlen];simp only [Value.slice.injEq,true_and];omega
    ·rw [hlen];omega
    ·rw [show hi-lo=0 by omega,List.take_zero] at a;simp at a
   ·have y:lo*T.size≤cs.length:=Nat.le_trans (Nat.mul_le_mul_right _ (by omega:lo≤cap)) r
    refine⟨b,pre++cs.take (lo*T.size),cs.drop (lo*T.size),mx-lo,bt,?_,?_,by rw [hlen];omega,?_,?_,fun i x a=>?_⟩
    ·rw [if_neg hm,hlen];simp [addr_add,Nat.min_eq_left y]
    ·rw [List.append_assoc,List.take_append_drop]
    ·rw [List.length_drop,Nat.sub_mul]
     have:=Nat.mul_le_mul_right T.size m
     omega
    ·rw [List.append_assoc,List.take_append_drop];exact j
    ·rw [List.getElem?_take] at a
     split at a
     ·rw [List.getElem?_drop] at a
      have:=s (lo+i) x a
      rwa [List.drop_drop,←Nat.add_mul]
     ·cases a
 ·rw [qi (by intro c h;cases h)]
  exact z7w z.u z.e.size (a.trans d) n o q C D m (fun _=>by omega)
end sliceO
section sliceQ
variable {P : Program} {ρ : Option Nat} {n : Nat} {Q : Po} {l : Nat → Value} {D : List Nat} {R : RH} {O : List Frag} {ops : Array Oper} {rest : List Oper} {ty : TypeId} {pos : String} {after : Array Go.Edge} {d : Nat} {α : Type} {T : Ty α}
theorem zdz{t e:TypeId}{lo hi mx:Nat}{x:Operand}{xlo xhi xmx:Option Operand}{f:Frag}{v:Value}{X:List α}(g:Nat.blt d n=true)(h:SlOk P t e T)(i:ev l x=v)(j:ORep T R f v X)
 (a:xlo.map (ev l)=none∧lo=0∨ ∃ k,xlo.map (ev l)=some (.int k lo)) (b:xhi.map (ev l)=none∧hi=X.length∧xmx=none∨ ∃ k,xhi.map (ev l)=some (.int k hi))
 (c:xmx.map (ev l)=none∧mx=capOf v∨ ∃ k,xmx.map (ev l)=some (.int k mx)) (m:lo≤hi) (o:hi≤X.length) (p:hi≤mx) (q:mx≤capOf v)
 (r: ∀ u,ORep T R f u ((X.drop lo).take (hi-lo))→capOf u=mx-lo→wo P ρ n ops Q rest (upd l d u) D R O):wo P ρ n ops Q (⟨some d,.slice t x xlo xhi xmx,ty,pos,after,none⟩::rest) l D R O:=by
 obtain⟨u,s,w,y⟩:=zi5 (P:=P) (ρ:=ρ) (O:=O) h i j a b c m o p q
 exact ji g (y _ _ _ _ _) (r u s w)
end sliceQ
theorem zdc{place:Nat→Option (Nat×Nat)}: ∀ (ps ps':List (Nat×Value)) (cells:Array Value),ps.map (fun p=>(p.1,p.2.cells))=ps'.map (fun p=>(p.1,p.2.cells))→Instr.fill place cells ps=Instr.fill place cells ps'
 | [],[],_,_=>rfl
 | [],_::_,_,h=>by simp at h
 |_::_,[],_,h=>by simp at h
 |(i,v)::r,(j,u)::r',cells,h=>by
  simp only [List.map_cons,List.cons.injEq,Prod.mk.injEq] at h
  obtain⟨⟨rfl,a⟩,b⟩:=h
  simp only [Instr.fill,a]
  cases place i with
  |none=>rfl
  |some q=>simp only [];rw [zdc r r' _ b]
theorem zc8{P:Program}{ρ:Option Nat}{l:Nat→Value}{R:RH}{O:List Frag}{dst:Option Tmp}{ty:TypeId}{pos:String}{after:Array Go.Edge}{g:Option (Nat×Bool)}{t:TypeId}{parts:List (Nat×Operand)}{ps:List (Nat×Value)}(ps':List (Nat×Value)){v:Value}(a:(parts.map fun x=>(x.1,ev l x.2))=ps)
 (b:ps.map (fun p=>(p.1,p.2.cells))=ps'.map (fun p=>(p.1,p.2.cells))) (h: ∀ w,(Instr.build t ps'.toArray).run P w= .ok v w):Val P ρ ⟨dst,.build t parts.toArray,ty,pos,after,g⟩ l R O v:=
 ma a fun w=>by
  have:(Instr.build t ps.toArray)=(Instr.build t ps'.toArray):=by
   simp only [Instr.build,zdc (place:=_) ps ps' _ b]
  rw [this];exact h w
section step
variable {P : Program} {ρ : Option Nat} {n : Nat} {Q : Po} {l : Nat → Value} {D : List Nat} {R : RH} {O : List Frag} {ops : Array Oper} {rest : List Oper} {ty : TypeId} {pos : String} {after : Array Go.Edge} {d : Nat}
theorem um{op:Op}{φ:Value→RH→Prop}(b:Nat.blt d n=true)(h:Eff P ρ ⟨some d,op,ty,pos,after,none⟩ l R O (fun v R' O'=>O'=O∧φ v R'))(c: ∀ v R',RH.le R R'→φ v R'→wo P ρ n ops Q rest (upd l d v) D R' O):
 wo P ρ n ops Q (⟨some d,op,ty,pos,after,none⟩::rest) l D R O:=z0n b h fun v R' O' a ⟨e,f⟩=>by subst e;exact c v R' a f
theorem zps{op:Op}{Oc Or:List Frag}{φ:Value→RH→List Frag→Prop}(c:Nat.blt d n=true)(a:O.Perm (Oc++Or))(h:Eff P ρ ⟨some d,op,ty,pos,after,none⟩ l R (Oc++Or) (fun v R' O'=> ∃ Oc',O'=Oc'++Or∧φ v R' Oc'))
 (f: ∀ v R' Oc',RH.le R R'→φ v R' Oc'→wo P ρ n ops Q rest (upd l d v) D R' (Oc'++Or)):wo P ρ n ops Q (⟨some d,op,ty,pos,after,none⟩::rest) l D R O:=
 z0n c (nu a h) fun v R' O' b ⟨Oc',e,a⟩=>by subst e;exact f v R' Oc' b a
theorem zhy{op:Op}{Oc Or:List Frag}{φ:Value→RH→List Frag→Prop}(a:O.Perm (Oc++Or))(h:Eff P ρ ⟨none,op,ty,pos,after,none⟩ l R (Oc++Or) (fun v R' O'=> ∃ Oc',O'=Oc'++Or∧φ v R' Oc'))
 (c: ∀ v R' Oc',RH.le R R'→φ v R' Oc'→wo P ρ n ops Q rest l D R' (Oc'++Or)):wo P ρ n ops Q (⟨none,op,ty,pos,after,none⟩::rest) l D R O:=
 zbq (nu a h) fun v R' O' b ⟨Oc',e,a⟩=>by subst e;exact c v R' Oc' b a
end step
end GV
end Go.Proofs.YtkkcidhcfkmbjaaGreatDoor

namespace Go.Proofs.YtkkcidhcfkmbjaaGreatDoor
namespace GV
def zgj{α:Type}(T:Ty α)(o:Nat)(v:Value)(X:List α)(u:Value)(i:Nat):Prop:= ∃ b off,v= .slice (some ⟨b,off,none⟩) X.length (capOf v)∧u= .pointer (some ⟨b,off+i*T.size+o,none⟩)
section p
variable {P : Program} {ρ : Option Nat} {n : Nat} {ops : Array Oper} {Q : Po} {rest : List Oper} {l : Nat → Value} {D : List Nat} {R : RH} {O : List Frag} {ty : TypeId} {pos : String} {after : Array Go.Edge} {d : Nat} {dst : Option Tmp} {g : Option (Nat × Bool)}
variable {α β : Type} {T : Ty α} {B : Ty β} {X : List α} {v u w : Value} {x y : Operand} {f F : Frag} {i j o fld : Nat} {t s : TypeId} {pr : α → β} {se : α → β → α}
theorem ziw(a:FieldOk P s fld o)(c:ev l x=u)(d:z2l T v X u i): ∃ u',zgj T o v X u' i∧ ∀ (dst:Option Tmp) (ty:TypeId) (pos:String) (after:Array Go.Edge) (g:Option (Nat×Bool)),Val P ρ ⟨dst,.fieldAddr s x fld,ty,pos,after,g⟩ l R O u':=by
 obtain⟨b,off,e,rfl⟩:=d
 exact⟨_,⟨b,off,e,rfl⟩,fun dst ty pos after g=>zo a c⟩
theorem zkp(d:FieldOk P s fld o)(e:ev l x=u)(f:z2l T v X u i):Eff P ρ ⟨dst,.fieldAddr s x fld,ty,pos,after,g⟩ l R O (fun v' R' O'=>O'=O∧zgj T o v X v' i):=by
 obtain⟨u',h,j⟩:=ziw (ρ:=ρ) (P:=P) (R:=R) (O:=O) d e f
 exact(j dst ty pos after g).eff.mono fun v' R' O' _ ⟨a,b,c⟩=>by subst a;exact⟨c,h⟩
theorem zij(n:TyOk P t B)(hpart:Part T o B pr)(p:ORep T R f v X)(q:Has F f)(e:O[j]? =some F)(r:ev l x=u)(s:zgj T o v X u i){z:α}(k:X[i]? =some z):
 ∃ u,VRep B R u (pr z)∧ ∀ (dst:Option Tmp) (ty:TypeId) (pos:String) (after:Array Go.Edge) (g:Option (Nat×Bool)),Val P ρ ⟨dst,.load t x,ty,pos,after,g⟩ l R O u:=by
 obtain⟨b,off,m,rfl⟩:=s
 rcases p with⟨rfl,rfl,_⟩|⟨b',pre,cs,cap,bt,rfl,rfl,G,y,C,d⟩
 ·simp at k
 ·simp only [capOf,Value.slice.injEq,Option.some.injEq,Addr.mk.injEq,and_true] at m
  obtain⟨rfl,rfl⟩:=m
  have D:T.rep R (cellsAt (pre++cs).toArray (pre.length+i*T.size) T.size) z:=by rw [z00];simpa [cellsAt] using d i z k
  have a:=hpart.2 R _ _ D
  rw [z9l hpart.1] at a
  refine⟨B.mk' (cellsAt (pre++cs).toArray (pre.length+i*T.size+o) B.size),⟨_,a,rfl⟩,fun dst ty pos after g A w E=>?_⟩
  rw [qi (by intro c h;cases h)]
  have hblk:w.heap[b']? =some (.cells (pre++cs).toArray bt (0,0)):=oq E (i:=j) (by rw [List.getElem?_append_left (by exact(List.getElem?_eq_some_iff.1 e).1)];exact e) (q _ _ (single_same _ _))
  simp only [execOp,r,Instr.loadAt,Instr.sureAddr,Sem.run_bind,Sem.run_pure,Result.andThen_ok,z4u n hblk (R:=R) (x:=pr z) a]
end p
section q
variable {P : Program} {ρ : Option Nat} {l : Nat → Value} {R : RH} {O : List Frag} {ty : TypeId} {pos : String} {after : Array Go.Edge} {dst : Option Tmp} {g : Option (Nat × Bool)}
variable {α β : Type} [Inhabited α] {b : Bool} {T : Ty α} {B : Ty β} {Vs : List Value} {X : List (List α)} {v u w : Value} {x y : Operand} {F : Frag} {i j o r : Nat} {t : TypeId} {pr : α → β} {se : α → β → α}
theorem zjb(d:TyOk P t B)(hpart:Part T o B pr)(h:N2 b T R F v Vs X)(e:r<X.length)(f:O[j]? =some F)(k:ev l x=u)(m:zgj T o (Vs.getD r default) (X.getD r default) u i)(n:i<(X.getD r default).length):
 Eff P ρ ⟨dst,.load t x,ty,pos,after,g⟩ l R O (fun v' R' O'=>O'=O∧phR B (pr ((X.getD r default).getD i default)) v' R'):=by
 obtain⟨f0,p,q⟩:=h.row e
 obtain⟨w,s,y⟩:=zij (ρ:=ρ) (P:=P) d hpart p q f k m (getD_some n)
 exact(y dst ty pos after g).eff.mono fun v' R' O' _ ⟨a,b,c⟩=>by subst a;subst b;exact⟨c,s⟩
end q
end GV
end Go.Proofs.YtkkcidhcfkmbjaaGreatDoor

namespace Go.Proofs.YtkkcidhcfkmbjaaGreatDoor
namespace GV
/-! ### A map's entries as_ a list of pairs,in the order in which the keys came-/
def z6j{κ β:Type}[DecidableEq κ](z:β):List (κ×β)→κ→β
 | [],_=>z
 |p::l,k=>if k=p.1 then p.2 else z6j z l k
def z7a{κ β:Type}[DecidableEq κ]:List (κ×β)→κ→Bool
 | [],_=>false
 |p::l,k=>if k=p.1 then true else z7a l k
def z7r{κ β:Type}[DecidableEq κ]:List (κ×β)→κ→β→List (κ×β)
 | [],k,v=>[(k,v)]
 |p::l,k,v=>if k=p.1 then(k,v)::l else p::z7r l k v
def z4r{κ β:Type}[DecidableEq κ]:List (κ×β)→κ→Nat→Option (Nat×β)
 | [],_,_=>none
 |p::l,k,i=>if k=p.1 then some (i,p.2) else z4r l k (i+1)
def zb2(e:MapEntry):Value×Value:=(e.key,e.val)
def zco{κ β:Type}(ke:κ→Value)(ve:β→Value)(es:Array MapEntry)(M:List (κ×β)):Prop:=es.toList.map zb2=M.map fun p=>(ke p.1,ve p.2)
structure KOk (P:Program) (kt:TypeId) {κ:Type} [DecidableEq κ] (ke:κ→Value):Prop where
 check: ∀ (b:Bool) (k:κ) (w:World),(Instr.checkKey b 10000 kt (ke k)).run P w= .ok () w
 find: ∀ {β:Type} (k:κ) (es:List MapEntry) (M:List (κ×β)) (ve:β→Value) (w:World),es.map zb2=M.map (fun p=>(ke p.1,ve p.2))→
  (Instr.findKey kt (ke k) es).run P w= .ok ((z4r M k 0).map fun p=>(p.1,ve p.2)) w
 same: ∀ k:κ,Instr.sameBits 10000 (ke k) (ke k)=true
section m
variable {κ β : Type} [DecidableEq κ] {ke : κ → Value} {ve : β → Value} {M : List (κ × β)} {k : κ} {z : β}
theorem zlf(i:Nat):((z4r M k i).map (·.2)).getD z=z6j z M k:=by
 induction M generalizing i with
 |nil=>rfl
 |cons p l ih=>
  unfold z4r z6j
  by_cases h:k=p.1
  ·simp [h]
  ·simp only [if_neg h];exact ih (i+1)
theorem zlj(i:Nat):(z4r M k i).isSome=z7a M k:=by
 induction M generalizing i with
 |nil=>rfl
 |cons p l ih=>
  unfold z4r z7a
  by_cases h:k=p.1
  ·simp [h]
  ·simp only [if_neg h];exact ih (i+1)
theorem zhz{i:Nat}{v:β}(h:z4r M k i=none):z7r M k v=M++[(k,v)]:=by
 induction M generalizing i with
 |nil=>rfl
 |cons p l ih=>
  unfold z4r at h
  by_cases hk:k=p.1
  ·simp [hk] at h
  ·rw [if_neg hk] at h
   simp only [z7r,if_neg hk,ih h,List.cons_append]
theorem zi4{i j:Nat}{u v:β}(h:z4r M k i=some (j,u)):i≤j∧M[j-i]? =some (k,u)∧z7r M k v=M.set (j-i) (k,v):=by
 induction M generalizing i with
 |nil=>cases h
 |cons p l ih=>
  unfold z4r at h
  by_cases hk:k=p.1
  ·rw [if_pos hk] at h
   simp only [Option.some.injEq,Prod.mk.injEq] at h
   obtain⟨rfl,rfl⟩:=h
   refine⟨Nat.le_refl _,?_,?_⟩
   ·simp [hk]
   ·simp [z7r,hk]
  ·rw [if_neg hk] at h
   obtain⟨c,a,b⟩:=ih h
   have e:j-i=(j-(i+1))+1:=by omega
   refine⟨by omega,?_,?_⟩
   ·rw [e,List.getElem?_cons_succ];exact a
   ·rw [e,List.set_cons_succ,←b];simp [z7r,hk]
end m
def MRep{κ β:Type}(ke:κ→Value)(ve:β→Value)(R:RH)(f:Frag)(v:Value)(M:List (κ×β)):Prop:=
 ∃ b es c,v= .map (some b)∧f=single b (.map es c)∧zco ke ve es M
theorem MRep.mono{κ β:Type}{ke:κ→Value}{ve:β→Value}{R R':RH}{f:Frag}{v:Value}{M:List (κ×β)}(h:MRep ke ve R f v M)(a:RH.le R R'):MRep ke ve R' f v M:=h
section e
variable {P : Program} {ρ : Option Nat} {n : Nat} {ops : Array Oper} {Q : Po} {rest : List Oper} {l : Nat → Value} {D : List Nat} {R : RH} {O : List Frag} {ty : TypeId} {pos : String} {after : Array Go.Edge} {d : Nat} {dst : Option Tmp} {g : Option (Nat × Bool)}
variable {κ β : Type} {ke : κ → Value} {ve : β → Value} {M : List (κ × β)} {k : κ} {z : β} {t kt et : TypeId} {x y s : Operand} {v : Value} {f : Frag}
theorem zho:Eff P ρ ⟨dst,.makeMap t none,ty,pos,after,g⟩ l R O (fun v R' O'=>R'=R∧ ∃ f,O'=f::O∧MRep ke ve R f v ([]:List (κ×β))):=by
 intro A w a;rw [qi (by intro c h;cases h)]
 simp only [execOp,Option.map,Instr.makeMap,Sem.run_bind,run_newObj,Sem.run_pure,Result.andThen_ok]
 exact⟨R,_,RH.le.refl _,z16 a _,rfl,_,rfl,_,#[],0,rfl,rfl,rfl⟩
theorem ziu(a:Nat.blt d n=true)(b: ∀ v f,MRep ke ve R f v ([]:List (κ×β))→wo P ρ n ops Q rest (upd l d v) D R (f::O)):wo P ρ n ops Q (⟨some d,.makeMap t none,ty,pos,after,none⟩::rest) l D R O:=
 z0n a (zho (ke:=ke) (ve:=ve)) fun v R' O' _ ⟨c,f,e,h⟩=>by subst c;subst e;exact b v f h
variable [DecidableEq κ]
theorem zds{b:Nat}{es:Array MapEntry}{c:Nat}{w:World}{u:β}(m:P.underlying t=some (.map kt et))(f:KOk P kt ke)(g:w.heap[b]? =some (.map es c))(a:zco ke ve es M):
 ∃ es' c',(Instr.mapUpdate t (.map (some b)) (ke k) (ve u)).run P w= .ok () {w with heap:=w.heap.setIfInBounds b (.map es' c')}∧zco ke ve es' (z7r M k u):=by
 have n:=f.find k es.toList M ve w a
 unfold Instr.mapUpdate
 simp only [Sem.run_bind,run_underlying m,Result.andThen_ok,MapKept.run_getObj_map g,f.check,n]
 cases hm:z4r M k 0 with
 |none=>
  simp only [Option.map_none,MapKept.run_setObj_map _ g]
  refine⟨_,_,rfl,?_⟩
  unfold zco at a⊢
  rw [Array.toList_push,List.map_append,a,zhz hm,List.map_append]
  rfl
 |some p=>
  obtain⟨j,h⟩:=p
  obtain⟨_,l,o⟩:=zi4 (v:=u) hm
  simp only [Option.map_some]
  have hkey:((es[j]?).map (·.key)).getD (ke k)=ke k:=by
   have d:(es.toList.map zb2)[j]? =some (ke k,ve h):=by rw [a,List.getElem?_map,show M[j]? =some (k,h) from l];rfl
   rw [List.getElem?_map,Array.getElem?_toList] at d
   cases he:es[j]? with
   |none=>rfl
   |some e=>rw [he] at d;simp only [Option.map_some,zb2,Option.some.injEq,Prod.mk.injEq] at d;simp [d.1]
  rw [hkey]
  simp only [Instr.keyThatStays,f.same,if_true,Sem.run_pure,Sem.run_bind,Result.andThen_ok,MapKept.run_setObj_map _ g]
  refine⟨_,_,rfl,?_⟩
  unfold zco at a⊢
  rw [o,Array.toList_modify]
  apply List.ext_getElem?
  intro i
  have hi:(es.toList.map zb2)[i]? =(M.map fun p=>(ke p.1,ve p.2))[i]? :=by rw [a]
  rw [List.getElem?_map,List.getElem?_modify,List.getElem?_map,List.getElem?_set]
  rw [List.getElem?_map,List.getElem?_map] at hi
  by_cases hij:j=i
  ·subst hij
   have q:j<M.length:=(List.getElem?_eq_some_iff.1 l).1
   simp only [Nat.sub_zero,if_true,q]
   rw [show M[j]? =some (k,h) from l] at hi
   cases he:es.toList[j]? with
   |none=>rw [he] at hi;simp at hi
   |some e=>simp [zb2]
  ·simp only [Nat.sub_zero,if_neg hij]
   simpa using hi
theorem zdf{u:β}{w0 q:Value}{i:Nat}(p:P.underlying t=some (.map kt et))(r:KOk P kt ke)(m:O[i]? =some f)(h:MRep ke ve R f v M)(z:ev l x=v)(B:ev l y=ke k)(C:ev l s=ve u):
 Eff P ρ ⟨dst,.mapUpdate t x y s,ty,pos,after,g⟩ l R O (fun v' R' O'=>v'=undef∧R'=R∧ ∃ f',O'=O.set i f'∧MRep ke ve R f' v (z7r M k u)):=by
 intro A w n;rw [qi (by intro c h;cases h)]
 obtain⟨b,es,c,rfl,rfl,D⟩:=h
 have a:i<O.length:=(List.getElem?_eq_some_iff.1 m).1
 have hO':(O++A)[i]? =some (single b (.map es c)):=by rw [List.getElem?_append_left a];exact m
 have o:w.heap[b]? =some (.map es c):=oq n hO' (single_same _ _)
 obtain⟨es',c',E,F⟩:=zds (k:=k) (u:=u) p r o D
 have d:(execOp (ev l) (⟨dst,.mapUpdate t x y s,ty,pos,after,g⟩:Oper)).run P w= .ok .skip {w with heap:=w.heap.setIfInBounds b (.map es' c')}:=by
  simp only [execOp,z,B,C,Sem.run_bind,E,Result.andThen_ok]
  rfl
 rw [d]
 have e:b<w.heap.size:=(Array.getElem?_eq_some_iff.1 o).1
 refine⟨R,_,RH.le.refl _,?_,rfl,rfl,_,rfl,_,es',c',rfl,rfl,F⟩
 have:=z2t (w':= {w with heap:=w.heap.setIfInBounds b (.map es' c')}) n hO' (o':= .map es' c') (by simp [e]) (fun j G=>by simp [Ne.symm G]) rfl rfl trivial
 rwa [List.set_append_left _ _ a] at this
theorem zf6{u:β}{i:Nat}(a:P.underlying t=some (.map kt et))(b:KOk P kt ke)(c:O[i]? =some f)(h:MRep ke ve R f v M)(d:ev l x=v)(e:ev l y=ke k)(g:ev l s=ve u)
 (j: ∀ f',MRep ke ve R f' v (z7r M k u)→wo P ρ n ops Q rest l D R (O.set i f')):wo P ρ n ops Q (⟨none,.mapUpdate t x y s,ty,pos,after,none⟩::rest) l D R O:=
 zbq (zdf (w0:=undef) (q:=undef) a b c h d e g) fun v' R' O' _ ⟨_,m,f',hO',h⟩=>by subst m;subst hO';exact j f' h
def MAt(ke:κ→Value)(ve:β→Value)(R:RH)(O:List Frag)(v:Value)(M:List (κ×β)):Prop:=
 ∀ A w,Holds R (O++A) w→ ∃ b es c,v= .map (some b)∧w.heap[b]? =some (.map es c)∧zco ke ve es M
omit [DecidableEq κ] in
theorem zpi{i:Nat}(d:O[i]? =some f)(h:MRep ke ve R f v M):MAt ke ve R O v M:=by
 intro A w e
 obtain⟨b,es,c,rfl,rfl,g⟩:=h
 have a:i<O.length:=(List.getElem?_eq_some_iff.1 d).1
 exact⟨b,es,c,rfl,oq e (by rw [List.getElem?_append_left a];exact d) (single_same _ _),g⟩
theorem zj3{b:Nat}{es:Array MapEntry}{c:Nat}{w:World}(d:P.underlying t=some (.map kt et))(a:KOk P kt ke)(e: ∀ w,(zeroValue et).run P w= .ok (ve z) w)(f:w.heap[b]? =some (.map es c))(g:zco ke ve es M)(ok:Bool):
 (Instr.lookup t (.map (some b)) (ke k) ok).run P w= .ok (if ok then .tuple #[ve (z6j z M k),.bool (z7a M k)] else ve (z6j z M k)) w:=by
 have h:=a.find k es.toList M ve w g
 unfold Instr.lookup
 simp only [Sem.run_bind,run_underlying d,Result.andThen_ok,MapKept.run_getObj_map f,a.check,h,Sem.run_pure]
 rw [←zlf 0,←zlj 0]
 cases hm:z4r M k 0 with
 |none=>simp [e]
 |some p=>simp
theorem zh8(a:P.underlying t=some (.map kt et))(d:KOk P kt ke)(e: ∀ w,(zeroValue et).run P w= .ok (ve z) w)(h:MAt ke ve R O v M)(f:ev l x=v)(i:ev l y=ke k):Val P ρ ⟨dst,.lookup t x y true,ty,pos,after,g⟩ l R O (.tuple #[ve (z6j z M k),.bool (z7a M k)]):=by
 intro A w j;rw [qi (by intro c h;cases h)]
 obtain⟨b,es,c,rfl,m,n⟩:=h A w j
 simp only [execOp,f,i,Sem.run_bind,zj3 (k:=k) a d e m n,Result.andThen_ok]
 rfl
end e
end GV
end Go.Proofs.YtkkcidhcfkmbjaaGreatDoor
