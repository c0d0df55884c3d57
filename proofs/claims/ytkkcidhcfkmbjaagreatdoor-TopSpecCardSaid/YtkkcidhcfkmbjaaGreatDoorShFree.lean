
import Derived.Test.YtkkcidhcfkmbjaaGreatDoorGvNest
set_option linter.unusedVariables false
set_option linter.unusedSimpArgs false
set_option linter.unusedSectionVars false
namespace Go.Proofs.YtkkcidhcfkmbjaaGreatDoor
namespace GV
/-! ### The plain programs' own words-/
def gd{α:Type}(c:Prop)[Decidable c](k:Option α):Option α:=if c then k else none
def bd{α β:Type}(x:Option α)(k:α→Option β):Option β:=x.bind k
inductive Ex (α β:Type) where
 |go (a:α):Ex α β
 |rt (b:β):Ex α β
def Ex.on{α β γ:Type}(x:Ex α β)(f:α→Option γ)(g:β→Option γ):Option γ:=
 match x with
 | .go a=>f a
 | .rt b=>g b
abbrev in64 (x:Int):Prop:= -9223372036854775808≤x∧x≤9223372036854775807
abbrev okI {α:Type} (X:List α) (i:Int):Prop:=0≤i∧i<(X.length:Int)
def ix{α:Type}[Inhabited α](X:List α)(i:Int):α:=X.getD i.toNat default
def up{α:Type}(X:List α)(i:Int)(y:α):List α:=X.set i.toNat y
abbrev fits {α β:Type} (b:Nat) (X:List α) (Y:List β):Prop:=(X.length+Y.length)*b≤140737488355328∧X.length+Y.length≤9223372036854775807
def cut{α:Type}(X:List α)(lo hi:Int):List α:=(X.drop lo.toNat).take (hi.toNat-lo.toNat)
abbrev okS {α:Type} (X:List α) (lo hi:Int):Prop:=0≤lo∧lo≤hi∧hi≤(X.length:Int)
def gop{α:Type}(b:Bool)(x:Option α):Option (Option α):=bif b then x.map some else some none
def mk{α:Type}(n:Int)(z:α):List α:=List.replicate n.toNat z
abbrev okM (b:Nat) (n:Int):Prop:=0≤n∧(b:Int)*n≤281474976710656∧n≤9223372036854775807
theorem zf{α:Type}{c:Prop}[Decidable c]{k:Option α}{r:α}(h:gd c k=some r):c∧k=some r:=by
 unfold gd at h
 by_cases hc:c
 ·rw [if_pos hc] at h;exact⟨hc,h⟩
 ·rw [if_neg hc] at h;cases h
theorem zu{α:Type}{c:Prop}[Decidable c]{k:Option α}(h:c):gd c k=k:=if_pos h
theorem zl{α β:Type}{x:Option α}{k:α→Option β}{r:β}(h:bd x k=some r): ∃ y,x=some y∧k y=some r:=by
 unfold bd at h
 cases x with
 |none=>cases h
 |some y=>exact⟨y,rfl,h⟩
theorem zrx{α:Type}{b:Bool}{x y:Option α}{r:α}(e:b=true)(h:cond b x y=some r):x=some r:=by subst e;exact h
theorem zsy{α:Type}{b:Bool}{x y:Option α}{r:α}(e:b=false)(h:cond b x y=some r):y=some r:=by subst e;exact h
theorem z6v{α β γ:Type}{a:α}{f:α→Option γ}{g:β→Option γ}{r:γ}(h:Ex.on (.go a) f g=some r):f a=some r:=h
theorem z5q{α β γ:Type}{o:Ex α β}{b:β}{f:α→Option γ}{g:β→Option γ}{r:γ}(c:some (Ex.rt b)=some o)(h:Ex.on o f g=some r):g b=some r:=by
 obtain rfl:=Option.some.inj c;exact h
theorem qo{α:Type}{r:α}{p:Prop}(h:none=some r):p:=by cases h
theorem znv{α:Type}{b:Bool}{x:Option α}{y:Option α}(h:gop b x=some y):(b=true→ ∃ z,x=some z∧y=some z)∧(b=false→y=none):=by
 unfold gop at h
 cases b
 ·exact⟨fun e=>by(cases e),fun _=>(Option.some.inj h).symm⟩
 ·refine⟨fun _=>?_,fun e=>by(cases e)⟩
  cases x with
  |none=>cases h
  |some z=>exact⟨z,rfl,(Option.some.inj h).symm⟩
theorem qx{α:Type}{X:List α}{i:Int}(h:okI X i):i.toNat<X.length:=by have:=h.1;have:=h.2;omega
theorem zee{b:Nat}{n:Int}(h:okM b n):b*n.toNat≤281474976710656:=by
 obtain⟨a,c,_⟩:=h
 have e:((b*n.toNat:Nat):Int)=(b:Int)*n:=by rw [Int.natCast_mul,Int.toNat_of_nonneg a]
 omega
theorem zeo{b:Nat}{n:Int}(h:okM b n):n.toNat≤9223372036854775807:=by have:=h.1;have:=h.2.2;omega
/-! ### Slices,with or without room-/
def tSl{α:Type}(t:Bool)(T:Ty α):Ty (List α) where
 size:=1
 agg:=false
 rep R cs X:=(yo T).rep R cs X∧(t=true→ ∃ p,cs=[.slice p X.length X.length])
 len h:=(yo T).len h.1
 mono hle h:=⟨(yo T).mono hle h.1,h.2⟩
 one _:=rfl
 cell h:=(yo T).cell h.1
section sl
variable {α : Type} {T : Ty α} {t : Bool} {R : RH} {v : Value} {X : List α}
theorem uk(h:VRep (tSl t T) R v X):VRep (yo T) R v X:=let⟨cs,a,b⟩:=h;⟨cs,a.1,b⟩
theorem z6o(h:VRep (yo T) R v X):VRep (tSl false T) R v X:=let⟨cs,a,b⟩:=h;⟨cs,⟨a,fun e=>by(cases e)⟩,b⟩
theorem z1r(h:VRep (yo T) R v X)(a:capOf v=X.length):VRep (tSl t T) R v X:=by
 obtain⟨p,n,rfl,b,c,d⟩:=xh.1 h
 simp only [capOf] at a
 subst a
 exact⟨_,⟨⟨p,_,rfl,b,c,d⟩,fun _=>⟨p,rfl⟩⟩,rfl⟩
theorem l8:VRep (tSl t T) R (.slice none 0 0) []:=z1r z7m rfl
end sl
theorem ko{α:Type}{T:Ty α}{R:RH}{v:Value}{x:α}(a:T.agg=false)(h:VRep T R v x):T.rep R [v] x:=by
 obtain⟨cs,b,rfl⟩:=h
 have e:=T.one a
 have d:=T.len b
 rw [e] at d
 match cs,d with
 | [c],_=>simpa [Ty.mk',a] using b
theorem z9v{α:Type}{T:Ty α}{R:RH}{cs:List Value}{x:α}(a:T.agg=false)(h:T.rep R cs x): ∃ u,cs=[u]∧VRep T R u x:=by
 have d:=T.one a
 have b:=T.len h
 rw [d] at b
 match cs,b with
 | [c],_=>exact⟨c,rfl,[c],h,by simp [Ty.mk',a]⟩
theorem pg{α:Type}{T:Ty α}{t:Bool}{R:RH}{v:Value}{X:List α}(h:VRep (tSl t T) R v X):v.cells=([v]:List Value).toArray:=ziv (uk h)
theorem z0l{α:Type}{T:Ty α}{t:Bool}{R:RH}{v:Value}{X:List α}(h:VRep (tSl t T) R v X):v.oneCell'=true:=zm6 (uk h)
def Sub{α:Type}(A B:Ty α):Prop:=A.agg=B.agg∧A.size=B.size∧ ∀ R cs x,A.rep R cs x→B.rep R cs x
theorem Sub.refl{α:Type}{A:Ty α}:Sub A A:=⟨rfl,rfl,fun _ _ _ h=>h⟩
theorem Sub.v{α:Type}{A B:Ty α}{R:RH}{v:Value}{x:α}(s:Sub A B)(h:VRep A R v x):VRep B R v x:=
 let⟨cs,a,b⟩:=h;⟨cs,s.2.2 _ _ _ a,by rw [b];unfold Ty.mk';rw [s.1]⟩
theorem zlq{α:Type}{A B:Ty α}(s:Sub A B):Sub (yo A) (yo B):=⟨rfl,rfl,by
 rintro R cs X ⟨p,n,rfl,a,d,h⟩
 refine⟨p,n,rfl,a,d,?_⟩
 rcases h with h|⟨b,off,c,ty,fr,e,f,g⟩
 ·exact .inl h
 ·exact .inr ⟨b,off,c,ty,fr,e,f,fun i x j=>by rw [←s.2.1];exact s.2.2 _ _ _ (g i x j)⟩⟩
theorem bv{α:Type}{A B:Ty α}{t t':Bool}(s:Sub A B)(a:t'=true→t=true):Sub (tSl t A) (tSl t' B):=⟨rfl,rfl,fun R cs X h=>⟨(zlq s).2.2 R cs X h.1,fun e=>h.2 (a e)⟩⟩
/-! ### Ways that meet,loops-/
theorem pk{O O':List Frag}{f:Frag}(i:Nat)(h:O[i]? =some f)(k:(O.eraseIdx i).Perm O'):O.Perm (f::O'):=(fw O i f h).trans (k.cons f)
theorem z90{R:RH}{O J F A:List Frag}{w:World}(b:O.Perm (J++F))(h:Holds R (O++A) w):Holds R (F++A) w:=by
 have a:=u6 h (b.append_right A)
 rw [List.append_assoc] at a
 exact⟨a.ro,fun f c=>a.own f (List.mem_append.2 (.inr c)),(List.pairwise_append.1 a.sep).2.1,a.os,a.out⟩
theorem zfc{P:Program}{ρ:Option Nat}{n:Nat}{c:Code}{Q:Po}{l:Nat→Value}{D:List Nat}{R:RH}{O J F:List Frag}(b:O.Perm (J++F))(h:wg P ρ n c Q l D R F):wg P ρ n c Q l D R O:=
 fun a w d e=>h a w d (z90 b e)
theorem zk8{W:List Nat}{l' l:Nat→Value}{S:List (Nat×Value)}(a:Off W l' l)(b:zh7 l' S):l'=z0z (mask W l' l) S:=by
 rw [←zhq a];exact ze9 (zg4 b)
def zt0{γ:Type}(dk:Bool)(D:List Nat)(W:List Nat)(l:Nat→Value)(R:RH)(S:γ→List (Nat×Value))(F:γ→List Frag)(K:γ→RH→Prop):(Nat→Value)→List Nat→RH→List Frag→Prop:=
 fun l' D' R' O'=>(dk=true→D'=D)∧RH.le R R'∧Off W l' l∧ ∃ g,zh7 l' (S g)∧(∃ J,O'.Perm (J++F g))∧K g R'
section meet
variable {P : Program} {ρ : Option Nat} {n : Nat} {Q : Po} {l : Nat → Value} {D : List Nat} {R : RH} {O : List Frag} {γ : Type}
theorem zp9{x y:Code}(dk:Bool)(W:List Nat)(S:γ→List (Nat×Value))(F:γ→List Frag)(K:γ→RH→Prop)
 (b:wg P ρ n x (thn (zt0 dk D W l R S F K) Q) l D R O)
 (c: ∀ g j D' R',(dk=true→D'=D)→RH.le R R'→K g R'→wg P ρ n y Q (z0z (mask W j l) (S g)) D' R' (F g)):wg P ρ n (.seq x y) Q l D R O:=by
 refine zy (za6 b ?_)
 intro e l' D' R' O' h
 cases e with
 |normal=>
  obtain⟨d,a,f,g,i,⟨J,k⟩,m⟩:=h
  refine zfc k ?_
  rw [zk8 f i]
  exact c g l' D' R' d a m
 |_=>exact h
def zqi(dk:Bool)(D:List Nat)(W:List Nat)(l:Nat→Value)(R:RH)(S:γ→List (Nat×Value))(F:γ→List Frag)(K:γ→RH→Prop)(μ:γ→Nat)(m:Nat):(Nat→Value)→List Nat→RH→List Frag→Prop:=
 fun l' D' R' O'=>(dk=true→D'=D)∧RH.le R R'∧Off W l' l∧ ∃ g,μ g<m∧zh7 l' (S g)∧(∃ J,O'.Perm (J++F g))∧K g R'
theorem zlv{c:Code}(dk:Bool)(W:List Nat)(S:γ→List (Nat×Value))(F:γ→List Frag)(K:γ→RH→Prop)(μ:γ→Nat)(a:γ)
 (r:zh7 l (S a)) (s: ∃ J,O.Perm (J++F a)) (t:K a R) (u: ∀ g,((S g).all fun p=>W.elem p.1)=true)
 (round: ∀ g j D' R',(dk=true→D'=D)→RH.le R R'→K g R'→wg P ρ n c (thn (zqi dk D' W (z0z (mask W j l) (S g)) R' S F K μ (μ g)) Q) (z0z (mask W j l) (S g)) D' R' (F g)):wg P ρ n (.loop c) Q l D R O:=by
 refine zk3 (fun k d i f O1=>(dk=true→i=D)∧RH.le R f∧Off W d l∧ ∃ g,k=μ g∧zh7 d (S g)∧(∃ J,O1.Perm (J++F g))∧K g f) (μ a) ⟨fun _=>rfl,RH.le.refl _,zgn,a,rfl,r,s,t⟩ ?_
 rintro k d i f O1 ⟨q,b,hoff,g,rfl,m,⟨J,v⟩,w⟩
 refine zfc v ?_
 rw [zk8 hoff m]
 refine za6 (round g d i f q b w) ?_
 intro e l' D' R'' O'' h
 cases e with
 |normal=>
  obtain⟨hD',hle',hoff',g',o,hS',x,hI'⟩:=h
  exact⟨_,o,fun e=>(hD' e).trans (q e),b.trans hle',zf0 hoff' (zc3 (u g) zgo),g',rfl,hS',x,hI'⟩
 |_=>exact h
end meet
/-! ### What is lent-/
def RH.lend(R:RH)(O:List Frag):RH:= {R with blk:=fun k=>match R.blk k with|some o=>some o|none=>O.findSome? fun f=>f k}
theorem RH.le_lend(R:RH)(O:List Frag):RH.le R (R.lend O):=⟨fun k o h=>by simp [RH.lend,h],rfl,rfl⟩
theorem zh6{f:Frag}{k:Nat}{o:Obj}: ∀ {O:List Frag},f∈O→f k=some o→(O.Pairwise fun f g=> ∀ k,f k=none∨g k=none)→O.findSome? (fun f=>f k)=some o
 |g::O,a,b,c=>by
  obtain⟨d,e⟩:=List.pairwise_cons.1 c
  rw [List.findSome?_cons]
  rcases List.mem_cons.1 a with rfl|a
  ·rw [b]
  ·have:g k=none:=by
    rcases d f a k with h|h
    ·exact h
    ·rw [h] at b;cases b
   rw [this]
   exact zh6 a b e
theorem zio{R:RH}{O A:List Frag}{w:World}(h:Holds R (O++A) w):Holds (R.lend O) A w∧ ∀ f∈O,∀ k o,f k=some o→(R.lend O).blk k=some o:=by
 have d:=List.pairwise_append.1 h.sep
 refine⟨⟨fun k o a=>?_,fun g l k o a=>?_,d.2.1,h.os,h.out⟩,fun f b k o a=>?_⟩
 ·cases e:R.blk k with
  |some o'=>simp only [RH.lend,e,Option.some.injEq] at a;subst a;exact h.ro k _ e
  |none=>
   simp only [RH.lend,e] at a
   obtain⟨f,b,i⟩:=List.exists_of_findSome?_eq_some a
   exact(h.own f (List.mem_append.2 (.inl b)) k o i).1
 ·have c:=h.own g (List.mem_append.2 (.inr l)) k o a
  refine⟨c.1,?_⟩
  simp only [RH.lend,c.2]
  rw [List.findSome?_eq_none_iff]
  intro f b
  rcases d.2.2 f b g l k with j|j
  ·exact j
  ·rw [j] at a;cases a
 ·have c:=(h.own f (List.mem_append.2 (.inl b)) k o a).2
  simp only [RH.lend,c]
  exact zh6 b a d.1
theorem zmn{P:Program}{ρ:Option Nat}{l:Nat→Value}{R:RH}{O:List Frag}{dst:Option Tmp}{ty:TypeId}{pos:String}{after:Array Go.Edge}{g:Option (Nat×Bool)}{f:FuncId}{c:Operand}{args:List Operand}{at':Array TypeId}{cs vs:List Value}{φ:Value→Prop}
 (n:Enters P f) (p:ev l c= .func (.func f) #[] cs.toArray) (q:args.map (ev l)=vs) (h: ∀ j,RH.le R j→(∀ f∈O,∀ k o,f k=some o→j.blk k=some o)→CallP P f (vs++cs).toArray j fun v _=>φ v):
 Eff P ρ ⟨dst,.call ⟨.value c,args.toArray,at'⟩,ty,pos,after,g⟩ l R O (fun v R' O'=>O'=O∧R'=R∧φ v):=by
 intro A w i;rw [qi (by intro c h;cases h),zar n p (z3l q)]
 obtain⟨r,m⟩:=zio i
 have s:=h (R.lend O) (RH.le_lend _ _) m A w r
 rw [show (#[]++vs.toArray++cs.toArray:Array Value)=(vs++cs).toArray from by simp]
 refine Calls.mono s ?_
 rintro e w' ⟨v,rfl,R',a,hh',t⟩
 refine⟨v,rfl,R,O,RH.le.refl _,?_,rfl,rfl,t⟩
 have u:=List.pairwise_append.1 i.sep
 refine⟨fun k o d=>hh'.ro k o (a.blk k o ((RH.le_lend R O).blk k o d)),fun g b k o d=>?_,i.sep,by have:=hh'.os;rw [a.os] at this;exact this,hh'.out.trans a.out⟩
 rcases List.mem_append.1 b with b|b
 ·exact⟨hh'.ro k o (a.blk k o (m g b k o d)),(i.own g (List.mem_append.2 (.inl b)) k o d).2⟩
 ·exact⟨(hh'.own g b k o d).1,(i.own g (List.mem_append.2 (.inr b)) k o d).2⟩
theorem zms{α:Type}{T:Ty α}{R a:RH}{O:List Frag}{f:Frag}{v:Value}{X:List α}(i:Nat)(hi:O[i]? =some f)(h:ORep T R f v X)(c:RH.le R a)(g: ∀ f∈O,∀ k o,f k=some o→a.blk k=some o):VRep (yo T) a v X:=by
 rcases h with⟨rfl,rfl,rfl⟩|⟨b,pre,cs,cap,bt,rfl,rfl,j,l,m,d⟩
 ·exact z7m
 ·refine xh.2 ⟨_,cap,rfl,j,fun e=>by(cases e),.inr ⟨b,pre.length,(pre++cs).toArray,bt,(0,0),rfl,g _ (List.mem_of_getElem? hi) b _ (single_same _ _),fun i x n=>?_⟩⟩
  rw [z00]
  exact T.mono c (by simpa [cellsAt] using d i x n)
theorem zjv{P:Program}{ρ:Option Nat}{n:Nat}{Q:Po}{l:Nat→Value}{D:List Nat}{R:RH}{O:List Frag}{ops:Array Oper}{rest:List Oper}{ty:TypeId}{pos:String}{after:Array Go.Edge}{d:Nat}{f:FuncId}{c:Operand}{args:List Operand}{at':Array TypeId}{cs vs:List Value}{φ:Value→Prop}
 (b:Nat.blt d n=true) (e:Enters P f) (g:ev l c= .func (.func f) #[] cs.toArray) (i:args.map (ev l)=vs) (h: ∀ a,RH.le R a→(∀ f∈O,∀ k o,f k=some o→a.blk k=some o)→CallP P f (vs++cs).toArray a fun v _=>φ v)
 (j: ∀ v,φ v→wo P ρ n ops Q rest (upd l d v) D R O):wo P ρ n ops Q (⟨some d,.call ⟨.value c,args.toArray,at'⟩,ty,pos,after,none⟩::rest) l D R O:=by
 refine zfr rfl (fun t m=>by cases m;simpa using b) (zmn e g i h) ?_
 rintro v R' O' _ ⟨rfl,rfl,p⟩
 exact j v p
/-! ### Function values-/
def FOk1(P:Program)(R:RH)(v:Value){α β:Type}(A:Ty α)(B:Ty β)(f:α→Option β):Prop:=
 ∀ a,RH.le R a→ ∀ x u y,VRep A a u x→f x=some y→CallV P v [u].toArray a [] (fun v' R' O'=>O'=[]∧VRep B R' v' y)
theorem FOk1.mono{P:Program}{R R':RH}{v:Value}{α β:Type}{A:Ty α}{B:Ty β}{f:α→Option β}(h:FOk1 P R v A B f)(a:RH.le R R'):FOk1 P R' v A B f:=fun b c=>h b (a.trans c)
theorem z9x{P:Program}{R:RH}{f:FuncId}{cs:List Value}{α β:Type}{A:Ty α}{B:Ty β}{F:α→Option β}(c:Enters P f)
 (h: ∀ a,RH.le R a→ ∀ x u y,VRep A a u x→F x=some y→CallP P f (u::cs).toArray a (fun v R'=>VRep B R' v y)):FOk1 P R (.func (.func f) #[] cs.toArray) A B F:=
 fun a b x u y d e=>CallV.mono (z9e c (by simp) ((h a b x u y d e).toG)) fun _ _ _ _ h=>h
def FOk2(P:Program)(R:RH)(v:Value){α β γ:Type}(A:Ty α)(B:Ty β)(C:Ty γ)(f:α→β→Option γ):Prop:=
 ∀ a,RH.le R a→ ∀ x y u w z,VRep A a u x→VRep B a w y→f x y=some z→CallV P v [u,w].toArray a [] (fun v' R' O'=>O'=[]∧VRep C R' v' z)
theorem FOk2.mono{P:Program}{R R':RH}{v:Value}{α β γ:Type}{A:Ty α}{B:Ty β}{C:Ty γ}{f:α→β→Option γ}(h:FOk2 P R v A B C f)(a:RH.le R R'):FOk2 P R' v A B C f:=fun b c=>h b (a.trans c)
/-! ### Guarded operations in the text's order,way by way-/
section guards
variable {P : Program} {ρ : Option Nat} {n : Nat} {Q : Po} {l : Nat → Value} {D : List Nat} {R : RH} {O : List Frag} {ops : Array Oper} {rest : List Oper} {ty : TypeId} {pos : String} {after : Array Go.Edge} {dst : Option Tmp} {op : Op}
theorem zq1{j s:Nat}{want:Bool}(d:guardSlot ops j=some s)(b:Nat.blt s n=true)(e:l s= .bool want)(f:wo P ρ n ops Q (⟨dst,op,ty,pos,after,none⟩::rest) l D R O):
 wo P ρ n ops Q (⟨dst,op,ty,pos,after,some (j,want)⟩::rest) l D R O:=by
 intro a w c g
 have i:=z6g c d (by simpa using b) e
 have h:=f a w c g
 simp only [wlo] at h⊢
 rw [if_pos (wanted_none rfl)] at h
 rw [if_pos (by simp [Region.wanted,i])]
 exact h
theorem zqn{j s d:Nat}{want b:Bool}(g:guardSlot ops j=some s)(c:Nat.blt s n=true)(i:l s= .bool b)(k:(b==want)=false)(m:Nat.blt d n=true)(o:wo P ρ n ops Q rest (upd l d undef) D R O):
 wo P ρ n ops Q (⟨some d,op,ty,pos,after,some (j,want)⟩::rest) l D R O:=by
 intro a w f p
 have q:=z6g f g (by simpa using c) i
 have h:=o _ w (f.put (d:=some d) (fun t r=>by cases r;simpa using m) undef) p
 simp only [wlo]
 rw [if_neg (by simp [Region.wanted,q];intro e;subst e;simp at k)]
 exact⟨fun _ _=>trivial,h⟩
end guards
theorem zd7{P:Program}{ρ:Option Nat}{n:Nat}{Q:Po}{l:Nat→Value}{D:List Nat}{R:RH}{O:List Frag}{ops:Array Oper}{rest:List Oper}{ty:TypeId}{pos:String}{after:Array Go.Edge}{d:Nat}
 {c:Operand} {args:List Operand} {at':Array TypeId} {fv:Value} {vs:List Value} {φ:Value→RH→Prop} (b:Nat.blt d n=true) (e:ev l c=fv) (f:args.map (ev l)=vs) (h:CallV P fv vs.toArray R [] (fun v R' O=>O=[]∧φ v R'))
 (g: ∀ v R',RH.le R R'→φ v R'→wo P ρ n ops Q rest (upd l d v) D R' O):wo P ρ n ops Q (⟨some d,.call ⟨.value c,args.toArray,at'⟩,ty,pos,after,none⟩::rest) l D R O:=
 z9z (Oc:=[]) (Or:=O) b e f (List.Perm.refl O) h fun v R' Oc' a ⟨i,j⟩=>by subst i;exact g v R' a j
theorem z2g{α:Type}[Inhabited α]{b:Bool}{x:Option α}{y:Option α}(h:gop b x=some y)(e:b=true):x=some (y.getD default):=by
 obtain⟨z,a,c⟩:=(znv h).1 e
 rw [a,c];rfl
theorem z4x{α:Type}{X:List α}{lo hi:Int}(h:okS X lo hi):lo.toNat≤hi.toNat:=by have:=h.1;have:=h.2.1;omega
theorem z1j{α:Type}{X:List α}{lo hi:Int}(h:okS X lo hi):hi.toNat≤X.length:=by have:=h.1;have:=h.2.1;have:=h.2.2;omega
theorem z8s{α:Type}{X:List α}{lo hi:Int}(h:okS X lo hi):0≤hi:=Int.le_trans h.1 h.2.1
theorem ww{W:List Nat}{l l0:Nat→Value}(h:Off W l l0:=by repeat (first|exact zgn|refine zju rfl ?_|refine zc3 rfl ?_|refine zf7 rfl ?_)):Off W l l0:=h
theorem zhl{α:Type}{T:Ty α}{R:RH}{f:Frag}{v:Value}{X:List α}(h:ORep T R f v X):X.length≤capOf v:=let⟨_,_,h⟩:=z0t h;h
end GV
end Go.Proofs.YtkkcidhcfkmbjaaGreatDoor

namespace Go.Proofs.YtkkcidhcfkmbjaaGreatDoor
namespace GV
def zil{α:Type}(t:Bool)(Vs:List Value)(X:List (List α))(no:Nat→Prop):Prop:=t=true→ ∀ j,j<X.length→ ¬no j→capOf (Vs.getD j default)=(X.getD j default).length
def N2{α:Type}(t:Bool)(T:Ty α)(R:RH)(F:Frag)(v:Value)(Vs:List Value)(X:List (List α)):Prop:=
 ∃ f0 Fs,Vs.length=X.length∧ORep tHdr R f0 v Vs∧Has F f0∧Rows T R F Vs X Fs (fun _=>False)∧(∀ j,j<X.length→Apart f0 (Fs.getD j emp))∧zil t Vs X (fun _=>False)
def N2h{α:Type}(t:Bool)(T:Ty α)(k:Nat)(R:RH)(F:Frag)(v:Value)(Vs:List Value)(X:List (List α)):Prop:=
 ∃ f0 Fs,Vs.length=X.length∧ORep tHdr R f0 v Vs∧Has F f0∧Rows T R F Vs X Fs (fun j=>j=k)∧(∀ j,j<X.length→j≠k→Apart f0 (Fs.getD j emp))∧zil t Vs X (fun j=>j=k)
section n2
variable {α : Type} {t : Bool} {T : Ty α} {R R' : RH} {F : Frag} {v : Value} {Vs : List Value} {X : List (List α)}
theorem N2.mono(h:N2 t T R F v Vs X)(f:RH.le R R'):N2 t T R' F v Vs X:=let⟨f0,Fs,a,b,c,d,e,g⟩:=h;⟨f0,Fs,a,b.mono f,c,d.mono f,e,g⟩
theorem N2h.mono{k:Nat}(h:N2h t T k R F v Vs X)(f:RH.le R R'):N2h t T k R' F v Vs X:=let⟨f0,Fs,a,b,c,d,e,g⟩:=h;⟨f0,Fs,a,b.mono f,c,d.mono f,e,g⟩
theorem N2.o(h:N2 t T R F v Vs X): ∃ f0,ORep tHdr R f0 v Vs∧Has F f0∧Vs.length=X.length:=let⟨f0,Fs,a,b,c,d,e,g⟩:=h;⟨f0,b,c,a⟩
theorem N2h.o{k:Nat}(h:N2h t T k R F v Vs X): ∃ f0,ORep tHdr R f0 v Vs∧Has F f0∧Vs.length=X.length:=let⟨f0,Fs,a,b,c,d,e,g⟩:=h;⟨f0,b,c,a⟩
theorem N2.row(h:N2 t T R F v Vs X){k:Nat}(f:k<X.length): ∃ fk,ORep T R fk (Vs.getD k default) (X.getD k default)∧Has F fk:=
 let⟨f0,Fs,a,b,c,d,e,g⟩:=h;⟨_,d.2.1 k f (fun h=>h)⟩
theorem N2.hole(h:N2 t T R F v Vs X){k:Nat}(g:k<X.length): ∃ fk,ORep T R fk (Vs.getD k default) (X.getD k default)∧Has F fk∧N2h t T k R (minus F fk) v Vs X:=by
 obtain⟨f0,Fs,p,q,l,⟨m,a,c⟩,d,r⟩:=h
 have n: ∀ j,¬(fun(_:Nat)=>False) j:=fun _ h=>h
 refine⟨Fs.getD k emp,(a k g (n k)).1,(a k g (n k)).2,f0,Fs,p,q,zav l (d k g).symm,⟨m,fun j b f=>⟨(a j b (n j)).1,zav (a j b (n j)).2 (c k j g b (n k) (n j) (fun e=>f e.symm))⟩,fun i j hi b s f o=>c i j hi b (n i) (n j) o⟩,fun j b _=>d j b,fun e j b _=>r e j b (n j)⟩
theorem N2h.fill{k:Nat}{G fk:Frag}{u:Value}{Y:List α}(h:N2h t T k R G v Vs X)(q:k<X.length)(r:ORep T R fk (Vs.getD k default) Y)(f:Apart fk G)(ht':t=true→capOf (Vs.getD k default)=Y.length):
 N2 t T R (lu fk G) v Vs (X.set k Y):=by
 obtain⟨f0,Fs,s,w,g,⟨m,a,n⟩,o,x⟩:=h
 have p:=fun j=>z2h (X:=X) (j:=j) (y:=Y) (d:=default) q
 have l:=fun j=>z2h (X:=Fs) (j:=j) (y:=fk) (d:=emp) (k:=k) (by omega)
 refine⟨f0,Fs.set k fk,by simp [s],w,(z5o f).trans g,⟨by simp [m],fun j b _=>?_,fun i j hi b _ _ c=>?_⟩,fun j b=>?_,fun e j b _=>?_⟩
 ·have hj':j<X.length:=by simpa using b
  rw [l,p]
  by_cases e:j=k
  ·subst e;rw [if_pos rfl,if_pos rfl];exact⟨r,z8i⟩
  ·rw [if_neg e,if_neg e];exact⟨(a j hj' e).1,(z5o f).trans (a j hj' e).2⟩
 ·have hi':i<X.length:=by simpa using hi
  have hj':j<X.length:=by simpa using b
  rw [l,l]
  by_cases e1:i=k
  ·rw [if_pos e1,if_neg (fun e=>c (e1.trans e.symm))]
   exact(a j hj' (fun e=>c (e1.trans e.symm))).2.apart f
  ·by_cases e2:j=k
   ·rw [if_neg e1,if_pos e2];exact((a i hi' e1).2.apart f).symm
   ·rw [if_neg e1,if_neg e2];exact n i j hi' hj' e1 e2 c
 ·have hj':j<X.length:=by simpa using b
  rw [l]
  by_cases e:j=k
  ·rw [if_pos e];exact(g.apart f).symm
  ·rw [if_neg e];exact o j hj' e
 ·have hj':j<X.length:=by simpa using b
  rw [p]
  by_cases e':j=k
  ·subst e';rw [if_pos rfl];exact ht' e
  ·rw [if_neg e'];exact x e j hj' e'
theorem zo2:N2 t T R emp (.slice none 0 0) [] ([]:List (List α)):=
 ⟨emp,[],rfl,.inl ⟨rfl,rfl,rfl⟩,zgy,⟨rfl,fun j a=>by simp at a,fun i j hi=>by simp at hi⟩,fun j a=>by simp at a,fun _ j a=>by simp at a⟩
theorem za5{β:Type}{m j:Nat}{y d:β}(h:j<m):(List.replicate m y).getD j d=y:=by simp [List.getD_eq_getElem?_getD,h]
theorem z8l{β:Type}{m j:Nat}{y:β}:(List.replicate m y).getD j y=y:=by simp only [List.getD_eq_getElem?_getD,List.getElem?_replicate];split<;>rfl
theorem zpg{f:Frag}{m:Nat}(h:ORep tHdr R f v (List.replicate m (Value.slice none 0 0))):N2 t T R f v (List.replicate m (Value.slice none 0 0)) (List.replicate m ([]:List α)):=by
 refine⟨f,List.replicate m emp,by simp,h,zgy,⟨by simp,fun j a _=>?_,fun i j hi a _ _ _=>?_⟩,fun j a=>?_,fun _ j a _=>?_⟩
 ·have hj':j<m:=by simpa using a
  rw [z8l,za5 hj',za5 hj']
  exact⟨.inl ⟨rfl,rfl,rfl⟩,zoq⟩
 ·rw [z8l,z8l];exact apart_emp
 ·rw [z8l];exact apart_emp.symm
 ·have hj':j<m:=by simpa using a
  rw [za5 hj',za5 hj'];rfl
end n2
theorem zhg{R:RH}{f g:Frag}{O:List Frag}{w:World}(h:Holds R (f::g::O) w):Apart f g:=fun k=>(List.pairwise_cons.1 h.sep).1 g (by simp) k
theorem zgx{P:Program}{ρ:Option Nat}{o:Oper}{l:Nat→Value}{R:RH}{O O1 Or:List Frag}{φ1 φ:Value→RH→List Frag→Prop}(b: ∀ A w,Holds R (O++A) w→Holds R (O1++(Or++A)) w)
 (h:Eff P ρ o l R O1 φ1) (hout: ∀ v R' O1',RH.le R R'→φ1 v R' O1'→ ∀ A w,Holds R' (O1'++(Or++A)) w→ ∃ O',Holds R' (O'++A) w∧φ v R' O'):Eff P ρ o l R O φ:=by
 intro A w c
 refine z5t (h (Or++A) w (b A w c)) ?_
 rintro v w' ⟨R',O1',a,hh',d⟩
 obtain⟨O',e,f⟩:=hout v R' O1' a d A w' hh'
 exact⟨R',O',a,e,f⟩
section vals
variable {P : Program} {ρ : Option Nat} {l : Nat → Value} {R : RH} {O : List Frag} {dst : Option Tmp} {ty : TypeId} {pos : String} {after : Array Go.Edge} {g : Option (Nat × Bool)}
theorem zl4{α:Type}{T:Ty α}{t:TypeId}{x:Operand}{f F:Frag}{v u:Value}{X:List α}{i j:Nat}{y:α}(n:TyOk P t T)(o:ORep T R f v X)(p:Has F f)(d:O[j]? =some F)
 (q:ev l x=u) (r:z2l T v X u i) (e:X[i]? =some y):
 ∃ u,VRep T R u y∧ ∀ (dst:Option Tmp) (ty:TypeId) (pos:String) (after:Array Go.Edge) (g:Option (Nat×Bool)),Val P ρ ⟨dst,.load t x,ty,pos,after,g⟩ l R O u:=by
 obtain⟨b,off,k,rfl⟩:=r
 rcases o with⟨rfl,rfl,_⟩|⟨b',pre,cs,cap,bt,rfl,rfl,C,s,z,a⟩
 ·simp at e
 ·simp only [capOf,Value.slice.injEq,Option.some.injEq,Addr.mk.injEq,and_true] at k
  obtain⟨rfl,rfl⟩:=k
  have m:T.rep R (cellsAt (pre++cs).toArray (pre.length+i*T.size) T.size) y:=by rw [z00];simpa [cellsAt] using a i y e
  refine⟨T.mk' (cellsAt (pre++cs).toArray (pre.length+i*T.size) T.size),⟨_,m,rfl⟩,fun dst ty pos after g A w B=>?_⟩
  rw [qi (by intro c h;cases h)]
  have hblk:w.heap[b']? =some (.cells (pre++cs).toArray bt (0,0)):=oq B (i:=j) (by rw [List.getElem?_append_left (by exact(List.getElem?_eq_some_iff.1 d).1)];exact d) (p _ _ (single_same _ _))
  simp only [execOp,q,Instr.loadAt,Instr.sureAddr,Sem.run_bind,Sem.run_pure,Result.andThen_ok,z4u n hblk (R:=R) (x:=y) m]
end vals
end GV
end Go.Proofs.YtkkcidhcfkmbjaaGreatDoor

namespace Go.Proofs.YtkkcidhcfkmbjaaGreatDoor
namespace GV
open Go.IntWalk
def zqh(P:Program)(f:FuncId)(cs:List Value)(R:RH){α:Type}(enc:α→List Value→RH→Prop)(IT:(σ:Type)→(α→σ→Option (Bool×σ))→σ→Option σ):Prop:=
 ∀ (yv:Value) (σ:Type) (B:α→σ→Option (Bool×σ)) (I:σ→RH→List Frag→Prop) (c:RH) (O:List Frag) (e g:σ),RH.le R c→
  (∀ s a d O2,RH.le a d→I s a O2→I s d O2)→I e c O→IT σ B e=some g→
  (∀ x s b s' a O2 vs,RH.le c a→enc x vs a→I s a O2→B x s=some (b,s')→CallV P yv vs.toArray a O2 (fun v d h=>v= .bool b∧I s' d h))→yv.oneCell'=true→
  CallG P f (yv::cs).toArray c O (fun v R' O'=>I g R' O')
theorem zls{P:Program}{ρ:Option Nat}{n:Nat}{Q:Po}{l:Nat→Value}{D:List Nat}{R:RH}{O:List Frag}{ops:Array Oper}{rest:List Oper}{ty:TypeId}{pos:String}{after:Array Go.Edge}{d:Nat}
 {c:Operand} {args:List Operand} {at':Array TypeId} {fv:Value} {vs:List Value} {J Oc A:List Frag} {b:Bool} {I:RH→List Frag→Prop} (e:Nat.blt d n=true) (f:ev l c=fv) (g:args.map (ev l)=vs) (i:O=J++(Oc++A))
 (h:CallV P fv vs.toArray R Oc (fun v R' O'=>v= .bool b∧I R' O'))
 (j: ∀ R' Oc',RH.le R R'→I R' Oc'→wo P ρ n ops Q rest (upd l d (.bool b)) D R' (J++(Oc'++A))):wo P ρ n ops Q (⟨some d,.call ⟨.value c,args.toArray,at'⟩,ty,pos,after,none⟩::rest) l D R O:=
 z9z (Oc:=Oc) (Or:=J++A) e f g (by subst i;exact zdx) h fun v R' Oc' a ⟨k,m⟩=>by subst k;exact zpp zdx (j R' Oc' a m)
def zuj{σ:Type}(R0:RH)(lb n:Nat)(l:Nat→Value)(ps:List Nat)(assign body:Code)(I:σ→RH→List Frag→Prop)(E:σ→Code→RH→List Frag→Prop)(s:σ)(R:RH)(O:List Frag):Prop:=
 RH.le R0 R∧ ∃ L Oc',O=z7s lb L::Oc'∧((zrb L n l ps assign body∧L.state= .ready∧L.pending=none∧I s R Oc')∨(∃ c,L.state= .done∧L.pending=some c∧E s c R Oc'))
theorem CallG.mono2{P:Program}{f:FuncId}{args:Array Value}{R:RH}{O:List Frag}{post post':Value→RH→List Frag→Prop}(h:CallG P f args R O post)
 (g: ∀ v R' O',RH.le R R'→post v R' O'→ ∃ J O'',O'.Perm (J++O'')∧post' v R' O''):CallG P f args R O post':=fun A w i=>
 Calls.mono (h A w i) fun e w' ⟨v,j,R',O',a,b,c⟩=>let⟨J,O'',d,k⟩:=g v R' O' a c;⟨v,j,R',O'',a,z90 d b,k⟩
theorem znw{P:Program}{n:Nat}{Q:Po}{l:Nat→Value}{D:List Nat}{R:RH}{O:List Frag}{gv:Operand}{ps:List Nat}{assign body:Code}{f:FuncId}{cs:List Value}{Oc Or:List Frag}{α σ:Type}{enc:α→List Value→RH→Prop}
 {IT:(σ:Type)→(α→σ→Option (Bool×σ))→σ→Option σ} (B:α→σ→Option (Bool×σ)) (I:σ→RH→List Frag→Prop) (E:σ→Code→RH→List Frag→Prop) (M K:σ)
 (hg:ev l gv= .func (.func f) #[] cs.toArray) (he:Enters P f) (N:zqh P f cs R enc IT) (S:O.Perm (Oc++Or)) (T:(ps.all fun p=>Nat.blt p n)=true)
 (hlen: ∀ x R vs,enc x vs R→vs.length=ps.length) (U: ∀ s m i O2,RH.le m i→I s m O2→I s i O2) (V: ∀ s c m i O2,RH.le m i→E s c m O2→E s c i O2)
 (W: ∀ s c R O x,E s c R O→B x s=none) (h0:I M R Oc) (hrun:IT σ B M=some K)
 (hround: ∀ x s b s' lb j vs g,RH.le R j→enc x vs j→I s j g→B x s=some (b,s')→ ∀ X,wg P (some lb) n assign (fun e l1 D1 m O1=>e= .normal∧D1=[]∧RH.le j m∧ ∃ Oa,O1.Perm (Oa++X)∧
  ∀ X',wg P (some lb) n body (znc j X' (fun p i w=>match p with|none=>b=true∧I s' i w|some c=>b=false∧E s' c i w)) l1 [] m (Oa++X')) (zbr (ps.zip vs) l) [] j (g++X))
 (hend: ∀ dd j g,RH.le R j→I K j g→ ∃ J F,g.Perm (J++F)∧Q .normal l (dd::D) j (F++Or))
 (hexit: ∀ c dd j g,RH.le R j→E K c j g→wg P none n c Q l (dd::D) j (g++Or)):wg P none n (.rangeFunc gv ps.toArray assign body) Q l D R O:=by
 refine zg1 (f:=f) (fs:= #[]) (cs:=cs.toArray) hg he S fun lb dd fn t Y=>?_
 have hargs:(#[]++ #[Value.func (Fn.yield lb) #[] #[]]++cs.toArray:Array Value)=(Value.func (Fn.yield lb) #[] #[]::cs).toArray:=by simp
 rw [hargs]
 have hpn': ∀ p∈ps,p<n:=fun p S=>by simpa [Nat.blt_eq] using List.all_eq_true.1 T p S
 refine CallG.mono2 (N (.func (.yield lb) #[] #[]) σ B (zuj R lb n l ps assign body I E) R _ M K (RH.le.refl _) ?_ ⟨RH.le.refl _,_,_,rfl,.inl ⟨⟨Y,rfl,rfl,rfl⟩,rfl,rfl,h0⟩⟩ hrun ?_ rfl) ?_
 ·rintro s m i O2 o ⟨q,L,Oc',h2,y⟩
  refine⟨q.trans o,L,Oc',h2,?_⟩
  rcases y with⟨a,b,c,d⟩|⟨c,a,b,d⟩
  ·exact .inl ⟨a,b,c,U _ _ _ _ o d⟩
  ·exact .inr ⟨c,a,b,V _ _ _ _ _ o d⟩
 ·rintro x s b s' m O2 vs o hA ⟨q,L,Oc',rfl,y⟩ Z
  rcases y with⟨⟨z,A,C,G⟩,hst',r,hI⟩|⟨c,_,_,hE⟩
  ·refine CallV.mono (zh9 (n:=n) (l:=l) (ps:=ps) (RP:=fun p i w=>RH.le R i∧(match p with|none=>b=true∧I s' i w|some c=>b=false∧E s' c i w)) hst' A (hlen x m vs hA).symm hpn' z ?_) ?_
   ·intro X
    have:=hround x s b s' lb m vs Oc' q hA hI Z X
    rw [C,G]
    refine za6 this ?_
    rintro e l1 D1 i O1 ⟨he',hD,k,Oa,ac,hb⟩
    refine⟨he',hD,k,Oa,ac,fun X'=>za6 (hb X') ?_⟩
    intro e l2 D2 R4 O4 u
    cases e with
    |normal=>obtain⟨a,b,O',c,d⟩:=u;exact⟨a,b,O',c,q.trans b,d⟩
    |ret=>obtain⟨a,b,O',c,d⟩:=u;exact⟨a,b,O',c,q.trans b,d⟩
    |exit id=>obtain⟨a,b,O',c,d⟩:=u;exact⟨a,b,O',c,q.trans b,d⟩
    |goto _=>exact u
    |panic _=>exact u
    |outgrown=>exact u
   ·rintro v R' O' ah ⟨pend,O'',rfl,rfl,k,H⟩
    cases pend with
    |none=>obtain⟨rfl,hI'⟩:=H;exact⟨rfl,k,_,_,rfl,.inl ⟨⟨z,A,C,G⟩,rfl,rfl,hI'⟩⟩
    |some c=>obtain⟨rfl,hE'⟩:=H;exact⟨rfl,k,_,_,rfl,.inr ⟨c,rfl,rfl,hE'⟩⟩
  ·rw [W s c m Oc' x hE] at Z;cases Z
 ·rintro v R' O' o ⟨q,L,Oc',rfl,y⟩
  rcases y with⟨hL,hst',r,hI⟩|⟨c,hst',r,hE⟩
  ·obtain⟨J,F,ad,u⟩:=hend dd R' Oc' q hI
   refine⟨J,z7s lb L::F,(ad.cons _).trans List.perm_middle.symm,L,F,rfl,by rw [hst'];exact fun h=>(by cases h),?_⟩
   rw [r];exact u
  ·refine⟨[],_,List.Perm.refl _,L,Oc',rfl,by rw [hst'];exact fun h=>(by cases h),?_⟩
   rw [r];exact hexit c dd R' Oc' q hE
theorem zmk{O J F X:List Frag}(h:O.Perm (J++F)):(O++X).Perm (J++(F++X)):=by rw [←List.append_assoc];exact h.append_right X
section more
variable {P : Program} {ρ : Option Nat} {n : Nat} {Q : Po} {l : Nat → Value} {D : List Nat} {R : RH} {O : List Frag} {ops : Array Oper} {rest : List Oper} {dst : Option Tmp} {ty : TypeId} {pos : String} {after : Array Go.Edge} {g : Option (Nat × Bool)} {d : Nat}
theorem z1s{s t:TypeId}{x:Operand}{k:IntKind}{ds:TypeDesc}{m:Int}(a:P.underlying s=some ds)(b:P.underlying t=some (.int .i64))(c:ev l x= .int k m)(d:in64 m):
 Val P ρ ⟨dst,.convert s t x,ty,pos,after,g⟩ l R O (.int .i64 m):=by
 have:=z4j (P:=P) (ρ:=ρ) (R:=R) (O:=O) (dst:=dst) (ty:=ty) (pos:=pos) (after:=after) (g:=g) a b c
 rwa [i64_in _ d] at this
structure ArrOk (P:Program) (t:TypeId) (m sz:Nat):Prop where
 run: ∀ (b off i:Nat) (k:IntKind) (w:World),i<m→(Instr.indexAt t (.pointer (some ⟨b,off,none⟩)) (.int k i)).run P w= .ok (.pointer (some ⟨b,off+i*sz,none⟩)) w
theorem jy{f:FuncId}{c:Operand}{args:List Operand}{at':Array TypeId}{cs vs:List Value}{Oc Or:List Frag}{post:Value→RH→List Frag→Prop}(a:Nat.blt d n=true)(b:Enters P f)(e:ev l c= .func (.func f) #[] cs.toArray)(g:args.map (ev l)=vs)(i:O.Perm (Oc++Or))
 (h:CallG P f (vs++cs).toArray R Oc post) (j: ∀ v R' Oc',RH.le R R'→post v R' Oc'→wo P ρ n ops Q rest (upd l d v) D R' (Oc'++Or)):wo P ρ n ops Q (⟨some d,.call ⟨.value c,args.toArray,at'⟩,ty,pos,after,none⟩::rest) l D R O:=
 z9z a e g i (z9e b (by simp) h) j
theorem zkc{α:Type}{X:List α}{lo hi:Int}(h:okS X lo hi):(cut X lo hi).length=hi.toNat-lo.toNat:=by
 obtain⟨a,b,c⟩:=h
 simp only [cut,List.length_take,List.length_drop];omega
theorem Eff.frzT{o:Oper}{α:Type}{T:Ty α}{X:List α}(h:Eff P ρ o l R O fun v R' O'=>capOf v=X.length∧ ∃ f,O'=f::O∧ORep T R' f v X):Eff P ρ o l R O fun v R' O'=>O'=O∧phR (tSl true T) X v R':=by
 intro A w b
 refine z5t (h A w b) ?_
 rintro v w' ⟨R',O',a,hh',c,f,rfl,d⟩
 exact⟨R'.add f,O,a.trans (RH.le_add _ _),z3w hh',rfl,z1r (z4t d hh') c⟩
theorem zby{α:Type}{T:Ty α}{t e:TypeId}{z:α}{bytes m:Nat}{parts:List (Nat×Operand)}{ps:List (Nat×Value)}{css:List (List Value)}{X:List α}(b:P.underlying t=some (.slice e))(d:ZeroOk P e T z bytes)
 (j:(parts.map fun x=>(x.1,ev l x.2))=ps) (a:ps.map (fun p=>(p.1,p.2.cells))=css.zipIdx.map (fun x=>(x.2,x.1.toArray))) (k: ∀ (i:Nat) (c:List Value) (x:α),css[i]? =some c→X[i]? =some x→T.rep R c x)
 (n:css.length=X.length) (o:X.length=m) (hbig:m*T.size≤16777216):Eff P ρ ⟨dst,.buildSlice t m parts.toArray,ty,pos,after,g⟩ l R O fun v R' O'=>O'=O∧phR (tSl true T) X v R':=
 Eff.frzT ((z8a b d (by rw [List.map_toArray];exact congrArg List.toArray j) a k n o hbig).mono fun v R' O' _ ⟨q,r,f,s,h⟩=>by subst q;exact⟨r,f,s,h⟩)
abbrev okQ (a b:Int):Prop:=0≤a∧a≤9223372036854775807∧1≤b
abbrev okR (a b:Int):Prop:=0≤a∧1≤b
end more
end GV
end Go.Proofs.YtkkcidhcfkmbjaaGreatDoor

namespace Go.Proofs.YtkkcidhcfkmbjaaGreatDoor
namespace GV
def z7c(φs:List (List Value→Value→RH→Prop))(k:Nat):List Value→Value→RH→Prop:=φs.getD k fun _ _ _=>True
def z5y(os:List Oper)(E:List Nat)(l:Nat→Value):List Value:=E.map fun e=>match uu os e with|some d=>l d|none=>undef
def zbn(E:List Nat)(listed:Array Bool):List Bool:=E.map fun e=>listed.getD e false
def zmt(os:List Oper)(φs:List (List Value→Value→RH→Prop))(es:List Value)(l:Nat→Value)(R:RH):List Go.Edge→Prop
 | []=>True
 |e::r=>(match uu os e.on with|some d=>Region.binds .any e=true→z7c φs e.on es (l d) R|none=>True)∧zmt os φs es l R r
def kn(os:List Oper)(E:List Nat)(i:Nat)(o:Oper)(fl:List Bool):Bool:=
 (E.zip fl).all fun x=>(!(forced os o i).contains x.1||x.2)&&(match os[x.1]? with|some oe=> !(forced os oe x.1).contains i|| !x.2|none=>true)
def zmp(os:List Oper)(E:List Nat)(k:Nat)(o:Oper)(p:Nat):Bool:=match E[p]? with|some e=>Nat.beq e k||(forced os o k).contains e|none=>true
def zev(o:Oper)(es:List Value)(p:Nat)(v:Value):List Value:=match o.dst with|some _=>es.set p v|none=>es
def agB(os:List Oper)(i s:Nat):Bool:=bif (z7d os).contains s then os.zipIdx.any (fun x=>match x.1.dst with|some d=>Nat.beq d s&& !((forced os x.1 x.2).contains i)|none=>false) else false
def AgI(os:List Oper)(i:Nat)(l0 l:Nat→Value):Prop:= ∀ s,agB os i s=false→l s=l0 s
def Skp(R:RH)(O:List Frag)(φ:Value→RH→List Frag→Prop):Prop:= ∀ A w,Holds R (O++A) w→ ∃ R' O',RH.le R R'∧Holds R' (O'++A) w∧φ undef R' O'
def zpb(P:Program)(ρ:Option Nat)(os:List Oper)(o:Oper)(l:Nat→Value)(R:RH)(O:List Frag)(φ:Value→RH→List Frag→Prop):Prop:=
 match o.guard with
 |none=>Eff P ρ o l R O φ
 |some (j,want)=> ∃ s,uu os j=some s∧((∃ b,l s= .bool b∧(b=want→Eff P ρ o l R O φ)∧(b≠want→Skp R O φ))∨(l s=undef∧Skp R O φ))
section defs
variable (P : Program) (ρ : Option Nat) (os : List Oper) (E : List Nat) (φs : List (List Value → Value → RH → Prop)) (W : List Bool → List Value → RH → List Frag → Prop) (l0 : Nat → Value) (R0 : RH)
def zqf(k:Nat)(o:Oper):Prop:= ∀ l R fl O,RH.le R0 R→AgI os k l0 l→zmt os φs (z5y os E l) l R o.after.toList→kn os E k o fl=true→W fl (z5y os E l) R O→
 zpb P ρ os o l R O fun v R' O'=>O'=O∧z7c φs k (z5y os E l) v R'
def zsu(k:Nat)(o:Oper)(p:Nat):Prop:= ∀ l R fl O,RH.le R0 R→AgI os k l0 l→zmt os φs (z5y os E l) l R o.after.toList→kn os E k o fl=true→fl.getD p true=false→W fl (z5y os E l) R O→
 zpb P ρ os o l R O fun v R' O'=>z7c φs k (zev o (z5y os E l) p v) v R'∧W (fl.set p true) (zev o (z5y os E l) p v) R' O'
def zjo:Nat→List Oper→Prop
 |_,[]=>True
 |k,o::r=>(match E.idxOf? k with|some p=>zsu P ρ os E φs W l0 R0 k o p|none=>zqf P ρ os E φs W l0 R0 k o)∧zjo (k+1) r
def FSt:Nat→List Oper→Prop
 |_,[]=>True
 |k,o::r=>(∀ es es' v R,(∀ p,zmp os E k o p=true→es.getD p undef=es'.getD p undef)→z7c φs k es v R→z7c φs k es' v R)∧FSt (k+1) r
def zf4(n:Nat):Bool:=
 (os.zipIdx.all fun(o,i)=>(match o.dst with|some d=>Nat.blt d n|none=>E.contains i))&&decide (z7d os).Nodup&&
 (os.zipIdx.all fun(o,i)=>o.after.all fun e=> !Region.binds .any e||Nat.blt e.on i)&&decide E.Nodup&&E.all fun e=>Nat.blt e os.length
def zoe(K:List (Nat×Value)→Prop):List Oper→Prop
 | []=>K []
 |o::r=>match o.dst with
  |none=>zoe K r
  |some d=> ∀ v,zoe (fun acc=>K ((d,v)::acc)) r
def look(acc:List (Nat×Value))(d:Nat):Value:=match acc with
 | []=>undef
 |(e,v)::r=>bif Nat.beq e d then v else look r d
def esA(acc:List (Nat×Value)):List Value:=E.map fun e=>match uu os e with|some d=>look acc d|none=>undef
def zmy(es:List Value)(acc:List (Nat×Value))(R:RH)(K:Prop):Nat→List Oper→Prop
 |_,[]=>K
 |k,o::r=>match o.dst with
  |none=>zmy es acc R K (k+1) r
  |some d=>z7c φs k es (look acc d) R→zmy es acc R K (k+1) r
end defs
section free
variable {P : Program} {ρ : Option Nat} {n : Nat} {Q : Po} {D : List Nat} {os : List Oper} {E : List Nat} {φs : List (List Value → Value → RH → Prop)} {W : List Bool → List Value → RH → List Frag → Prop} {l0 : Nat → Value} {R0 : RH} {O : List Frag}
theorem ze7: ∀ (r:List Oper) (k:Nat),zjo P ρ os E φs W l0 R0 k r→ ∀ (i:Nat) (o:Oper),r[i]? =some o→(match E.idxOf? (k+i) with|some p=>zsu P ρ os E φs W l0 R0 (k+i) o p|none=>zqf P ρ os E φs W l0 R0 (k+i) o)
 | [],k,_,i,o,h=>by simp at h
 |o'::r,k,a,i,o,h=>by
  cases i with
  |zero=>simp at h;subst h;exact a.1
  |succ i=>
   have:=ze7 r (k+1) a.2 i o (by simpa using h)
   rwa [show k+1+i=k+(i+1) from by omega] at this
theorem zjy: ∀ (r:List Oper) (k:Nat),FSt os E φs k r→ ∀ (i:Nat) (o:Oper),r[i]? =some o→ ∀ es es' v R,(∀ p,zmp os E (k+i) o p=true→es.getD p undef=es'.getD p undef)→z7c φs (k+i) es v R→z7c φs (k+i) es' v R
 | [],k,_,i,o,h=>by simp at h
 |o'::r,k,a,i,o,h=>by
  cases i with
  |zero=>simp at h;subst h;exact a.1
  |succ i=>
   have:=zjy r (k+1) a.2 i o (by simpa using h)
   rwa [show k+1+i=k+(i+1) from by omega] at this
theorem zjt{es:List Value}{l:Nat→Value}{R:RH}: ∀ (r:List Go.Edge),(∀ e∈r,Region.binds .any e=true→ ∀ d,uu os e.on=some d→z7c φs e.on es (l d) R)→zmt os φs es l R r
 | [],_=>trivial
 |e::r,h=>⟨by
  cases hd:uu os e.on with
  |none=>trivial
  |some d=>exact fun a=>h e (List.mem_cons_self ..) a d hd,zjt r fun e' he'=>h e' (List.mem_cons_of_mem _ he')⟩
theorem zb1(h:zf4 os E n=true):(∀ (i:Nat) o,os[i]? =some o→(∀ d,o.dst=some d→d<n)∧(o.dst=none→i∈E))∧(z7d os).Nodup∧
 (∀ (i:Nat) o,os[i]? =some o→ ∀ e∈o.after,Region.binds .any e=true→e.on<i)∧E.Nodup∧ ∀ e∈E,e<os.length:=by
 simp only [zf4,Bool.and_eq_true,List.all_eq_true,decide_eq_true_eq] at h
 obtain⟨⟨⟨⟨g,j⟩,k⟩,l⟩,m⟩:=h
 have mem: ∀ (i:Nat) o,os[i]? =some o→(o,i)∈os.zipIdx:=fun i o a=>by
  rw [List.mem_iff_getElem?];exact⟨i,by rw [List.getElem?_zipIdx,a];simp⟩
 refine⟨fun i o a=>?_,j,fun i o a e c p=>?_,l,fun e c=>by simpa using m e c⟩
 ·have b:=g _ (mem i o a)
  simp only at b
  refine⟨fun d f=>?_,fun f=>?_⟩
  ·rw [f] at b;simpa using b
  ·rw [f] at b;simpa using b
 ·have:=k _ (mem i o a)
  simp only [Array.all_eq_true_iff_forall_mem] at this
  simpa [p] using this e c
structure FJ (os:List Oper) (E:List Nat) (φs:List (List Value→Value→RH→Prop)) (W:List Bool→List Value→RH→List Frag→Prop) (l0:Nat→Value) (R0:RH) (n:Nat) (D:List Nat) (listed:Array Bool) (a:Act) (w:World):Prop where
 ex: ∃ l R O,Fr n l D a∧Holds R (O++D.map z1n) w∧RH.le R0 R∧W (zbn E listed) (z5y os E l) R O∧Agree os l0 l∧(∀ i d,listed.getD i false=true→uu os i=some d→z7c φs i (z5y os E l) (l d) R)∧(∀ i d,listed.getD i false=false→uu os i=some d→l d=l0 d)
 closed:z6r os listed
theorem zj2{E:List Nat}{i:Nat}(h:E.idxOf? i=none):i∉E:=by
 intro a
 have:=List.idxOf?_eq_none_iff.1 h
 exact this a
theorem zi2{E:List Nat}{i p:Nat}(h:E.idxOf? i=some p):E[p]? =some i:=by
 have h':=h
 unfold List.idxOf? at h'
 obtain⟨a,b,_⟩:=List.findIdx?_eq_some_iff_getElem.1 h'
 rw [List.getElem?_eq_getElem a]
 have:E[p]=i:=by simpa using b
 rw [this]
theorem zrn{listed:Array Bool}(c:z6r os listed){i:Nat}{o:Oper}(l:os[i]? =some o)(a:listed.getD i false=false)(hdep: ∀ e∈o.after,Region.binds .any e=true→listed.getD e.on false=true):kn os E i o (zbn E listed)=true:=by
 unfold kn zbn
 rw [List.all_eq_true]
 rintro⟨e,b⟩ d
 have j:b=listed.getD e false:=by
  rw [List.mem_iff_getElem?] at d
  obtain⟨p,f⟩:=d
  rw [List.getElem?_zip_eq_some] at f
  obtain⟨k,g⟩:=f
  rw [List.getElem?_map,k] at g
  simpa using g.symm
 subst j
 simp only [Bool.and_eq_true,Bool.or_eq_true,Bool.not_eq_true']
 refine⟨?_,?_⟩
 ·by_cases h:(forced os o i).contains e=true
  ·exact .inr (z0j c hdep e (by simpa using h))
  ·exact .inl (by simpa using h)
 ·cases he:os[e]? with
  |none=>rfl
  |some oe=>
   simp only [Bool.or_eq_true,Bool.not_eq_true']
   by_cases h:listed.getD e false=true
   ·left
    cases hf:(forced os oe e).contains i with
    |false=>rfl
    |true=>
     have:=z0j c (c e oe he h) i (by simpa using hf)
     rw [this] at a;cases a
   ·exact .inr (by simpa using h)
theorem zcp{l:Nat→Value}{i d:Nat}{v:Value}(b:(z7d os).Nodup)(hi:i∉E)(c:uu os i=some d):z5y os E (upd l d v)=z5y os E l:=by
 unfold z5y
 refine List.map_congr_left fun e f=>?_
 cases h:uu os e with
 |none=>rfl
 |some d'=>
  have a:d'≠d:=fun e'=>by subst e';exact hi (z8g b c h▸f)
  show upd l d v d'=l d'
  unfold upd
  cases hb:Nat.beq d' d
  ·rfl
  ·exact absurd (Nat.eq_of_beq_eq_true hb) a
theorem zln{l:Nat→Value}{i p d:Nat}{v:Value}(g:(z7d os).Nodup)(k:E.Nodup)(b:E[p]? =some i)(f:uu os i=some d):z5y os E (upd l d v)=(z5y os E l).set p v:=by
 unfold z5y
 apply List.ext_getElem?
 intro j
 rw [List.getElem?_set,List.getElem?_map]
 have a:p<E.length:=(List.getElem?_eq_some_iff.1 b).1
 by_cases e:p=j
 ·subst e
  rw [if_pos rfl,if_pos (by simpa using a),b]
  simp [f,upd]
 ·rw [if_neg e,List.getElem?_map]
  cases hj:E[j]? with
  |none=>rfl
  |some e'=>
   simp only [Option.map_some,Option.some.injEq]
   have c:e'≠i:=fun h=>by
    subst h
    have m:=(List.getElem?_eq_some_iff.1 hj).1
    exact e ((List.getElem?_inj a k).1 (b.trans hj.symm))
   cases h:uu os e' with
   |none=>rfl
   |some d'=>
    have:d'≠d:=fun h'=>by subst h';exact c (z8g g h f)
    show upd l d v d'=l d'
    unfold upd
    cases hb:Nat.beq d' d
    ·rfl
    ·exact absurd (Nat.eq_of_beq_eq_true hb) this
theorem zj9{listed:Array Bool}{i:Nat}(hi:i∉E):zbn E (listed.setIfInBounds i true)=zbn E listed:=
 List.map_congr_left fun e a=>getD_set_ne false (fun h=>hi (h▸a))
theorem zeh{listed:Array Bool}{i p:Nat}(c:i<listed.size)(d:E.Nodup)(b:E[p]? =some i):zbn E (listed.setIfInBounds i true)=(zbn E listed).set p true:=by
 unfold zbn
 apply List.ext_getElem?
 intro j
 have a:p<E.length:=(List.getElem?_eq_some_iff.1 b).1
 rw [List.getElem?_set,List.getElem?_map]
 by_cases e:p=j
 ·subst e
  rw [if_pos rfl,if_pos (by simpa using a),b]
  simp only [Option.map_some]
  rw [z1u c]
 ·rw [if_neg e,List.getElem?_map]
  cases hj:E[j]? with
  |none=>rfl
  |some e'=>
   simp only [Option.map_some,Option.some.injEq]
   refine getD_set_ne false fun h=>?_
   subst h
   exact e ((List.getElem?_inj a d).1 (b.trans hj.symm))
theorem zkk{es:List Value}{p q:Nat}{v:Value}(h:p≠q):(es.set p v).getD q undef=es.getD q undef:=by
 simp [List.getD_eq_getElem?_getD,h]
theorem zgf{listed:Array Bool}{i:Nat}{o:Oper}(g:z6r os listed)(h:os[i]? =some o)(a:listed.getD i false=false)(hdep: ∀ e∈o.after,Region.binds .any e=true→listed.getD e.on false=true):z6r os (listed.setIfInBounds i true):=by
 intro k o' ho' c e d f
 have b: ∀ j,listed.getD j false=true→(listed.setIfInBounds i true).getD j false=true:=fun j hj'=>by
  by_cases e':j=i
  ·subst e';rw [hj'] at a;cases a
  ·rw [getD_set_ne false (Ne.symm e')];exact hj'
 by_cases ek:k=i
 ·subst ek
  rw [h] at ho'
  obtain rfl:=Option.some.inj ho'
  exact b _ (hdep e d f)
 ·rw [getD_set_ne false (Ne.symm ek)] at c
  exact b _ (g k o' ho' c e d f)
theorem zcm{ops:Array Oper}{l:Nat→Value}{a:Act}{j s:Nat}(d:Fr n l D a)(c:guardSlot ops j=some s)(f:l s=undef):yielded ops a.tmps j=none:=by
 unfold yielded
 unfold guardSlot at c
 rw [c]
 have b:=d.get s
 rw [f,Array.getD_eq_getD_getElem?] at b
 simp only [Option.bind_some]
 cases h:a.tmps[s]? with
 |none=>rfl
 |some v=>
  rw [h] at b
  have e:v=undef:=b
  rw [e];rfl
theorem z9y{o:Oper}{φ:Value→RH→List Frag→Prop}{K:Act→World→Prop}{Q':Exit→Act→World→Prop}{a:Act}{w:World}{A:List Frag}{l:Nat→Value}{R:RH}{O:List Frag}
 (z: ∀ (i:Nat) o,os[i]? =some o→(∀ d,o.dst=some d→d<n)∧(o.dst=none→i∈E)) (F: ∀ t,o.dst=some t→t<n) (k:Fr n l D a) (m:Holds R (O++A) w) (h:zpb P ρ os o l R O φ)
 (p: ∀ v R' O' w',R.le R'→Holds R' (O'++A) w'→φ v R' O'→K (a.put o.dst v) w'):
 if Region.wanted o (yielded os.toArray a.tmps)=true then o.wpIn (wide ρ) 0 P a w K Q' else(∀ f,o.about P w a.eval=some f→(wide ρ).fn f)∧K (a.put o.dst undef) w:=by
 unfold zpb at h
 cases hg:o.guard with
 |none=>rw [hg] at h;rw [if_pos (wanted_none hg)];exact z3g k m h p
 |some g=>
  obtain⟨j,want⟩:=g
  rw [hg] at h
  obtain⟨s,c,h⟩:=h
  have hs':guardSlot os.toArray j=some s:=by
   unfold guardSlot;unfold uu at c;simpa using c
  have skip:Skp R O φ→K (a.put o.dst undef) w:=fun e=>by
   obtain⟨R',O',q,hh',B⟩:=e A w m
   exact p undef R' O' w q hh' B
  rcases h with⟨b,r,u,e⟩|⟨r,e⟩
  ·have x:s<n:=by
    unfold uu at c
    cases hj:os[j]? with
    |none=>rw [hj] at c;cases c
    |some oj=>rw [hj] at c;exact(z j oj hj).1 s (by simpa using c)
   have y:yielded os.toArray a.tmps j=some b:=z6g k hs' x r
   have C:Region.wanted o (yielded os.toArray a.tmps)=(b==want):=by
    simp only [Region.wanted,hg,y]
    cases b<;>cases want<;>rfl
   rw [C]
   by_cases hb:b=want
   ·rw [if_pos (by simp [hb])];exact z3g k m (u hb) p
   ·rw [if_neg (by simpa using hb)];exact⟨fun _ _=>trivial,skip (e hb)⟩
  ·have u:=zcm k hs' r
   rw [if_neg (by simp [Region.wanted,hg,u])]
   exact⟨fun _ _=>trivial,skip e⟩
theorem zlo(Y:zf4 os E n=true)(hmono: ∀ k es v R R',RH.le R R'→z7c φs k es v R→z7c φs k es v R')(hW: ∀ fl es R R' O,RH.le R R'→W fl es R O→W fl es R' O)(Z:FSt os E φs 0 os)(hobl:zjo P ρ os E φs W l0 R0 0 os)
 {listed:Array Bool} {a:Act} {w:World} {i:Nat} {o:Oper} (al:listed.size=os.length) (hi:os[i]? =some o)
 (H:FJ os E φs W l0 R0 n D listed a w) (I:listed.getD i true=false) (hdep: ∀ e∈o.after,Region.binds .any e=true→listed.getD e.on false=true):
 wpOpIn (wide ρ) 0 P os.toArray (lift n Q) i (FJ os E φs W l0 R0 n D (listed.setIfInBounds i true)) a w:=by
 obtain⟨s1,X,s3,s4,s5⟩:=zb1 Y
 obtain⟨⟨l,R,O',J,hh,m,C,F,hφ,r⟩,f⟩:=H
 obtain⟨hdst,ac⟩:=s1 i o hi
 have am:i<os.length:=(List.getElem?_eq_some_iff.1 hi).1
 have ad:os.toArray[i]? =some o:=by simp [hi]
 have hun':listed.getD i false=false:=by
  rw [Array.getD_eq_getD_getElem?,Array.getElem?_eq_getElem (by omega)] at I⊢
  simpa using I
 have K:=zrn (E:=E) f hi hun' hdep
 have L:zmt os φs (z5y os E l) l R o.after.toList:=zjt _ fun e M N d' hd'=>hφ e.on d' (hdep e (by simpa using M) N) hd'
 have hst':=ze7 os 0 hobl i o hi
 rw [Nat.zero_add] at hst'
 have hlist: ∀ k,k≠i→(listed.setIfInBounds i true).getD k false=listed.getD k false:=fun k c=>getD_set_ne false (Ne.symm c)
 have hcl':=zgf f hi hun' hdep
 have hagree: ∀ d v,uu os i=some d→Agree os l0 (upd l d v):=fun d v b s G=>by
  have g:s≠d:=fun e=>by subst e;have:=zfo b;simp [this] at G
  have:upd l d v s=l s:=by
   unfold upd
   cases N:Nat.beq s d
   ·rfl
   ·exact absurd (Nat.eq_of_beq_eq_true N) g
  rw [this];exact F s G
 have hother: ∀ d v k d',uu os i=some d→k≠i→uu os k=some d'→upd l d v d'=l d':=fun d v k d' b c hd'=>by
  have g:d'≠d:=fun e=>by subst e;exact c (z8g X hd' b)
  unfold upd
  cases N:Nat.beq d' d
  ·rfl
  ·exact absurd (Nat.eq_of_beq_eq_true N) g
 have hkeep: ∀ d v,uu os i=some d→ ∀ k d',(listed.setIfInBounds i true).getD k false=false→uu os k=some d'→upd l d v d'=l0 d':=fun d v b k d' c hd'=>by
  by_cases e:k=i
  ·subst e;rw [z1u (by omega)] at c;cases c
  ·rw [hother d v k d' b e hd'];exact r k d' (by rw [hlist k e] at c;exact c) hd'
 have hkeep0: ∀ k d',(listed.setIfInBounds i true).getD k false=false→uu os k=some d'→l d'=l0 d':=fun k d' c hd'=>by
  by_cases e:k=i
  ·subst e;rw [z1u (by omega)] at c;cases c
  ·exact r k d' (by rw [hlist k e] at c;exact c) hd'
 have hagI:AgI os i l0 l:=fun s G=>by
  by_cases hm:(z7d os).contains s=true
  ·have hm':s∈z7d os:=by simpa using hm
   obtain⟨oj,af,S⟩:=List.mem_filterMap.1 hm'
   obtain⟨j,H⟩:=List.mem_iff_getElem?.1 af
   unfold agB at G
   rw [hm] at G
   simp only [cond_true,List.any_eq_false] at G
   have h1:=G (oj,j) (by rw [List.mem_iff_getElem?];exact⟨j,by rw [List.getElem?_zipIdx,H];simp⟩)
   simp only [S] at h1
   have h2:(forced os oj j).contains i=true:=by
    cases hc:(forced os oj j).contains i with
    |true=>rfl
    |false=>rw [hc] at h1;simp at h1
   cases hjl:listed.getD j false with
   |true=>
    have:=z0j f (f j oj H hjl) i (by simpa using h2)
    rw [this] at hun';cases hun'
   |false=>exact r j s hjl (by simp [uu,H,S])
  ·exact F s (by simpa using hm)
 unfold wpOpIn
 rw [ad]
 cases hE:E.idxOf? i with
 |none=>
  rw [hE] at hst'
  have y:=zj2 hE
  have ah: ∃ d,o.dst=some d:=by
   cases u:o.dst with
   |none=>exact absurd (ac u) y
   |some d=>exact⟨d,rfl⟩
  obtain⟨d,u⟩:=ah
  have b:uu os i=some d:=by simp [uu,hi,u]
  refine z9y (A:=D.map z1n) s1 hdst J hh (hst' l R _ O' m hagI L K C) ?_
  rintro v R' O'' w' hle' hh' ⟨rfl,B⟩
  have hput:Fr n (upd l d v) D (a.put o.dst v):=by have:=J.put (d:=o.dst) (fun t T=>hdst t T) v;rw [u] at this⊢;exact this
  refine⟨⟨upd l d v,R',O'',hput,hh',m.trans hle',?_,hagree d v b,fun k d' c hd'=>?_,hkeep d v b⟩,hcl'⟩
  ·rw [zj9 y,zcp X y b];exact hW _ _ _ _ _ hle' C
  ·rw [zcp X y b]
   by_cases e:k=i
   ·subst e;rw [b] at hd';cases hd'
    have:upd l d v d=v:=by simp [upd]
    rw [this];exact B
   ·rw [hother d v k d' b e hd']
    exact hmono _ _ _ _ _ hle' (hφ k d' (by rw [hlist k e] at c;exact c) hd')
 |some p=>
  rw [hE] at hst'
  have B:=zi2 hE
  have hplt:p<E.length:=(List.getElem?_eq_some_iff.1 B).1
  have ai:(zbn E listed).getD p true=false:=by
   unfold zbn
   rw [List.getD_eq_getElem?_getD,List.getElem?_map,B]
   simpa using hun'
  have hold: ∀ (es':List Value) (R':RH),RH.le R R'→(∀ q,q≠p→(z5y os E l).getD q undef=es'.getD q undef)→ ∀ k d',k≠i→listed.getD k false=true→uu os k=some d'→z7c φs k es' (l d') R':=by
   intro es' R' hle' z k d' c U hd'
   have hok': ∃ ok,os[k]? =some ok:=by
    cases h:os[k]? with
    |none=>simp [uu,h] at hd'
    |some ok=>exact⟨ok,rfl⟩
   obtain⟨ok,hok'⟩:=hok'
   have:=zjy os 0 Z k ok hok' (z5y os E l) es' (l d') R'
   rw [Nat.zero_add] at this
   refine this (fun q x=>?_) (hmono _ _ _ _ _ hle' (hφ k d' U hd'))
   by_cases e:q=p
   ·subst e
    exfalso
    unfold zmp at x
    rw [B] at x
    simp only [Bool.or_eq_true] at x
    rcases x with x|x
    ·exact c (Nat.eq_of_beq_eq_true x).symm
    ·have:=z0j f (f k ok hok' U) i (by simpa using x)
     rw [this] at hun';cases hun'
   ·exact z q e
  refine z9y (A:=D.map z1n) s1 hdst J hh (hst' l R _ O' m hagI L K ai C) ?_
  rintro v R' O'' w' hle' hh' ⟨V,hw'⟩
  cases u:o.dst with
  |none=>
   have b:uu os i=none:=by simp [uu,hi,u]
   have M: ∀ es,zev o es p v=es:=fun es=>by simp [zev,u]
   rw [M] at hw'
   refine⟨⟨l,R',O'',?_,hh',m.trans hle',?_,F,fun k d' c hd'=>?_,hkeep0⟩,hcl'⟩
   ·have:=J.put (d:=o.dst) (fun t T=>hdst t T) v;rw [u] at this;exact this
   ·rw [zeh (by omega) s4 B];exact hw'
   ·have g:k≠i:=fun e=>by subst e;rw [b] at hd';cases hd'
    exact hold _ _ hle' (fun _ _=>rfl) k d' g (by rw [hlist k g] at c;exact c) hd'
  |some d=>
   have b:uu os i=some d:=by simp [uu,hi,u]
   have hput:Fr n (upd l d v) D (a.put (some d) v):=by have:=J.put (d:=o.dst) (fun t T=>hdst t T) v;rw [u] at this;exact this
   have z:=zln (l:=l) (v:=v) X s4 B b
   have M: ∀ es,zev o es p v=es.set p v:=fun es=>by simp [zev,u]
   rw [M] at hw' V
   refine⟨⟨upd l d v,R',O'',hput,hh',m.trans hle',?_,hagree d v b,fun k d' c hd'=>?_,hkeep d v b⟩,hcl'⟩
   ·rw [zeh (by omega) s4 B,z];exact hw'
   ·rw [z]
    by_cases e:k=i
    ·subst e;rw [b] at hd';cases hd'
     have:upd l d v d=v:=by simp [upd]
     rw [this];exact V
    ·rw [hother d v k d' b e hd']
     exact hold _ _ hle' (fun q x=>(zkk (Ne.symm x)).symm) k d' e (by rw [hlist k e] at c;exact c) hd'
theorem zd2{l:Nat→Value}: ∀ (r:List Oper) (K:List (Nat×Value)→Prop),zoe K r→K (r.filterMap fun o=>o.dst.map fun d=>(d,l d))
 | [],K,h=>h
 |o::r,K,h=>by
  unfold zoe at h
  cases hd:o.dst with
  |none=>rw [hd] at h;simpa [List.filterMap_cons,hd] using zd2 (l:=l) r K h
  |some d=>rw [hd] at h;simpa [List.filterMap_cons,hd] using zd2 (l:=l) r _ (h (l d))
theorem zbu{l:Nat→Value}{d:Nat}: ∀ (r:List Oper),d∈r.filterMap (·.dst)→look (r.filterMap fun o=>o.dst.map fun d=>(d,l d)) d=l d
 | [],h=>by simp at h
 |o::r,h=>by
  cases hd:o.dst with
  |none=>
   simp only [List.filterMap_cons,hd,Option.map_none] at h⊢
   exact zbu r h
  |some d'=>
   simp only [List.filterMap_cons,hd,Option.map_some] at h⊢
   unfold look
   cases hb:Nat.beq d' d
   ·have a:d'≠d:=fun e=>by subst e;simp at hb
    rcases List.mem_cons.1 h with e|h
    ·exact absurd e.symm a
    ·exact zbu r h
   ·rw [Nat.eq_of_beq_eq_true hb];rfl
theorem zrf{l:Nat→Value}:esA os E (os.filterMap fun o=>o.dst.map fun d=>(d,l d))=z5y os E l:=by
 unfold esA z5y
 refine List.map_congr_left fun e _=>?_
 cases h:uu os e with
 |none=>rfl
 |some d=>exact zbu os (zfo h)
theorem zc4{es:List Value}{acc:List (Nat×Value)}{R:RH}{K:Prop}: ∀ (r:List Oper) (k:Nat),zmy φs es acc R K k r→(∀ i o d,r[i]? =some o→o.dst=some d→z7c φs (k+i) es (look acc d) R)→K
 | [],k,h,_=>h
 |o::r,k,h,hφ=>by
  have hφ': ∀ i o' d,r[i]? =some o'→o'.dst=some d→z7c φs (k+1+i) es (look acc d) R:=fun i o' d hi hd'=>by
   have:=hφ (i+1) o' d (by simpa using hi) hd';rwa [show k+(i+1)=k+1+i from by omega] at this
  unfold zmy at h
  cases hd:o.dst with
  |none=>rw [hd] at h;exact zc4 r (k+1) h hφ'
  |some d=>rw [hd] at h;exact zc4 r (k+1) (h (hφ 0 o d rfl hd)) hφ'
def ztt(φs:List (List Value→Value→RH→Prop)):Prop:= ∀ k es v R R',RH.le R R'→z7c φs k es v R→z7c φs k es v R'
def zqj(φ:List Value→Value→RH→Prop):Prop:= ∀ es v R R',RH.le R R'→φ es v R→φ es v R'
def zj0:List (List Value→Value→RH→Prop)→Prop
 | []=>True
 |φ::r=>zqj φ∧zj0 r
theorem zhs: ∀ {φs:List (List Value→Value→RH→Prop)},zj0 φs→ztt φs
 | [],_=>fun k es v R R' _ _=>by simp [z7c]
 |φ::r,h=>fun k es v R R' a b=>by
  cases k with
  |zero=>exact h.1 es v R R' a b
  |succ k=>exact zhs (φs:=r) h.2 k es v R R' a b
theorem qj{φ:Value→RH→Prop}(h:zgl φ):zqj (fun _=>φ):=fun _ v R R' a k=>h v R R' a k
theorem z6i{id:Nat}(E:List Nat)(φs:List (List Value→Value→RH→Prop))(W:List Bool→List Value→RH→List Frag→Prop)(K:P.follows .mixedOrders=true)(q:zf4 os E n=true)(hmono:zj0 φs)
 (L: ∀ fl es R R' O,RH.le R R'→W fl es R O→W fl es R' O) (s:FSt os E φs 0 os) (M: ∀ es,W (E.map fun _=>false) es R0 O) (hobl:zjo P ρ os E φs W l0 R0 0 os)
 (hend: ∀ R,RH.le R0 R→zoe (fun acc=>zmy φs (esA os E acc) acc R (∀ O',W (E.map fun _=>true) (esA os E acc) R O'→ ∃ J F,O'.Perm (J++F)∧wo P ρ n #[] Q [] (z0z l0 acc) D R F) 0 os) os):wg P ρ n (.region id os.toArray true) Q l0 D R0 O:=by
 intro a w t u
 refine wpIn_region_any K ?_
 obtain⟨X,Y,N,Z,S⟩:=zb1 q
 have hmono':=zhs hmono
 have g: ∀ (k:Nat),(Array.replicate os.toArray.size false).getD k false=false:=fun k=>by
  rw [Array.getD_eq_getD_getElem?,Array.getElem?_replicate];split<;>rfl
 have hready: ∀ (listed:Array Bool),listed.size=os.length→Region.ready .any os.toArray listed=[]→ ∀ k,k<os.length→listed.getD k false=true:=by
  intro listed b f k
  induction k using Nat.strongRecOn with
  |_ k ih=>
   intro j
   have m:os.toArray[k]? =some (os[k]'j):=by simp [j]
   cases hb:listed.getD k false with
   |true=>rfl
   |false=>
    have:k∈Region.ready .any os.toArray listed:=mem_ready.2 ⟨by
     rw [Array.getD_eq_getD_getElem?,Array.getElem?_eq_getElem (by omega)] at hb⊢
     exact hb,_,m,fun e v hbind=>by
      have y:=N k _ (by simp [j]) e v hbind
      exact ih e.on y (by omega)⟩
    rw [f] at this
    cases this
 have hdone: ∀ (listed:Array Bool) (a:Act) (w:World),listed.size=os.length→FJ os E φs W l0 R0 n D listed a w→Region.ready .any os.toArray listed=[]→lift n Q .normal a w:=by
  intro listed a w b T f
  have hall:=hready listed b f
  obtain⟨⟨l,R,O',t,u,z,r,A,hφ,_⟩,_⟩:=T
  have h:zbn E listed=E.map fun _=>true:=List.map_congr_left fun e v=>hall e (S e v)
  rw [h] at r
  have G:=zd2 (l:=l) os _ (hend R z)
  rw [zrf] at G
  have U:=zc4 os 0 G (fun i o d hi H=>by
   rw [Nat.zero_add,zbu os (List.mem_filterMap.2 ⟨o,List.mem_of_getElem? hi,H⟩)]
   exact hφ i d (hall i (List.getElem?_eq_some_iff.1 hi).1) (by simp [uu,hi,H])) O' r
  obtain⟨J,F,p,I⟩:=U
  rw [←zhm A] at I
  exact I a w t (z90 p u)
 have main: ∀ (fuel:Nat) (listed:Array Bool) (a:Act) (w:World),listed.size=os.length→((List.range os.length).filter fun i=> !listed.getD i true).length≤fuel→FJ os E φs W l0 R0 n D listed a w→
  wpAnyIn (wide ρ) 0 P .any os.toArray (lift n Q) fuel listed a w:=by
  intro fuel
  induction fuel with
  |zero=>
   intro listed a w b B p
   have f:Region.ready .any os.toArray listed=[]:=by
    cases f:Region.ready .any os.toArray listed with
    |nil=>rfl
    |cons x xs=>
     have V:x∈Region.ready .any os.toArray listed:=by rw [f];exact List.mem_cons_self ..
     obtain⟨c,o,m,_⟩:=mem_ready.1 V
     have:x∈((List.range os.length).filter fun i=> !listed.getD i true):=by
      rw [List.mem_filter,List.mem_range]
      exact⟨by have:=(Array.getElem?_eq_some_iff.1 m).1;simpa using this,by rw [c];rfl⟩
     have:=List.length_pos_of_mem this
     omega
   exact⟨f,hdone listed a w b p f⟩
  |succ fuel ih=>
   intro listed a w b B p
   refine⟨hdone listed a w b p,fun i hi=>?_⟩
   obtain⟨c,o,m,hdep⟩:=mem_ready.1 hi
   have C:i<os.length:=by have:=(Array.getElem?_eq_some_iff.1 m).1;simpa using this
   refine wpOpIn_mono (fun a' w' h'=>ih _ a' w' (by simpa using b) ?_ h') (zlo q hmono' L s hobl b (by simpa using m) p c hdep)
   have hsub:((List.range os.length).filter fun k=> !(listed.setIfInBounds i true).getD k true)=(((List.range os.length).filter fun k=> !listed.getD k true).filter fun k=>k !=i):=by
    rw [List.filter_filter]
    refine List.filter_congr fun k _=>?_
    by_cases e:k=i
    ·subst e;rw [z1u (by omega)];simp
    ·rw [getD_set_ne true (Ne.symm e)];simp [e]
   rw [hsub]
   have hmem:i∈((List.range os.length).filter fun k=> !listed.getD k true):=by
    rw [List.mem_filter,List.mem_range]
    exact⟨C,by rw [c];rfl⟩
   have:(((List.range os.length).filter fun k=> !listed.getD k true).filter fun k=>k !=i).length<((List.range os.length).filter fun k=> !listed.getD k true).length:=List.length_filter_lt_length_iff_exists.2 ⟨i,hmem,show¬((i !=i)=true) by simp⟩
   omega
 refine main _ _ a _ (by simp) (by
  refine Nat.le_trans (List.length_filter_le _ _) ?_
  simp) ⟨⟨l0,R0,O,t,z6n u,RH.le.refl _,?_,fun _ _=>rfl,fun i d hi=>(by rw [g] at hi;cases hi),fun _ _ _ _=>rfl⟩,fun k o' _ j=>by rw [g] at j;cases j⟩
 have h:zbn E (Array.replicate os.toArray.size false)=E.map fun _=>false:=List.map_congr_left fun e _=>g e
 rw [h];exact M _
theorem nu{o:Oper}{l:Nat→Value}{R:RH}{O O1:List Frag}{φ:Value→RH→List Frag→Prop}(a:O.Perm O1)(h:Eff P ρ o l R O1 φ):Eff P ρ o l R O φ:=fun A w b=>h A w (u6 b (a.append_right A))
theorem xw{o:Oper}{l:Nat→Value}{R:RH}{O O1:List Frag}{φ:Value→RH→Prop}(b:O.Perm O1)(h:Eff P ρ o l R O1 (fun v R' O'=>O'=O1∧φ v R')):Eff P ρ o l R O (fun v R' O'=>O'=O∧φ v R'):=fun A w c=>by
 refine z5t (h A w (u6 c (b.append_right A))) ?_
 rintro v w' ⟨R',O',a,hh',rfl,d⟩
 exact⟨R',O,a,u6 hh' (b.symm.append_right A),rfl,d⟩
theorem zmf{α:Type}{T:Ty α}{v u:Value}{X:List α}{i j:Nat}{y:α}(h:z2l T v X u i):z2l T v (X.set j y) u i:=let⟨b,off,a,c⟩:=h;⟨b,off,by rw [List.length_set];exact a,c⟩
theorem z3h{dst:Option Tmp}{ty:TypeId}{pos:String}{after:Array Go.Edge}{g:Option (Nat×Bool)}{l:Nat→Value}{R:RH}{O:List Frag}{α:Type}{T:Ty α}{t:TypeId}{x y:Operand}{f:Frag}{v u w:Value}{X:List α}{i j:Nat}{z:α}(a:TyOk P t T)(c:ORep T R f v X)(d:O[j]? =some f)(e:ev l x=u)(k:z2l T v X u i)(hi:i<X.length)
 (m:ev l y=w) (n:VRep T R w z):Eff P ρ ⟨dst,.store t x y,ty,pos,after,g⟩ l R O (fun _ R' O'=>R'=R∧ ∃ f',O'=O.set j f'∧ORep T R f' v (X.set i z)):=by
 obtain⟨b,off,o,rfl⟩:=k
 exact(zcs a c o d e hi m n).mono fun _ _ _ _ ⟨_,h⟩=>h
theorem z0u{i:Nat}{o:Oper}{fl:List Bool}{p:Prop}(h:kn os E i o fl=true)(k:kn os E i o fl=false):p:=by rw [k] at h;cases h
end free
end GV
end Go.Proofs.YtkkcidhcfkmbjaaGreatDoor
