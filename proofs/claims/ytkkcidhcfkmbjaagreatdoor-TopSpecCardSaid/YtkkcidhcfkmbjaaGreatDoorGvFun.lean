
import Derived.WalkKit
import Derived.RangeFuncLeaves
import Derived.RangeFuncCalls
import Derived.OrdersIn
import Derived.Test.YtkkcidhcfkmbjaaGreatDoorGvQt
set_option linter.unusedVariables false
set_option linter.unusedSimpArgs false
set_option linter.unusedSectionVars false
namespace Go.Proofs.YtkkcidhcfkmbjaaGreatDoor
namespace GV
abbrev Frag:=Nat→Option Obj
def zn7:Obj→Prop:=fun _=>True
def NF(lo:Nat)(w:World):Prop:= ∀ k o,lo≤k→w.heap[k]? =some o→zn7 o
structure RH where
 blk:Frag
 os:Os×Nat
 out:Array (Nat×ByteArray)
structure RH.le (a b:RH):Prop where
 blk: ∀ k o,a.blk k=some o→b.blk k=some o
 os:b.os=a.os
 out:b.out=a.out
theorem RH.le.refl(a:RH):RH.le a a:=⟨fun _ _ h=>h,rfl,rfl⟩
theorem RH.le.trans{a b c:RH}(h:RH.le a b)(k:RH.le b c):RH.le a c:=
 ⟨fun i o x=>k.blk i o (h.blk i o x),k.os.trans h.os,k.out.trans h.out⟩
structure Holds (R:RH) (O:List Frag) (w:World):Prop where
 ro: ∀ k o,R.blk k=some o→w.heap[k]? =some o
 own: ∀ f∈O,∀ k o,f k=some o→w.heap[k]? =some o∧R.blk k=none
 sep:O.Pairwise fun f g=> ∀ k,f k=none∨g k=none
 os:w.os=R.os.1∧NF R.os.2 w
 out:w.output=R.out
def single(b:Nat)(o:Obj):Frag:=fun k=>bif Nat.beq k b then some o else none
theorem single_same(b:Nat)(o:Obj):single b o b=some o:=by simp [single]
theorem zb0{b k:Nat}{o o':Obj}(h:single b o k=some o'):k=b∧o'=o:=by
 unfold single at h
 cases e:Nat.beq k b
 ·rw [e] at h;cases h
 ·rw [e] at h;simp at h;exact⟨Nat.eq_of_beq_eq_true e,h.symm⟩
theorem zad{b k:Nat}{o:Obj}(h:k≠b):single b o k=none:=by
 unfold single
 cases e:Nat.beq k b
 ·rfl
 ·exact absurd (Nat.eq_of_beq_eq_true e) h
def emp:Frag:=fun _=>none
def upd(l:Nat→Value)(d:Nat)(v:Value):Nat→Value:=fun i=>bif Nat.beq i d then v else l i
def ev(l:Nat→Value):Operand→Value
 | .tmp t=>l t
 | .const v=>v
 | .global g=> .pointer (some ⟨g,0,none⟩)
 | .func f=> .func (.func f) #[] #[]
def zry(l:Nat→Value):Option Nat→Value→Nat→Value
 |some d,v=>upd l d v
 |none,_=>l
theorem znn(l:Nat→Value)(d:Nat):upd l d (l d)=l:=by
 funext i
 unfold upd
 cases e:Nat.beq i d
 ·rfl
 ·rw [Nat.eq_of_beq_eq_true e];rfl
inductive DR:List Nat→List Deferred→Prop
 |nil:DR [] []
 |mark {D:List Nat} {ds:List Deferred} (r:Nat) (h:DR D ds):DR (r::D) ({target:= .collected r,args:= #[]}::ds)
 |quiet {D:List Nat} {ds:List Deferred} (c as_:Array Value) (h:DR D ds):DR D ({target:= .fn (.func 83) c,args:=as_}::ds)
structure Fr (n:Nat) (l:Nat→Value) (D:List Nat) (a:Act):Prop where
 size:a.tmps.size=n
 get: ∀ i,a.tmps.getD i undef=l i
 defers:DR D a.defers
theorem Fr.eval{n:Nat}{l:Nat→Value}{D:List Nat}{a:Act}(h:Fr n l D a):a.eval=ev l:=by
 funext x
 cases x with
 |tmp t=>exact h.get t
 |const v=>rfl
 |global g=>rfl
 |func f=>rfl
theorem Fr.put{n:Nat}{l:Nat→Value}{D:List Nat}{a:Act}(h:Fr n l D a){d:Option Nat}(c: ∀ t,d=some t→t<n)(v:Value):
 Fr n (zry l d v) D (a.put d v):=by
 cases d with
 |none=>exact h
 |some t=>
  have f:t<a.tmps.size:=h.size▸c t rfl
  refine⟨by simp [Act.put,h.size],fun i=>?_,h.defers⟩
  show (a.tmps.setIfInBounds t v).getD i undef=upd l t v i
  unfold upd
  cases e:Nat.beq i t
  ·have b:t≠i:=fun g=>by subst g;simp at e
   rw [show (bif false then v else l i)=l i from rfl,←h.get i]
   simp only [Array.getD_eq_getD_getElem?,Array.getElem?_setIfInBounds]
   rw [if_neg b]
  ·have hi:=Nat.eq_of_beq_eq_true e
   subst hi
   simp only [Array.getD_eq_getD_getElem?,Array.getElem?_setIfInBounds]
   simp [f]
def z1n(r:Nat):Frag:=single r (.deferred (some []))
abbrev Po:=Exit→(Nat→Value)→List Nat→RH→List Frag→Prop
def wide(ρ:Option Nat):Fence:= {Fence.wide with round:=ρ}
theorem wide_room(ρ:Option Nat)(k:Nat):(wide ρ).room k:=fun d a=>by cases a
def lift(n:Nat)(Q:Po):Exit→Act→World→Prop:=fun e a w=>
 ∃ l D R O,Fr n l D a∧Holds R (O++D.map z1n) w∧Q e l D R O
def wg(P:Program)(ρ:Option Nat)(n:Nat)(c:Code)(Q:Po)(l:Nat→Value)(D:List Nat)(R:RH)(O:List Frag):Prop:=
 ∀ a w,Fr n l D a→Holds R (O++D.map z1n) w→c.wpIn (wide ρ) 0 P (lift n Q) a w
def thn(K:(Nat→Value)→List Nat→RH→List Frag→Prop)(Q:Po):Po
 | .normal,l,D,R,O=>K l D R O
 |e,l,D,R,O=>Q e l D R O
section rules
variable {P : Program} {ρ : Option Nat} {n : Nat} {Q : Po} {l : Nat → Value} {D : List Nat} {R : RH} {O : List Frag}
theorem za6{c:Code}{Q':Po}(h:wg P ρ n c Q l D R O)(b: ∀ e l D R O,Q e l D R O→Q' e l D R O):wg P ρ n c Q' l D R O:=
 fun a w d f=>wpIn_mono (h a w d f) fun _ _ _ ⟨l',D',R',O',x,y,z⟩=>⟨l',D',R',O',x,y,b _ _ _ _ _ z⟩
theorem zz(h:Q .normal l D R O):wg P ρ n .skip Q l D R O:=fun _ _ a b=>wpIn_skip ⟨l,D,R,O,a,b,h⟩
theorem uz{id:Nat}(h:Q (.exit id) l D R O):wg P ρ n (.exit id) Q l D R O:=fun _ _ a b=>wpIn_exit ⟨l,D,R,O,a,b,h⟩
theorem qb(h:Q .ret l D R O):wg P ρ n .ret Q l D R O:=fun _ _ a b=>wpIn_ret ⟨l,D,R,O,a,b,h⟩
theorem zy{x y:Code}(h:wg P ρ n x (thn (wg P ρ n y Q) Q) l D R O):wg P ρ n (.seq x y) Q l D R O:=
 fun a w b c=>wpIn_seq (wpIn_mono (h a w b c) fun e a' w' ⟨l',D',R',O',x,y,z⟩=>by
  cases e with
  |normal=>exact z a' w' x y
  |_=>exact⟨l',D',R',O',x,y,z⟩)
theorem z6u{c:Operand}{x y:Code}{t:Bool}(f:ev l c= .bool t)(g:t=true→wg P ρ n x Q l D R O)(h:t=false→wg P ρ n y Q l D R O):
 wg P ρ n (.cond c x y) Q l D R O:=by
 intro a w b d
 have hc':a.eval c= .bool t:=by rw [b.eval];exact f
 exact wpIn_cond_split hc' (fun e=>g e a w b d) (fun e=>h e a w b d)
def zqe(id:Nat)(Q:Po):Po
 | .exit id',l,D,R,O=>bif Nat.beq id' id then Q .normal l D R O else Q (.exit id') l D R O
 |e,l,D,R,O=>Q e l D R O
theorem qf{id:Nat}{c:Code}(h:wg P ρ n c (zqe id Q) l D R O):wg P ρ n (.block id c) Q l D R O:=
 fun a w b d=>wpIn_block (wpIn_mono (h a w b d) fun e a' w' ⟨l',D',R',O',x,y,z⟩=>by
  cases e with
  |exit id'=>
   simp only [Exit.inBlock]
   simp only [zqe] at z
   split
   ·rename_i hid;subst hid;rw [Nat.beq_refl] at z;exact⟨l',D',R',O',x,y,z⟩
   ·rename_i hid
    have:Nat.beq id' id=false:=by
     cases hb:Nat.beq id' id
     ·rfl
     ·exact absurd (Nat.eq_of_beq_eq_true hb) hid
    rw [this] at z;exact⟨l',D',R',O',x,y,z⟩
  |_=>exact⟨l',D',R',O',x,y,z⟩)
theorem zk3{c:Code}(I:Nat→(Nat→Value)→List Nat→RH→List Frag→Prop)(u:Nat)(v:I u l D R O)
 (round: ∀ k l D R O,I k l D R O→wg P ρ n c (thn (fun l' D' R' O'=> ∃ k'<k,I k' l' D' R' O') Q) l D R O):wg P ρ n (.loop c) Q l D R O:=by
 intro a w m o
 intro b kk cs p q r
 have key: ∀ (k:Nat) (a:Act) (w:World),(∃ l D R O,Fr n l D a∧Holds R (O++D.map z1n) w∧I k l D R O)→
  ∃ e a' w',lift n Q e a' w'∧ArrivesIn (Machine.fenced P (wide ρ)) P (lone (b.atR a (.code c:: .inLoop c::kk)) cs w) b kk cs e a' w':=by
  intro k
  induction k using Nat.strongRecOn with
  |_ k ih=>
   intro a w ⟨l,D,R,O,m,o,y⟩
   obtain⟨e,a₁,w₁,s,harr⟩:=round k l D R O y a w m o b (.inLoop c::kk) cs p q r
   obtain⟨h,i,j,O1,d,f,g⟩:=s
   cases e with
   |normal=>
    obtain⟨k',t,hI'⟩:=g
    obtain⟨e₂,a₂,w₂,hq₂,harr₂⟩:=ih k' t a₁ w₁ ⟨h,i,j,O1,d,f,hI'⟩
    refine⟨e₂,a₂,w₂,hq₂,?_⟩
    have z:StepsIn (Machine.fenced P (wide ρ)) P (lone (b.atR a (.code c:: .inLoop c::kk)) cs w) (lone (b.atR a₁ (.inLoop c::kk)) cs w₁):=harr
    exact .of_steps (StepsIn.trans z (.one (fenced_calm q r rfl) stepR_inLoop)) harr₂
   |exit id=>exact⟨_,a₁,w₁,⟨h,i,j,O1,d,f,g⟩,.pass (x:= .inLoop c) rfl (fun _ _=> .inl (by simp)) harr⟩
   |goto l=>exact⟨_,a₁,w₁,⟨h,i,j,O1,d,f,g⟩,.pass (x:= .inLoop c) rfl (fun _ _=> .inl (by simp)) harr⟩
   |ret=>exact⟨_,a₁,w₁,⟨h,i,j,O1,d,f,g⟩,.pass (x:= .inLoop c) rfl (fun _ _=> .inl (by simp)) harr⟩
   |panic ch=>exact⟨_,a₁,w₁,⟨h,i,j,O1,d,f,g⟩,.pass (x:= .inLoop c) rfl (fun _ _=> .inl (by simp)) harr⟩
   |outgrown=>exact⟨_,a₁,w₁,⟨h,i,j,O1,d,f,g⟩,.pass (x:= .inLoop c) rfl (fun _ _=> .inl (by simp)) harr⟩
 obtain⟨e,a',w',s,harr⟩:=key u a w ⟨l,D,R,O,m,o,v⟩
 exact⟨e,a',w',s,.of_steps (.one (fenced_calm q r rfl) stepR_loop) harr⟩
end rules
/-! ### Operations-/
def Out(P:Program)(K:Value→World→Prop):Result Next→Prop
 | .ok (.value v) w=>K v w
 | .ok .skip w=>K undef w
 | .ok (.enter f args) w=>Calls P f args w fun e w'=> ∃ v,e= .returned v∧K v w'
 | .ok (.round l f tmps as_ b) w=>RoundIn Fence.wide 0 P l f tmps as_ b w fun e w'=> ∃ v,e= .returned v∧K v w'
 |_=>False
def Eff(P:Program)(ρ:Option Nat)(o:Oper)(l:Nat→Value)(R:RH)(O:List Frag)(φ:Value→RH→List Frag→Prop):Prop:=
 ∀ A w,Holds R (O++A) w→Out P (fun v w'=> ∃ R' O',R.le R'∧Holds R' (O'++A) w'∧φ v R' O') ((o.semAt ρ (ev l)).run P w)
def Val(P:Program)(ρ:Option Nat)(o:Oper)(l:Nat→Value)(R:RH)(O:List Frag)(v:Value):Prop:=
 ∀ A w,Holds R (O++A) w→(o.semAt ρ (ev l)).run P w= .ok (.value v) w
theorem Eff.mono{P:Program}{ρ:Option Nat}{o:Oper}{l:Nat→Value}{R:RH}{O:List Frag}{φ ψ:Value→RH→List Frag→Prop}
 (h:Eff P ρ o l R O φ) (d: ∀ v R' O',R.le R'→φ v R' O'→ψ v R' O'):Eff P ρ o l R O ψ:=by
 intro A w i
 have:=h A w i
 generalize (o.semAt ρ (ev l)).run P w=r at*
 cases r with
 |halt x y=>exact this
 |ok nx k=>
  cases nx with
  |value v=>obtain⟨R',O',a,b,c⟩:=this;exact⟨R',O',a,b,d _ _ _ a c⟩
  |skip=>obtain⟨R',O',a,b,c⟩:=this;exact⟨R',O',a,b,d _ _ _ a c⟩
  |enter f args=>exact Calls.mono this fun e w' ⟨v,g,R',O',a,b,c⟩=>⟨v,g,R',O',a,b,d _ _ _ a c⟩
  |round l f tmps j b=>exact RoundIn.mono this fun e w' ⟨v,g,R',O',a,b,c⟩=>⟨v,g,R',O',a,b,d _ _ _ a c⟩
  |_=>exact this
theorem Val.eff{P:Program}{ρ:Option Nat}{o:Oper}{l:Nat→Value}{R:RH}{O:List Frag}{v:Value}(h:Val P ρ o l R O v):
 Eff P ρ o l R O (fun v' R' O'=>v'=v∧R'=R∧O'=O):=by
 intro A w a
 rw [h A w a]
 exact⟨R,O,RH.le.refl _,a,rfl,rfl,rfl⟩
def wlo(F:Fence)(n:Nat)(P:Program)(ops:Array Oper)(Q:Exit→Act→World→Prop):List Oper→Act→World→Prop
 | [],a,w=>Q .normal a w
 |o::rest,a,w=>if Region.wanted o (yielded ops a.tmps) then o.wpIn F n P a w (wlo F n P ops Q rest) Q
  else(∀ f,o.about P w a.eval=some f→F.fn f)∧wlo F n P ops Q rest (a.put o.dst undef) w
theorem wpOpsIn_of_wlo{F:Fence}{n:Nat}{P:Program}{ops:Array Oper}{Q:Exit→Act→World→Prop}:
 ∀ (rest:List Oper) (k:Nat),(∀ j,rest[j]? =ops[k+j]?)→ ∀ (a:Act) (w:World),wlo F n P ops Q rest a w→wpOpsIn F n P ops Q (List.range' k rest.length) a w
 | [],k,_,a,w,h=>h
 |o::rest,k,b,a,w,h=>by
  have c:ops[k]? =some o:=by have:=b 0;simpa using this.symm
  have hrest: ∀ j,rest[j]? =ops[(k+1)+j]? :=fun j=>by have:=b (j+1);rw [show k+(j+1)=k+1+j from by omega] at this;simpa using this
  simp only [List.length_cons,List.range'_succ,wpOpsIn,c]
  simp only [wlo] at h
  split
  ·rename_i hw
   rw [if_pos hw] at h
   exact Oper.wpIn_mono (fun a w=>wpOpsIn_of_wlo rest (k+1) hrest a w) h
  ·rename_i hw
   rw [if_neg hw] at h
   exact⟨h.1,wpOpsIn_of_wlo rest (k+1) hrest _ _ h.2⟩
def wo(P:Program)(ρ:Option Nat)(n:Nat)(ops:Array Oper)(Q:Po)(os:List Oper)(l:Nat→Value)(D:List Nat)(R:RH)(O:List Frag):Prop:=
 ∀ a w,Fr n l D a→Holds R (O++D.map z1n) w→wlo (wide ρ) 0 P ops (lift n Q) os a w
section ops
variable {P : Program} {ρ : Option Nat} {n : Nat} {Q : Po} {l : Nat → Value} {D : List Nat} {R : RH} {O : List Frag} {ops : Array Oper} {rest : List Oper}
theorem qd{id:Nat}{os:List Oper}(h:wo P ρ n os.toArray Q os l D R O):wg P ρ n (.region id os.toArray false) Q l D R O:=by
 intro a w b c
 refine wpIn_region ?_
 have:=wpOpsIn_of_wlo os 0 (fun j=>by simp) a w (h a w b c)
 simpa [List.range_eq_range'] using this
theorem z8(h:Q .normal l D R O):wo P ρ n ops Q [] l D R O:=fun _ _ a b=>⟨l,D,R,O,a,b,h⟩
theorem Calls.callsIn{f:FuncId}{args:Array Value}{w:World}{K:Ending→World→Prop}{m:Nat}(ρ:Option Nat)(h:Calls P f args w K):CallsIn (wide ρ) m P f args w K:=
 (callsIn_wide.2 h:CallsIn Fence.wide m P f args w K)
theorem RoundIn.wide{m:Nat}{l:Nat}{f:FuncId}{tmps:Array Value}{a b:Code}{w:World}{K:Ending→World→Prop}(ρ:Option Nat)(h:RoundIn Fence.wide 0 P l f tmps a b w K):
 RoundIn (wide ρ) m P l f tmps a b w K:=
 ⟨trivial,fun c cs _=>h.2 c cs (wide_room none _)⟩
theorem z3g{o:Oper}{φ:Value→RH→List Frag→Prop}{K:Act→World→Prop}{Q':Exit→Act→World→Prop}{a:Act}{w:World}{A:List Frag}
 (i:Fr n l D a) (j:Holds R (O++A) w) (h:Eff P ρ o l R O φ)
 (d: ∀ v R' O' w',R.le R'→Holds R' (O'++A) w'→φ v R' O'→K (a.put o.dst v) w'):o.wpIn (wide ρ) 0 P a w K Q':=by
 refine⟨fun _ _=>trivial,?_⟩
 have:=h A w j
 rw [i.eval]
 show Oper.uponIn (wide ρ) 0 P o a K Q' ((o.semAt ρ (ev l)).run P w)
 generalize (o.semAt ρ (ev l)).run P w=r at*
 cases r with
 |halt x y=>exact this.elim
 |ok nx g=>
  cases nx with
  |value v=>obtain⟨R',O',a,b,c⟩:=this;exact d v R' O' g a b c
  |skip=>obtain⟨R',O',a,b,c⟩:=this;exact d undef R' O' g a b c
  |enter f args=>
   refine⟨fun h=>(by cases h),Calls.callsIn ρ (Calls.mono this ?_)⟩
   rintro e w' ⟨v,rfl,R',O',a,b,c⟩
   exact d v R' O' w' a b c
  |round l f tmps k b=>
   refine⟨fun h=>(by cases h),RoundIn.wide ρ (RoundIn.mono this ?_)⟩
   rintro e w' ⟨v,rfl,R',O',a,b,c⟩
   exact d v R' O' w' a b c
  |_=>exact this.elim
theorem wanted_none{o:Oper}{y:Nat→Option Bool}(h:o.guard=none):Region.wanted o y=true:=by simp [Region.wanted,h]
theorem zfr{o:Oper}{φ:Value→RH→List Frag→Prop}(d:o.guard=none)(e: ∀ t,o.dst=some t→t<n)(h:Eff P ρ o l R O φ)
 (f: ∀ v R' O',R.le R'→φ v R' O'→wo P ρ n ops Q rest (zry l o.dst v) D R' O'):wo P ρ n ops Q (o::rest) l D R O:=by
 intro a w c g
 simp only [wlo,wanted_none d,if_true]
 exact z3g c g h fun v R' O' w' b hh' i=>f v R' O' b i _ _ (c.put e v) hh'
theorem zqy{o:Oper}{d:Nat}{v:Value}(b:o.guard=none)(hdst:o.dst=some d)(c:Nat.blt d n=true)(h:Val P ρ o l R O v)
 (e:wo P ρ n ops Q rest (upd l d v) D R O):wo P ρ n ops Q (o::rest) l D R O:=by
 refine zfr b (fun t a=>?_) h.eff ?_
 ·rw [hdst] at a;cases a;simpa using c
 ·rintro _ _ _ _ ⟨rfl,rfl,rfl⟩
  rw [hdst];exact e
def guardSlot(ops:Array Oper)(j:Nat):Option Nat:=(ops[j]?).bind (·.dst)
theorem z6g{a:Act}{j s:Nat}{b:Bool}(d:Fr n l D a)(e:guardSlot ops j=some s)(f:s<n)(g:l s= .bool b):yielded ops a.tmps j=some b:=by
 unfold yielded
 unfold guardSlot at e
 rw [e]
 have c:=d.get s
 rw [g,Array.getD_eq_getD_getElem?] at c
 simp only [Option.bind_some]
 cases h:a.tmps[s]? with
 |none=>
  have:=d.size
  rw [Array.getElem?_eq_none_iff] at h
  omega
 |some u=>rw [h] at c;simp at c;rw [c]
end ops
/-! ### Contracts-/
def CallP(P:Program)(f:FuncId)(args:Array Value)(R:RH)(post:Value→RH→Prop):Prop:=
 ∀ A w,Holds R A w→Calls P f args w fun e w'=> ∃ v,e= .returned v∧ ∃ R',R.le R'∧Holds R' A w'∧post v R'
def CallG(P:Program)(f:FuncId)(args:Array Value)(R:RH)(O:List Frag)(post:Value→RH→List Frag→Prop):Prop:=
 ∀ A w,Holds R (O++A) w→Calls P f args w fun e w'=> ∃ v,e= .returned v∧ ∃ R' O',R.le R'∧Holds R' (O'++A) w'∧post v R' O'
theorem CallP.mono{P:Program}{f:FuncId}{args:Array Value}{R:RH}{post post':Value→RH→Prop}(h:CallP P f args R post)(d: ∀ v R',R.le R'→post v R'→post' v R'):CallP P f args R post':=
 fun A w e=>Calls.mono (h A w e) fun _ _ ⟨v,g,R',a,b,c⟩=>⟨v,g,R',a,b,d v R' a c⟩
theorem CallG.mono{P:Program}{f:FuncId}{args:Array Value}{R:RH}{O:List Frag}{post post':Value→RH→List Frag→Prop}(h:CallG P f args R O post)
 (d: ∀ v R' O',R.le R'→post v R' O'→post' v R' O'):CallG P f args R O post':=
 fun A w e=>Calls.mono (h A w e) fun _ _ ⟨v,g,R',O',a,b,c⟩=>⟨v,g,R',O',a,b,d v R' O' a c⟩
theorem CallP.toG{P:Program}{f:FuncId}{args:Array Value}{R:RH}{O:List Frag}{post:Value→RH→Prop}(h:CallP P f args R post):CallG P f args R O (fun v R' O'=>O'=O∧post v R'):=
 fun A w d=>Calls.mono (h (O++A) w d) fun _ _ ⟨v,e,R',a,b,c⟩=>⟨v,e,R',O,a,b,rfl,c⟩
theorem CallG.toP{P:Program}{f:FuncId}{args:Array Value}{R:RH}{post:Value→RH→Prop}(h:CallG P f args R [] (fun v R' O'=>O'=[]∧post v R')):CallP P f args R post:=
 fun A w e=>Calls.mono (h A w e) fun _ _ ⟨v,g,R',O',a,b,c,d⟩=>⟨v,g,R',a,by subst c;exact b,d⟩
theorem u6{R:RH}{O O':List Frag}{w:World}(h:Holds R O w)(b:O.Perm O'):Holds R O' w:=
 ⟨h.ro,fun f c=>h.own f (b.mem_iff.2 c),(b.pairwise_iff (fun {x y} a k=>(a k).symm)).1 h.sep,h.os,h.out⟩
theorem putObj_heap_same{w:World}{r:Nat}{o o':Obj}(h:w.heap[r]? =some o):(w.putObj r o').heap[r]? =some o':=by
 have a:r<w.heap.size:=(Array.getElem?_eq_some_iff.1 h).1
 simp only [World.putObj]
 rw [Array.getElem?_setIfInBounds]
 simp [a]
theorem z2w{R:RH}{O:List Frag}{w w':World}{r:Nat}{o o':Obj}(h:Holds R (single r o::O) w)(j:w'.heap[r]? =some o')
 (d: ∀ k,k≠r→w'.heap[k]? =w.heap[k]?) (g:w'.os=w.os) (hout:w'.output=w.output) (n:zn7 o':=by first|exact rfl|exact trivial):Holds R (single r o'::O) w':=by
 have l:=h.own (single r o) (List.mem_cons_self ..) r o (single_same r o)
 refine⟨fun k ob a=>?_,fun f i k ob a=>?_,?_,⟨g.trans h.os.1,fun k ob hk' a=>?_⟩,hout.trans h.out⟩
 ·have c:k≠r:=fun e=>by subst e;rw [l.2] at a;cases a
  rw [d k c];exact h.ro k ob a
 ·rcases List.mem_cons.1 i with rfl|hf'
  ·obtain⟨rfl,rfl⟩:=zb0 a
   exact⟨j,l.2⟩
  ·have m:=h.own f (List.mem_cons_of_mem _ hf') k ob a
   have c:k≠r:=by
    intro e
    subst e
    rcases (List.pairwise_cons.1 h.sep).1 f hf' k with b|b
    ·rw [single_same] at b;cases b
    ·rw [b] at a;cases a
   exact⟨(d k c).trans m.1,m.2⟩
 ·refine List.pairwise_cons.2 ⟨fun f i k=>?_,(List.pairwise_cons.1 h.sep).2⟩
  rcases (List.pairwise_cons.1 h.sep).1 f i k with b|b
  ·left
   by_cases e:k=r
   ·subst e;rw [single_same] at b;cases b
   ·exact zad e
  ·exact .inr b
 ·by_cases e:k=r
  ·subst e;rw [j] at a;exact Option.some.inj a▸n
  ·rw [d k e] at a;exact h.os.2 k ob hk' a
theorem holds_drop{R:RH}{f:Frag}{O:List Frag}{w:World}(h:Holds R (f::O) w):Holds R O w:=
 ⟨h.ro,fun g a=>h.own g (List.mem_cons_of_mem _ a),(List.pairwise_cons.1 h.sep).2,h.os,h.out⟩
def zk2(args:List Value):Nat→Value:=fun i=>args.getD i undef
theorem zla{R:RH}{A:List Frag}{w w':World}(h:Holds R A w)(b:QT.Blw w w'):Holds R A w':=by
 have key: ∀ k o,w.heap[k]? =some o→w'.heap[k]? =some o:=fun k o a=>by
  rw [b.block k (Array.getElem?_eq_some_iff.1 a).1];exact a
 exact⟨fun k o a=>key k o (h.ro k o a),fun f c k o a=>⟨key k o (h.own f c k o a).1,(h.own f c k o a).2⟩,h.sep,⟨b.os.trans h.os.1,fun k o _ _=>trivial⟩,b.output.trans h.out⟩
theorem zfq{P:Program}{fn:Func}{tmps:Array Value}{K:Ending→World→Prop}{R:RH}{O:List Frag}(i:P=Tryz.prog)
 (hres: ∀ w,Holds R O w→ ∃ v,(results fn tmps).run P w= .ok v w∧K (.returned v) w):
 ∀ (D:List Nat) (ds:List Deferred) (w:World),DR D ds→Holds R (D.map z1n++O) w→LeavesInM Fence.wide 0 P fn tmps K ds .returning w:=by
 intro D ds w j
 induction j generalizing w with
 |nil=>exact fun a=>hres w a
 |mark r _ ih=>
  intro a
  refine⟨by simp,.inl ⟨r,_,rfl,run_takeDeferred ((a.own (z1n r) (List.mem_cons_self ..) r _ (single_same r _)).1),?_⟩⟩
  refine ih _ (holds_drop (f:=single r (.deferred none)) (z2w a (putObj_heap_same ((a.own (z1n r) (List.mem_cons_self ..) r _ (single_same r _)).1)) (fun k l=>?_) rfl rfl))
  simp only [World.putObj]
  rw [Array.getElem?_setIfInBounds,if_neg (fun e=>l e.symm)]
 |quiet c d _ ih=>
  intro a
  subst i
  refine⟨by simp,.inr ⟨fun h=>(by cases h),.func 83,c,83,d++c,rfl,QT.enter83 _ _,fun _ _=>trivial,trivial,fun cf cs m hroom=>?_⟩⟩
  obtain⟨e,u',w',fr,⟨⟨v,rfl⟩,rfl,g⟩,b,c',d'⟩:=(QT.quiet83 (d++c) w).2 cf cs m (wide_room none _)
  exact⟨_,_,_,fr,ih w' (zla a g),b,c',d'⟩
def z4g(P:Program)(fn:Func)(R0:RH)(A:List Frag)(post:Value→RH→List Frag→Prop):Po
 | .normal,l,_,R,O| .ret,l,_,R,O=> ∃ v R' O',R0.le R'∧(∀ w,Holds R O w→Holds R' (O'++A) w)∧post v R' O'∧
  ∀ (tmps:Array Value),(∀ i,tmps.getD i undef=l i)→ ∀ w,Holds R O w→(results fn tmps).run P w= .ok v w
 |_,_,_,_,_=>False
theorem ku{P:Program}{f:FuncId}{fn:Func}{c:Code}{args:List Value}{R:RH}{O:List Frag}{post:Value→RH→List Frag→Prop}
 (q:P.funcs[f]? =some fn) (r:fn.body=some c) (s:Nat.ble args.length fn.ntmps=true)
 (h: ∀ A,wg P none fn.ntmps c (z4g P fn R A post) (zk2 args) [] R (O++A)) (t:P=Tryz.prog:=by rfl):CallG P f args.toArray R O post:=by
 have hn':args.length≤fn.ntmps:=by simpa using s
 intro A w u
 refine(callsIn_wide (n:=0)).1 (callsIn_of_wp_marks (F:=Fence.wide) q r trivial ?_)
 have j:Fr fn.ntmps (zk2 args) [] {tmps:=args.toArray++Array.replicate (fn.ntmps-args.toArray.size) undef,defers:=[]}:=by
  refine⟨by simp;omega,fun i=>?_,.nil⟩
  simp only [zk2,Array.getD_eq_getD_getElem?,List.getD_eq_getElem?_getD,Array.getElem?_append,List.size_toArray,List.getElem?_toArray]
  split
  ·rfl
  ·rename_i hi
   rw [List.getElem?_eq_none (by omega)]
   simp only [Array.getElem?_replicate]
   split<;>rfl
 have hend: ∀ (l:Nat→Value) (D:List Nat) (d:RH) (O1:List Frag) (a':Act) (w':World),Fr fn.ntmps l D a'→Holds d (O1++D.map z1n) w'→z4g P fn R A post .ret l D d O1→
  LeavesInM Fence.wide 0 P fn a'.tmps (fun e w'=> ∃ v,e= .returned v∧ ∃ R' O',R.le R'∧Holds R' (O'++A) w'∧post v R' O') a'.defers .returning w':=by
  rintro l D d O1 a' w' a b ⟨v,R',O',k,m,x,hres⟩
  refine zfq (R:=d) (O:=O1) t (fun o p=>⟨v,hres _ a.get o p,v,rfl,R',O',k,m o p,x⟩) D _ w' a.defers (u6 b List.perm_append_comm)
 refine wpIn_mono (h A _ w j (by simpa using u)) ?_
 rintro e a' w' ⟨l,D,d,O1,a,b,g⟩
 cases e with
 |normal=>exact hend l D d O1 a' w' a b g
 |ret=>exact hend l D d O1 a' w' a b g
 |exit _=>exact g.elim
 |goto _=>exact g.elim
 |panic _=>exact g.elim
 |outgrown=>exact g.elim
theorem q9{P:Program}{f:FuncId}{fn:Func}{c:Code}{args:List Value}{R:RH}{post:Value→RH→Prop}
 (a:P.funcs[f]? =some fn) (b:fn.body=some c) (d:Nat.ble args.length fn.ntmps=true)
 (h: ∀ A,wg P none fn.ntmps c (z4g P fn R A (fun v R' O'=>O'=[]∧post v R')) (zk2 args) [] R A) (e:P=Tryz.prog:=by rfl):CallP P f args.toArray R post:=
 (ku (O:=[]) a b d h e).toP
end GV
end Go.Proofs.YtkkcidhcfkmbjaaGreatDoor

namespace Go.Proofs.YtkkcidhcfkmbjaaGreatDoor
namespace GV
structure Ty (α:Type) where
 size:Nat
 agg:Bool
 rep:RH→List Value→α→Prop
 len: ∀ {R cs x},rep R cs x→cs.length=size
 mono: ∀ {R R' cs x},RH.le R R'→rep R cs x→rep R' cs x
 one:agg=false→size=1
 cell: ∀ {R cs x},rep R cs x→ ∀ v∈cs,v.oneCell'=true
def Ty.mk'{α:Type}(T:Ty α)(cs:List Value):Value:=bif T.agg then .agg cs.toArray else cs.headD undef
def VRep{α:Type}(T:Ty α)(R:RH)(v:Value)(x:α):Prop:= ∃ cs,T.rep R cs x∧v=T.mk' cs
theorem VRep.mono{α:Type}{T:Ty α}{R R':RH}{v:Value}{x:α}(h:VRep T R v x)(c:RH.le R R'):VRep T R' v x:=
 let⟨cs,a,b⟩:=h;⟨cs,T.mono c a,b⟩
theorem zg7{α:Type}{T:Ty α}{R:RH}{cs:List Value}{x:α}(h:T.rep R cs x):(T.mk' cs).cells=cs.toArray:=by
 unfold Ty.mk'
 cases ha:T.agg
 ·have b:=T.one ha
  have a:=T.len h
  rw [b] at a
  obtain⟨c,rfl⟩: ∃ c,cs=[c]:=by
   match cs,a with
   | [c],_=>exact⟨c,rfl⟩
  have d:=T.cell h c (by simp)
  cases c<;>first|rfl|(simp [Value.oneCell'] at d)
 ·rfl
def jh(k:IntKind):Ty Int where
 size:=1
 agg:=false
 rep _ cs x:=cs=[.int k x]
 len h:=by rw [h];rfl
 mono _ h:=h
 one _:=rfl
 cell h:=by rw [h];intro v hv;simp at hv;subst hv;rfl
def z2m:Ty Bool where
 size:=1
 agg:=false
 rep _ cs x:=cs=[.bool x]
 len h:=by rw [h];rfl
 mono _ h:=h
 one _:=rfl
 cell h:=by rw [h];intro v hv;simp at hv;subst hv;rfl
theorem wy{k:IntKind}{R:RH}{v:Value}{x:Int}:VRep (jh k) R v x↔v= .int k x:=
 ⟨fun⟨_,h,e⟩=>by cases h;exact e,fun h=>⟨_,rfl,h⟩⟩
theorem z10{R:RH}{v:Value}{x:Bool}:VRep z2m R v x↔v= .bool x:=
 ⟨fun⟨_,h,e⟩=>by cases h;exact e,fun h=>⟨_,rfl,h⟩⟩
def cellsAt(c:Array Value)(o k:Nat):List Value:=(c.toList.drop o).take k
def zsl{α:Type}(T:Ty α)(R:RH)(p:Option Addr)(X:List α):Prop:=
 X=[]∨ ∃ b off c ty fr,p=some ⟨b,off,none⟩∧R.blk b=some (.cells c ty fr)∧ ∀ i x,X[i]? =some x→T.rep R (cellsAt c (off+i*T.size) T.size) x
def yo{α:Type}(T:Ty α):Ty (List α) where
 size:=1
 agg:=false
 rep R cs X:= ∃ p n,cs=[.slice p X.length n]∧X.length≤n∧(p=none→X=[])∧zsl T R p X
 len:=by rintro R cs X ⟨p,n,rfl,_⟩;rfl
 mono:=by
  rintro R R' cs X hle ⟨p,n,rfl,hn,hp,h⟩
  refine⟨p,n,rfl,hn,hp,?_⟩
  rcases h with h|⟨b,off,c,ty,fr,a,d,e⟩
  ·exact .inl h
  ·exact .inr ⟨b,off,c,ty,fr,a,hle.blk _ _ d,fun i x hx=>T.mono hle (e i x hx)⟩
 one _:=rfl
 cell:=by rintro R cs X ⟨p,n,rfl,_⟩ v hv;simp at hv;subst hv;rfl
theorem xh{α:Type}{T:Ty α}{R:RH}{v:Value}{X:List α}:
 VRep (yo T) R v X↔ ∃ p n,v= .slice p X.length n∧X.length≤n∧(p=none→X=[])∧zsl T R p X:=
 ⟨fun⟨_,⟨p,n,h,a,b,c⟩,e⟩=>by subst h;exact⟨p,n,e,a,b,c⟩,fun⟨p,n,h,a,b,c⟩=>⟨_,⟨p,n,rfl,a,b,c⟩,h⟩⟩
theorem z7m{α:Type}{T:Ty α}{R:RH}:VRep (yo T) R (.slice none 0 0) []:=
 xh.2 ⟨none,0,rfl,Nat.le_refl _,fun _=>rfl,.inl rfl⟩
def capOf:Value→Nat
 | .slice _ _ c=>c
 |_=>0
def mh{α β:Type}(A:Ty α)(B:Ty β):Ty (α×β) where
 size:=A.size+B.size
 agg:=true
 rep R cs x:= ∃ ca cb,cs=ca++cb∧A.rep R ca x.1∧B.rep R cb x.2
 len:=by rintro R cs x ⟨ca,cb,rfl,ha,hb⟩;rw [List.length_append,A.len ha,B.len hb]
 mono:=by rintro R R' cs x hle ⟨ca,cb,rfl,ha,hb⟩;exact⟨ca,cb,rfl,A.mono hle ha,B.mono hle hb⟩
 one h:=by cases h
 cell:=by
  rintro R cs x ⟨ca,cb,rfl,ha,hb⟩ v hv
  rcases List.mem_append.1 hv with h|h
  ·exact A.cell ha v h
  ·exact B.cell hb v h
def Ty.as{α β:Type}(T:Ty α)(f:β→α):Ty β where
 size:=T.size
 agg:=T.agg
 rep R cs x:=T.rep R cs (f x)
 len h:=T.len h
 mono hle h:=T.mono hle h
 one h:=T.one h
 cell h:=T.cell h
def PRep{α:Type}(T:Ty α)(R:RH)(v:Value)(x:α):Prop:=
 ∃ b off c ty fr,v= .pointer (some ⟨b,off,none⟩)∧R.blk b=some (.cells c ty fr)∧T.rep R (cellsAt c off T.size) x
theorem PRep.mono{α:Type}{T:Ty α}{R R':RH}{v:Value}{x:α}(h:PRep T R v x)(a:RH.le R R'):PRep T R' v x:=
 let⟨b,off,c,ty,fr,d,e,f⟩:=h;⟨b,off,c,ty,fr,d,a.blk _ _ e,T.mono a f⟩
def Part{α β:Type}(A:Ty α)(o:Nat)(B:Ty β)(f:α→β):Prop:=
 o+B.size≤A.size∧ ∀ R cs x,A.rep R cs x→B.rep R ((cs.drop o).take B.size) (f x)
theorem fu{α β:Type}{A:Ty α}{B:Ty β}:Part (mh A B) 0 A Prod.fst:=
 ⟨by simp [mh],by rintro R cs x ⟨ca,cb,rfl,a,b⟩;rw [List.drop_zero,List.take_left' (A.len a)];exact a⟩
theorem yj{α β γ:Type}{A:Ty α}{B:Ty β}{C:Ty γ}{o:Nat}{f:β→γ}(h:Part B o C f):Part (mh A B) (A.size+o) C (fun x=>f x.2):=
 ⟨by have:=h.1;simp [mh];omega,by
  rintro R cs x ⟨ca,cb,rfl,a,b⟩
  rw [←A.len a,←List.drop_drop,List.drop_left]
  exact h.2 R cb x.2 b⟩
theorem z6e{α:Type}{A:Ty α}:Part A 0 A id:=
 ⟨by simp,fun R cs x h=>by rw [List.drop_zero,←A.len h,List.take_length];exact h⟩
theorem z9l{c:Array Value}{off S o k:Nat}(h:o+k≤S):((cellsAt c off S).drop o).take k=cellsAt c (off+o) k:=by
 unfold cellsAt
 rw [List.drop_take,List.drop_drop,List.take_take]
 congr 1
 omega
/-! ### Owned blocks-/
def box(b:Nat)(cs:List Value)(ty:TypeId):Frag:=single b (.cells cs.toArray ty (0,0))
def ORep{α:Type}(T:Ty α)(R:RH)(f:Frag)(v:Value)(X:List α):Prop:=
 (v= .slice none 0 0∧X=[]∧f=emp)∨
 ∃ b pre cs cap ty,v= .slice (some ⟨b,pre.length,none⟩) X.length cap∧f=box b (pre++cs) ty∧X.length≤cap∧cap*T.size≤cs.length∧(∀ v∈pre++cs,v.oneCell'=true)∧
  ∀ i x,X[i]? =some x→T.rep R ((cs.drop (i*T.size)).take T.size) x
theorem ORep.mono{α:Type}{T:Ty α}{R R':RH}{f:Frag}{v:Value}{X:List α}(h:ORep T R f v X)(a:RH.le R R'):ORep T R' f v X:=by
 rcases h with h|⟨b,pre,cs,cap,ty,c,d,e,g,j,k⟩
 ·exact .inl h
 ·exact .inr ⟨b,pre,cs,cap,ty,c,d,e,g,j,fun i x l=>T.mono a (k i x l)⟩
theorem z00{pre cs:List Value}{o k:Nat}:cellsAt (pre++cs).toArray (pre.length+o) k=cellsAt cs.toArray o k:=by
 simp only [cellsAt]
 rw [List.drop_append,List.drop_eq_nil_of_le (by omega),Nat.add_sub_cancel_left,List.nil_append]
/-! ### Memory-/
def RH.add(R:RH)(f:Frag):RH:= {R with blk:=fun k=>match R.blk k with|some o=>some o|none=>f k}
theorem RH.le_add(R:RH)(f:Frag):RH.le R (R.add f):=⟨fun k o h=>by simp [RH.add,h],rfl,rfl⟩
theorem z3w{R:RH}{f:Frag}{O:List Frag}{w:World}(h:Holds R (f::O) w):Holds (R.add f) O w:=by
 refine⟨fun k o a=>?_,fun g c k o a=>?_,(List.pairwise_cons.1 h.sep).2,h.os,h.out⟩
 ·cases e:R.blk k with
  |some o'=>simp [RH.add,e] at a;subst a;exact h.ro k _ e
  |none=>simp [RH.add,e] at a;exact(h.own f (List.mem_cons_self ..) k o a).1
 ·have d:=h.own g (List.mem_cons_of_mem _ c) k o a
  refine⟨d.1,?_⟩
  simp only [RH.add,d.2]
  rcases (List.pairwise_cons.1 h.sep).1 g c k with b|b
  ·exact b
  ·rw [b] at a;cases a
theorem holds_alloc{R:RH}{O:List Frag}{w:World}(h:Holds R O w)(o:Obj)(d:zn7 o:=by first|exact rfl|exact trivial):Holds R (single w.heap.size o::O) (w.alloc o):=by
 have hold: ∀ k ob,w.heap[k]? =some ob→(w.alloc o).heap[k]? =some ob:=fun k ob a=>
  (by
   have g:=(Array.getElem?_eq_some_iff.1 a).1
   show (w.heap.push o)[k]? =_
   rw [Array.getElem?_push,if_neg (by omega)];exact a)
 have hfresh: ∀ k ob,w.heap[k]? =some ob→k≠w.heap.size:=fun k ob a e=>by
  have:=(Array.getElem?_eq_some_iff.1 a).1
  omega
 refine⟨fun k ob a=>hold k ob (h.ro k ob a),fun f b k ob a=>?_,?_,⟨h.os.1,fun k ob a c=>?_⟩,h.out⟩
 ·rcases List.mem_cons.1 b with rfl|hf'
  ·obtain⟨rfl,rfl⟩:=zb0 a
   refine⟨(by show (w.heap.push _)[w.heap.size]? =_;rw [Array.getElem?_push,if_pos rfl]),?_⟩
   cases e:R.blk w.heap.size with
   |none=>rfl
   |some o'=>exact absurd rfl (hfresh _ _ (h.ro _ _ e))
  ·exact⟨hold k ob (h.own f hf' k ob a).1,(h.own f hf' k ob a).2⟩
 ·refine List.pairwise_cons.2 ⟨fun f b k=>?_,h.sep⟩
  by_cases e:k=w.heap.size
  ·right
   cases e':f k with
   |none=>rfl
   |some o'=>exact absurd e (hfresh _ _ (h.own f b k o' e').1)
  ·exact .inl (zad e)
 ·by_cases e:k=w.heap.size
  ·subst e
   rw [show (w.alloc o).heap[w.heap.size]? =some o from(by show (w.heap.push _)[w.heap.size]? =_;rw [Array.getElem?_push,if_pos rfl])] at c
   exact Option.some.inj c▸d
  ·refine h.os.2 k ob a ?_
   have hb':(w.heap.push o)[k]? =some ob:=c
   rw [Array.getElem?_push,if_neg e] at hb'
   exact hb'
theorem oq{R:RH}{O:List Frag}{w:World}{i:Nat}{f:Frag}{k:Nat}{o:Obj}(h:Holds R O w)(hi:O[i]? =some f)(a:f k=some o):w.heap[k]? =some o:=
 (h.own f (List.mem_of_getElem? hi) k o a).1
theorem fw{α:Type}: ∀ (O:List α) (i:Nat) (f:α),O[i]? =some f→O.Perm (f::O.eraseIdx i)
 | [],i,f,h=>by simp at h
 |x::O,0,f,h=>by simp at h;subst h;exact List.Perm.refl _
 |x::O,i+1,f,h=>by
  have h':O[i]? =some f:=by simpa using h
  exact((fw O i f h').cons x).trans (List.Perm.swap f x _)
theorem z2t{R:RH}{O:List Frag}{w w':World}{i r:Nat}{o o':Obj}(h:Holds R O w)(hi:O[i]? =some (single r o))(c:w'.heap[r]? =some o')
 (d: ∀ k,k≠r→w'.heap[k]? =w.heap[k]?) (a:w'.os=w.os) (hout:w'.output=w.output) (e:zn7 o':=by first|exact rfl|exact trivial):Holds R (O.set i (single r o')) w':=by
 obtain⟨b,hget⟩:=List.getElem?_eq_some_iff.1 hi
 have f:O.Perm (single r o::O.eraseIdx i):=fw O i _ hi
 have hp':(O.set i (single r o')).Perm (single r o'::O.eraseIdx i):=by
  have:=fw (O.set i (single r o')) i (single r o') (by simp [b])
  rwa [List.eraseIdx_set_eq] at this
 exact u6 (z2w (u6 h f) c d a hout e) hp'.symm
theorem cell_of_block{w:World}{b off:Nat}{c:Array Value}{ty:TypeId}{fr:Nat×Nat}(h:w.heap[b]? =some (.cells c ty fr)):w.cell? ⟨b,off,none⟩=c[off]? :=by
 simp [World.cell?,h]
theorem z5k{w:World}{b off:Nat}{c:Array Value}{ty:TypeId}(h:w.heap[b]? =some (.cells c ty (0,0))):w.frozen? ⟨b,off,none⟩=false:=by
 simp [World.frozen?,h]
theorem addr_add(b off n:Nat):(⟨b,off,none⟩:Addr).add n=⟨b,off+n,none⟩:=by
 unfold Addr.add
 split
 ·rename_i h;subst h;rfl
 ·rfl
theorem run_loadCellsFrom{P:Program}{w:World}{b off:Nat}{c:Array Value}{ty:TypeId}{fr:Nat×Nat}(h:w.heap[b]? =some (.cells c ty fr)):
 ∀ (n i:Nat) (acc:Array Value),off+i+n≤c.size→(loadCellsFrom ⟨b,off,none⟩ i n acc).run P w= .ok (acc++(cellsAt c (off+i) n).toArray) w
 |0,i,acc,_=>by simp [loadCellsFrom,cellsAt]
 |n+1,i,acc,f=>by
  have a:off+i<c.size:=by omega
  have d:w.cell? ((⟨b,off,none⟩:Addr).add i)=some c[off+i]:=by
   rw [addr_add,cell_of_block h,Array.getElem?_eq_getElem a]
  simp only [loadCellsFrom,Sem.run_bind,run_load,d,Result.andThen_ok]
  rw [run_loadCellsFrom h n (i+1) _ (by omega)]
  congr 1
  apply Array.ext'
  have e:c.toList.drop (off+i)=c[off+i]::c.toList.drop (off+i+1):=by
   rw [List.drop_eq_getElem_cons (by simpa using a)];simp
  simp [cellsAt,e,Nat.add_assoc]
theorem run_loadCells{P:Program}{w:World}{b off n:Nat}{c:Array Value}{ty:TypeId}{fr:Nat×Nat}(h:w.heap[b]? =some (.cells c ty fr))(a:off+n≤c.size):
 (loadCells ⟨b,off,none⟩ n).run P w= .ok (cellsAt c off n).toArray w:=by
 have:=run_loadCellsFrom (P:=P) h n 0 #[] (by omega)
 simpa [loadCells] using this
structure TyOk (P:Program) (t:TypeId) {α:Type} (T:Ty α):Prop where
 agg: ∀ w,(isAgg t).run P w= .ok T.agg w
 size: ∀ w,(sizeOf t).run P w= .ok T.size w
theorem ae{P:Program}{t:TypeId}{α:Type}{T:Ty α}{d:TypeDesc}{i:TypeInfo}(a:P.underlying t=some d)(hi:P.info? t=some i)
 (b:(match d with| .struct _| .array _ _=>true|_=>false)=T.agg) (c:i.size=T.size):TyOk P t T:=by
 refine⟨fun w=>?_,fun w=>?_⟩
 ·cases d<;>simp [isAgg,underlying,a,←b]
 ·simp [sizeOf,typeInfo,hi,c]
theorem cellsAt_length{c:Array Value}{o k:Nat}(h:(cellsAt c o k).length=k)(a:k≠0):o+k≤c.size:=by
 simp only [cellsAt,List.length_take,List.length_drop,Array.length_toList] at h
 omega
theorem z4u{P:Program}{w:World}{α:Type}{T:Ty α}{t:TypeId}{b off:Nat}{c:Array Value}{ty:TypeId}{fr:Nat×Nat}{R:RH}{x:α}(f:TyOk P t T)
 (g:w.heap[b]? =some (.cells c ty fr)) (d:T.rep R (cellsAt c off T.size) x):(loadVar t ⟨b,off,none⟩).run P w= .ok (T.mk' (cellsAt c off T.size)) w:=by
 unfold loadVar Ty.mk'
 simp only [Sem.run_bind,f.agg,Result.andThen_ok]
 cases ha:T.agg
 ·have h:=T.one ha
  have hlen:=T.len d
  rw [h] at hlen d
  have i:=cellsAt_length hlen (by simp)
  have a:off<c.size:=by omega
  simp only [Bool.false_eq_true,if_false,run_load,cell_of_block g,Array.getElem?_eq_getElem a]
  have e:c.toList.drop off=c[off]::c.toList.drop (off+1):=by
   rw [List.drop_eq_getElem_cons (by simpa using a)];simp
  simp [cellsAt,e,h]
 ·simp only [if_true,Sem.run_bind,f.size,Result.andThen_ok]
  have hlen:=T.len d
  by_cases h0:T.size=0
  ·rw [h0] at*
   simp [loadCells,loadCellsFrom,cellsAt]
  ·rw [run_loadCells g (cellsAt_length hlen h0)]
   rfl
end GV
end Go.Proofs.YtkkcidhcfkmbjaaGreatDoor

namespace Go.Proofs.YtkkcidhcfkmbjaaGreatDoor
namespace GV
open Go.IntWalk
section vals
variable {P : Program} {ρ : Option Nat} {l : Nat → Value} {R : RH} {O : List Frag} {dst : Option Tmp} {ty : TypeId} {pos : String} {after : Array Edge} {g : Option (Nat × Bool)}
theorem qi{o:Oper}(h: ∀ c,o.op≠ .defer c)(r:Operand→Value):o.semAt ρ r=execOp r o:=Oper.semAt_eq ρ r o h
theorem zi{x:Operand}{v:Value}(a:ev l x=v):Val P ρ ⟨dst,.move x,ty,pos,after,g⟩ l R O v:=by
 intro A w _;rw [qi (by intro c h;cases h)];subst a;rfl
theorem yx{x:Operand}{v:Value}(a:ev l x=v):Val P ρ ⟨dst,.assign x,ty,pos,after,g⟩ l R O v:=by
 intro A w _;rw [qi (by intro c h;cases h)];subst a;rfl
theorem z9p{c x y:Operand}{b:Bool}{v:Value}(a:ev l c= .bool b)(d:(bif b then ev l x else ev l y)=v):Val P ρ ⟨dst,.pick c x y,ty,pos,after,g⟩ l R O v:=by
 intro A w _;rw [qi (by intro c h;cases h)];subst d
 simp only [execOp,a]
 cases b<;>rfl
theorem z6m{t:TypeId}{x:Operand}{b:Bool}(a:ev l x= .bool b):Val P ρ ⟨dst,.unOp .not t x,ty,pos,after,g⟩ l R O (.bool (!b)):=by
 intro A w _;rw [qi (by intro c h;cases h)]
 simp only [execOp,a];rfl
theorem iy{w:World}{op:BinOp}{t t':TypeId}{x y:Operand}{k:IntKind}{m n:Int}{v:Value}(b:ev l x= .int k m)(c:ev l y= .int k n)
 (a:(binOp op t (.int k m) (.int k n)).run P w= .ok v w):
 (execOp (ev l) (⟨dst,.binOp op t x y t',ty,pos,after,g⟩:Oper)).run P w= .ok (.value v) w:=by
 have d:(eqGuard op t x y (.int k m) (.int k n)).run P w= .ok () w:=by
  cases op<;>rfl
 simp only [execOp,b,c,Sem.run_bind,d,Result.andThen_ok,a]
 rfl
theorem jk{t t':TypeId}{x y:Operand}{m n:Int}(a:ev l x= .int .i64 m)(b:ev l y= .int .i64 n)(d: -9223372036854775808≤m+n∧m+n≤9223372036854775807):
 Val P ρ ⟨dst,.binOp .add t x y t',ty,pos,after,g⟩ l R O (.int .i64 (m+n)):=by
 intro A w _;rw [qi (by intro c h;cases h)]
 refine iy a b ?_
 show Result.ok (Value.int .i64 (IntKind.i64.wrap (m+n))) w=_
 rw [i64_in _ d]
theorem z2d{t t':TypeId}{x y:Operand}{m n:Int}(a:ev l x= .int .i64 m)(b:ev l y= .int .i64 n)(d: -9223372036854775808≤m-n∧m-n≤9223372036854775807):
 Val P ρ ⟨dst,.binOp .sub t x y t',ty,pos,after,g⟩ l R O (.int .i64 (m-n)):=by
 intro A w _;rw [qi (by intro c h;cases h)]
 refine iy a b ?_
 show Result.ok (Value.int .i64 (IntKind.i64.wrap (m-n))) w=_
 rw [i64_in _ d]
theorem zon{t t':TypeId}{x y:Operand}{m n:Int}(a:ev l x= .int .i64 m)(b:ev l y= .int .i64 n)(d: -9223372036854775808≤m*n∧m*n≤9223372036854775807):
 Val P ρ ⟨dst,.binOp .mul t x y t',ty,pos,after,g⟩ l R O (.int .i64 (m*n)):=by
 intro A w _;rw [qi (by intro c h;cases h)]
 refine iy a b ?_
 show Result.ok (Value.int .i64 (IntKind.i64.wrap (m*n))) w=_
 rw [i64_in _ d]
theorem zbv{k:IntKind}{t t':TypeId}{x y:Operand}{m n:Int}(a:ev l x= .int k m)(b:ev l y= .int k n)(d:n≠0):
 Val P ρ ⟨dst,.binOp .quo t x y t',ty,pos,after,g⟩ l R O (.int k (k.wrap (m.tdiv n))):=by
 intro A w _;rw [qi (by intro c h;cases h)]
 refine iy a b ?_
 show (if k≠k then _ else _:Sem Value).run P w=_
 rw [if_neg (by simp)]
 show (Op.intDiv .quo k m n).run P w=_
 simp only [Op.intDiv,if_neg d];rfl
theorem zpr{k:IntKind}{t t':TypeId}{x y:Operand}{m n:Int}(a:ev l x= .int k m)(b:ev l y= .int k n)(d:n≠0):
 Val P ρ ⟨dst,.binOp .rem t x y t',ty,pos,after,g⟩ l R O (.int k (m.tmod n)):=by
 intro A w _;rw [qi (by intro c h;cases h)]
 refine iy a b ?_
 show (if k≠k then _ else _:Sem Value).run P w=_
 rw [if_neg (by simp)]
 show (Op.intDiv .rem k m n).run P w=_
 simp only [Op.intDiv,if_neg d];rfl
theorem zcu{t t':TypeId}{x y:Operand}{m n:Int}(a:ev l x= .int .i64 m)(b:ev l y= .int .i64 n)(c:0≤m∧m≤9223372036854775807∧1≤n):
 Val P ρ ⟨dst,.binOp .quo t x y t',ty,pos,after,g⟩ l R O (.int .i64 (m/n)):=by
 have:=zbv (P:=P) (ρ:=ρ) (R:=R) (O:=O) (dst:=dst) (ty:=ty) (pos:=pos) (after:=after) (g:=g) (t:=t) (t':=t') a b (by omega)
 rwa [i64_quo m n c] at this
theorem z0r{k:IntKind}{t t':TypeId}{x y:Operand}{m n:Int}(a:ev l x= .int k m)(b:ev l y= .int k n)(c:0≤m∧1≤n):
 Val P ρ ⟨dst,.binOp .rem t x y t',ty,pos,after,g⟩ l R O (.int k (m%n)):=by
 have:=zpr (P:=P) (ρ:=ρ) (R:=R) (O:=O) (dst:=dst) (ty:=ty) (pos:=pos) (after:=after) (g:=g) (t:=t) (t':=t') a b (by omega)
 rwa [rem_in m n c.1] at this
theorem jm{k:IntKind}{t t':TypeId}{x y:Operand}{m n:Int}(a:ev l x= .int k m)(b:ev l y= .int k n):
 Val P ρ ⟨dst,.binOp .lss t x y t',ty,pos,after,g⟩ l R O (.bool (decide (m<n))):=by
 intro A w _;rw [qi (by intro c h;cases h)]
 refine iy a b ?_
 show (if k≠k then _ else _:Sem Value).run P w=_
 rw [if_neg (by simp)];rfl
theorem z9t{k:IntKind}{t t':TypeId}{x y:Operand}{m n:Int}(a:ev l x= .int k m)(b:ev l y= .int k n):
 Val P ρ ⟨dst,.binOp .leq t x y t',ty,pos,after,g⟩ l R O (.bool (decide (m≤n))):=by
 intro A w _;rw [qi (by intro c h;cases h)]
 refine iy a b ?_
 show (if k≠k then _ else _:Sem Value).run P w=_
 rw [if_neg (by simp)];rfl
theorem z06{k:IntKind}{t t':TypeId}{x y:Operand}{m n:Int}(a:ev l x= .int k m)(b:ev l y= .int k n):
 Val P ρ ⟨dst,.binOp .gtr t x y t',ty,pos,after,g⟩ l R O (.bool (decide (n<m))):=by
 intro A w _;rw [qi (by intro c h;cases h)]
 refine iy a b ?_
 show (if k≠k then _ else _:Sem Value).run P w=_
 rw [if_neg (by simp)];rfl
theorem au{k:IntKind}{t t':TypeId}{x y:Operand}{m n:Int}(a:ev l x= .int k m)(b:ev l y= .int k n):
 Val P ρ ⟨dst,.binOp .geq t x y t',ty,pos,after,g⟩ l R O (.bool (decide (n≤m))):=by
 intro A w _;rw [qi (by intro c h;cases h)]
 refine iy a b ?_
 show (if k≠k then _ else _:Sem Value).run P w=_
 rw [if_neg (by simp)];rfl
theorem ng{k:IntKind}{t t':TypeId}{x y:Operand}{m n:Int}(a:ev l x= .int k m)(b:ev l y= .int k n):
 Val P ρ ⟨dst,.binOp .eql t x y t',ty,pos,after,g⟩ l R O (.bool (decide (m=n))):=by
 intro A w _;rw [qi (by intro c h;cases h)]
 refine iy a b ?_
 show (if k≠k then _ else _:Sem Value).run P w=_
 rw [if_neg (by simp)];rfl
theorem gu{k:IntKind}{t t':TypeId}{x y:Operand}{m n:Int}(a:ev l x= .int k m)(b:ev l y= .int k n):
 Val P ρ ⟨dst,.binOp .neq t x y t',ty,pos,after,g⟩ l R O (.bool (decide (m≠n))):=by
 intro A w _;rw [qi (by intro c h;cases h)]
 refine iy a b ?_
 show (if k≠k then _ else _:Sem Value).run P w=_
 rw [if_neg (by simp)]
 show Result.ok (Value.bool (m !=n)) w=_
 congr 2
 rw [Bool.eq_iff_iff];simp
def zni(P:Program)(t:TypeId):Prop:= ∀ (a b c d:Int) (x y:Operand) (w:World),
 ((do eqGuard .eql t x y (.agg #[.int .i64 a,.int .i64 b]) (.agg #[.int .i64 c,.int .i64 d]);binOp .eql t (.agg #[.int .i64 a,.int .i64 b]) (.agg #[.int .i64 c,.int .i64 d])):Sem Value).run P w= .ok (.bool (a==c&&b==d)) w
theorem zoh{t t':TypeId}{x y:Operand}{a b c d:Int}(f:zni P t)(i:ev l x= .agg #[.int .i64 a,.int .i64 b])(j:ev l y= .agg #[.int .i64 c,.int .i64 d]):
 Val P ρ ⟨dst,.binOp .eql t x y t',ty,pos,after,g⟩ l R O (.bool (decide (a=c∧b=d))):=by
 intro A w _;rw [qi (by intro c h;cases h)]
 have:=f a b c d x y w
 have e:(a==c&&b==d)=decide (a=c∧b=d):=by rw [Bool.eq_iff_iff];simp
 rw [e] at this
 simp only [execOp,i,j]
 rw [Sem.run_bind,this]
 rfl
theorem zfw{t:TypeId}{at':Array TypeId}{e:TypeId}{x:Operand}{p:Option Addr}{n c:Nat}(a:at'[0]? =some t)(b:P.underlying t=some (.slice e))(d:ev l x= .slice p n c):
 Val P ρ ⟨dst,.call ⟨.builtin .len,#[x],at'⟩,ty,pos,after,g⟩ l R O (.int .i64 n):=by
 intro A w _;rw [qi (by intro c h;cases h)]
 simp [execOp,resolve,invoke,builtin,Builtin.len_,a,underlying,b,d,goInt]
theorem jd{α:Type}{T:Ty α}{t:TypeId}{at':Array TypeId}{e:TypeId}{x:Operand}{v:Value}{X:List α}(a:at'[0]? =some t)(b:P.underlying t=some (.slice e))(c:ev l x=v)
 (d:VRep (yo T) R v X):Val P ρ ⟨dst,.call ⟨.builtin .len,#[x],at'⟩,ty,pos,after,g⟩ l R O (.int .i64 X.length):=by
 obtain⟨p,n,rfl,_⟩:=xh.1 d
 exact zfw a b c
theorem z0t{α:Type}{T:Ty α}{f:Frag}{v:Value}{X:List α}(h:ORep T R f v X): ∃ p,v= .slice p X.length (capOf v)∧X.length≤capOf v:=by
 rcases h with⟨rfl,rfl,_⟩|⟨b,pre,cs,cap,ty,rfl,_,a,_⟩
 ·exact⟨none,rfl,Nat.le_refl _⟩
 ·exact⟨_,rfl,a⟩
theorem z2f{α:Type}{T:Ty α}{t:TypeId}{at':Array TypeId}{e:TypeId}{x:Operand}{v:Value}{X:List α}{f:Frag}(a:at'[0]? =some t)(b:P.underlying t=some (.slice e))(c:ev l x=v)
 (d:ORep T R f v X):Val P ρ ⟨dst,.call ⟨.builtin .len,#[x],at'⟩,ty,pos,after,g⟩ l R O (.int .i64 X.length):=by
 obtain⟨p,h,_⟩:=z0t d
 exact zfw a b (c.trans h)
theorem jg{x:Operand}{i:Nat}{vs:Array Value}{v:Value}(a:ev l x= .tuple vs)(b:vs[i]? =some v):Val P ρ ⟨dst,.extract x i,ty,pos,after,g⟩ l R O v:=by
 intro A w _;rw [qi (by intro c h;cases h)]
 simp [execOp,a,Instr.extract,b]
theorem zf3{fn:Fn}{first captured:Array Operand}{fs cs:Array Value}(a:first.map (ev l)=fs)(b:captured.map (ev l)=cs):
 Val P ρ ⟨dst,.makeFunc fn first captured,ty,pos,after,g⟩ l R O (.func fn fs cs):=by
 intro A w _;rw [qi (by intro c h;cases h)];subst a;subst b;rfl
theorem zkr{t:TypeId}{parts:Array (Nat×Operand)}{ps:Array (Nat×Value)}{v:Value}(a:(parts.map fun(i,x)=>(i,ev l x))=ps)(h: ∀ w,(Instr.build t ps).run P w= .ok v w):
 Val P ρ ⟨dst,.build t parts,ty,pos,after,g⟩ l R O v:=by
 intro A w _;rw [qi (by intro c h;cases h)];subst a
 simp only [execOp,Sem.run_bind,h,Result.andThen_ok];rfl
theorem z4j{s d:TypeId}{x:Operand}{k k':IntKind}{ds:TypeDesc}{m:Int}(a:P.underlying s=some ds)(b:P.underlying d=some (.int k'))(e:ev l x= .int k m):
 Val P ρ ⟨dst,.convert s d x,ty,pos,after,g⟩ l R O (.int k' (k'.wrap m)):=by
 intro A w _;rw [qi (by intro c h;cases h)]
 simp [execOp,convert,underlying,a,b,e,Conv.intToInt]
theorem z8e{α:Type}{T:Ty α}{t:TypeId}{x:Operand}{v:Value}{y:α}(d:TyOk P t T)(e:ev l x=v)(f:PRep T R v y):
 ∃ u,VRep T R u y∧ ∀ (dst:Option Tmp) (ty:TypeId) (pos:String) (after:Array Edge) (g:Option (Nat×Bool)),Val P ρ ⟨dst,.load t x,ty,pos,after,g⟩ l R O u:=by
 obtain⟨b,off,c,ty',fr,rfl,i,a⟩:=f
 refine⟨T.mk' (cellsAt c off T.size),⟨_,a,rfl⟩,fun dst ty pos after g A w j=>?_⟩
 rw [qi (by intro c h;cases h)]
 simp only [execOp,e,Instr.loadAt,Instr.sureAddr,Sem.run_bind,Sem.run_pure,Result.andThen_ok,z4u d (j.ro _ _ i) a]
theorem qg{t:TypeId}{x:Operand}{b off i:Nat}{cs:List Value}{bt:TypeId}{v:Value}(d: ∀ w,(isAgg t).run P w= .ok false w)(e:ev l x= .pointer (some ⟨b,off,none⟩))
 (a:O[i]? =some (box b cs bt)) (f:cs[off]? =some v):Val P ρ ⟨dst,.load t x,ty,pos,after,g⟩ l R O v:=by
 intro A w j;rw [qi (by intro c h;cases h)]
 have hblk:w.heap[b]? =some (.cells cs.toArray bt (0,0)):=oq j (i:=i) (by rw [List.getElem?_append_left (by exact(List.getElem?_eq_some_iff.1 a).1)];exact a) (single_same _ _)
 simp [execOp,e,Instr.loadAt,Instr.sureAddr,loadVar,d,cell_of_block hblk,f]
theorem ax{t:TypeId}{x:Operand}{b off i n:Nat}{cs vs:List Value}{bt:TypeId}(j: ∀ w,(isAgg t).run P w= .ok true w)(k: ∀ w,(sizeOf t).run P w= .ok n w)(m:ev l x= .pointer (some ⟨b,off,none⟩))
 (d:O[i]? =some (box b cs bt)) (e:(cs.drop off).take n=vs) (f:vs.length=n):Val P ρ ⟨dst,.load t x,ty,pos,after,g⟩ l R O (.agg vs.toArray):=by
 intro A w o;rw [qi (by intro c h;cases h)]
 have hblk:w.heap[b]? =some (.cells cs.toArray bt (0,0)):=oq o (i:=i) (by rw [List.getElem?_append_left (by exact(List.getElem?_eq_some_iff.1 d).1)];exact d) (single_same _ _)
 have a:off+n≤cs.toArray.size∨n=0:=by
  subst e
  simp only [List.length_take,List.length_drop] at f
  simp only [List.size_toArray]
  omega
 have hload:(loadCells ⟨b,off,none⟩ n).run P w= .ok vs.toArray w:=by
  rcases a with a|a
  ·rw [run_loadCells hblk a];simp [cellsAt,e]
  ·subst a
   have:vs=[]:=List.length_eq_zero_iff.1 f
   subst this
   simp [loadCells,loadCellsFrom]
 simp [execOp,m,Instr.loadAt,Instr.sureAddr,loadVar,j,k,hload]
structure FieldOk (P:Program) (s:TypeId) (f o:Nat):Prop where
 run: ∀ (b off:Nat) (w:World),(Instr.fieldAt s (.pointer (some ⟨b,off,none⟩)) f).run P w= .ok (.pointer (some ⟨b,off+o,none⟩)) w
theorem u7{P:Program}{s:TypeId}{f o:Nat}{fs:Array Field}{fd:Field}{i:TypeInfo}(a:P.underlying s=some (.struct fs))(c:fs[f]? =some fd)(d:fd.offset=o)(hi:P.info? fd.type=some i)
 (e:(i.size==0)=false):FieldOk P s f o:=by
 refine⟨fun b off w=>?_⟩
 have g:i.size≠0:=by simpa using e
 simp [Instr.fieldAt,underlying,a,c,Instr.sureAddr,fieldPlace,sizeOf,typeInfo,hi,g,addr_add,d]
theorem zo{s:TypeId}{x:Operand}{f o b off:Nat}(a:FieldOk P s f o)(d:ev l x= .pointer (some ⟨b,off,none⟩)):
 Val P ρ ⟨dst,.fieldAddr s x f,ty,pos,after,g⟩ l R O (.pointer (some ⟨b,off+o,none⟩)):=by
 intro A w _;rw [qi (by intro c h;cases h)]
 simp [execOp,d,a.run]
theorem z9f{α β:Type}{A:Ty α}{B:Ty β}{s:TypeId}{x:Operand}{f o:Nat}{v:Value}{y:α}{pr:α→β}(a:FieldOk P s f o)(hpart:Part A o B pr)(d:ev l x=v)(e:PRep A R v y):
 ∃ u,PRep B R u (pr y)∧ ∀ (dst:Option Tmp) (ty:TypeId) (pos:String) (after:Array Edge) (g:Option (Nat×Bool)),Val P ρ ⟨dst,.fieldAddr s x f,ty,pos,after,g⟩ l R O u:=by
 obtain⟨b,off,c,ty',fr,rfl,h,i⟩:=e
 refine⟨_,⟨b,off+o,c,ty',fr,rfl,h,?_⟩,fun dst ty pos after g=>zo a d⟩
 have:=hpart.2 R _ _ i
 rwa [z9l hpart.1] at this
structure SlOk (P:Program) (t e:TypeId) {α:Type} (T:Ty α):Prop where
 u:P.underlying t=some (.slice e)
 e:TyOk P e T
theorem z4o{t e:TypeId}{b off n c i:Nat}{k:IntKind}{sz:Nat}{w:World}(a:P.underlying t=some (.slice e))(d: ∀ w,(sizeOf e).run P w= .ok sz w)(hi:i<n):
 (Instr.indexAt t (.slice (some ⟨b,off,none⟩) n c) (.int k i)).run P w= .ok (.pointer (some ⟨b,off+i*sz,none⟩)) w:=by
 have f:(0:Int)≤(i:Int)∧(i:Int)<(n:Int):=⟨by omega,by omega⟩
 simp only [Instr.indexAt,asIntOf,Sem.run_bind,Sem.run_pure,Result.andThen_ok,underlying,run_program,a]
 simp only [f,and_self,if_true,Sem.run_bind,d,Result.andThen_ok,Sem.run_pure,Int.toNat_natCast,addr_add]
theorem z97{α:Type}{T:Ty α}{t e:TypeId}{x ix:Operand}{v:Value}{X:List α}{k:IntKind}{i:Nat}{y:α}(f:SlOk P t e T)(m:ev l x=v)(o:VRep (yo T) R v X)
 (hi:ev l ix= .int k i) (j:X[i]? =some y):
 ∃ u,PRep T R u y∧ ∀ (dst:Option Tmp) (ty:TypeId) (pos:String) (after:Array Edge) (g:Option (Nat×Bool)),Val P ρ ⟨dst,.indexAddr t x ix,ty,pos,after,g⟩ l R O u:=by
 obtain⟨p,n,rfl,_,_,q⟩:=xh.1 o
 have a:i<X.length:=(List.getElem?_eq_some_iff.1 j).1
 rcases q with rfl|⟨b,off,c,ty',fr,rfl,r,d⟩
 ·simp at a
 refine⟨_,⟨b,off+i*T.size,c,ty',fr,rfl,r,d i y j⟩,fun dst ty pos after g A w s=>?_⟩
 rw [qi (by intro c h;cases h)]
 simp [execOp,m,hi,z4o f.u f.e.size a]
theorem z9h{α:Type}{T:Ty α}{t e:TypeId}{x ix:Operand}{v:Value}{X:List α}{k:IntKind}{i:Nat}{f:Frag}(a:SlOk P t e T)(j:ev l x=v)(m:ORep T R f v X)
 (hi:ev l ix= .int k i) (d:i<X.length):
 ∃ b off,v= .slice (some ⟨b,off,none⟩) X.length (capOf v)∧
  ∀ (dst:Option Tmp) (ty:TypeId) (pos:String) (after:Array Edge) (g:Option (Nat×Bool)),Val P ρ ⟨dst,.indexAddr t x ix,ty,pos,after,g⟩ l R O (.pointer (some ⟨b,off+i*T.size,none⟩)):=by
 rcases m with⟨rfl,rfl,_⟩|⟨b,pre,cs,cap,ty',rfl,rfl,o,hlen,hcell,n⟩
 ·simp at d
 refine⟨b,pre.length,rfl,fun dst ty pos after g A w p=>?_⟩
 rw [qi (by intro c h;cases h)]
 have:=z4o (P:=P) (b:=b) (off:=pre.length) (c:=cap) (k:=k) (w:=w) a.u a.e.size d
 simp [execOp,j,hi,this]
end vals
end GV
end Go.Proofs.YtkkcidhcfkmbjaaGreatDoor

namespace Go.Proofs.YtkkcidhcfkmbjaaGreatDoor
namespace GV
open Go.IntWalk
section effs
variable {P : Program} {ρ : Option Nat} {l : Nat → Value} {R : RH} {O : List Frag} {dst : Option Tmp} {ty : TypeId} {pos : String} {after : Array Edge} {g : Option (Nat × Bool)}
theorem z16{A:List Frag}{w:World}(h:Holds R (O++A) w)(o:Obj)(a:zn7 o:=by first|exact rfl|exact trivial):Holds R ((single w.heap.size o::O)++A) (w.alloc o):=holds_alloc h o a
theorem ze5{e:TypeId}{zs:List Value}(a: ∀ w,∃ z,(zeroValue e).run P w= .ok z w∧z.cells=zs.toArray):
 Eff P ρ ⟨dst,.alloc e,ty,pos,after,g⟩ l R O (fun v R' O'=>R'=R∧ ∃ b,v= .pointer (some ⟨b,0,none⟩)∧O'=box b zs e::O):=by
 intro A w d;rw [qi (by intro c h;cases h)]
 obtain⟨z,f,i⟩:=a w
 simp only [execOp,Instr.alloc,Sem.run_bind,f,Result.andThen_ok,newVar,newRow,run_newObj,Sem.run_pure,i]
 exact⟨R,_,RH.le.refl _,z16 d _,rfl,_,rfl,rfl⟩
theorem zpw{e:TypeId}{x:Operand}{v:Value}{cs:List Value}(a:ev l x=v)(d:v.cells=cs.toArray):
 Eff P ρ ⟨dst,.box e x,ty,pos,after,g⟩ l R O (fun v' R' O'=>R'=R∧ ∃ b,v'= .pointer (some ⟨b,0,none⟩)∧O'=box b cs e::O):=by
 intro A w f;rw [qi (by intro c h;cases h)]
 simp only [execOp,Instr.box,Sem.run_bind,Result.andThen_ok,newVar,newRow,run_newObj,Sem.run_pure,a,d]
 exact⟨R,_,RH.le.refl _,z16 f _,rfl,_,rfl,rfl⟩
theorem zk6{b:Nat}{o:Obj}(h:R.blk b=none):(R.add (single b o)).blk b=some o:=by simp [RH.add,h,single_same]
theorem zb5{A:List Frag}{b:Nat}{o:Obj}{w:World}(h:Holds R (single b o::A) w):R.blk b=none:=(h.own _ (List.mem_cons_self ..) b o (single_same b o)).2
theorem zmj{α:Type}{T:Ty α}{e:TypeId}{x:Operand}{v:Value}{y:α}(d:ev l x=v)(a:VRep T R v y):
 Eff P ρ ⟨dst,.box e x,ty,pos,after,g⟩ l R O (fun v' R' O'=>O'=O∧PRep T R' v' y):=by
 intro A w f;rw [qi (by intro c h;cases h)]
 obtain⟨cs,a,rfl⟩:=a
 simp only [execOp,Instr.box,Sem.run_bind,Result.andThen_ok,newVar,newRow,run_newObj,Sem.run_pure,d,zg7 a]
 have b:=z16 f (.cells cs.toArray e (0,0))
 refine⟨_,O,RH.le_add _ _,z3w b,rfl,_,0,_,e,(0,0),rfl,zk6 (zb5 b),?_⟩
 have:cellsAt cs.toArray 0 T.size=cs:=by simp [cellsAt,←T.len a]
 rw [this]
 exact T.mono (RH.le_add _ _) a
def over(cs:List Value)(off:Nat)(vs:List Value):List Value:=cs.take off++vs++cs.drop (off+vs.length)
theorem z8m{cs vs:List Value}{o:Nat}{v:Value}(h:o<cs.length):over (cs.set o v) (o+1) vs=over cs o (v::vs):=by
 unfold over
 have a:(cs.set o v).take (o+1)=cs.take o++[v]:=by
  apply List.ext_getElem?
  intro j
  simp only [List.getElem?_take,List.getElem?_set,List.getElem?_append,List.length_take,List.getElem?_singleton]
  by_cases h1:j<o
  ·rw [if_pos (by omega),if_neg (by omega),if_pos (by omega),if_pos h1]
  ·by_cases h2:j=o
   ·subst h2
    rw [if_pos (by omega),if_pos rfl,if_pos h,if_neg (by omega),if_pos (by omega)]
   ·rw [if_neg (by omega),if_neg (by omega),if_neg (by omega)]
 have b:(cs.set o v).drop (o+1+vs.length)=cs.drop (o+(v::vs).length):=by
  rw [List.drop_set_of_lt (by omega),List.length_cons]
  congr 1
  omega
 rw [a,b]
 simp
theorem run_storeCells{b:Nat}{bt:TypeId}: ∀ (vs:List Value) (cs:List Value) (off i:Nat) (w:World),w.heap[b]? =some (.cells cs.toArray bt (0,0))→off+i+vs.length≤cs.length→
 (∀ v∈vs,v.oneCell'=true)→ ∃ w',(storeCells ⟨b,off,none⟩ vs i).run P w= .ok () w'∧w'.heap[b]? =some (.cells (over cs (off+i) vs).toArray bt (0,0))∧(∀ k,k≠b→w'.heap[k]? =w.heap[k]?)∧w'.os=w.os∧w'.output=w.output
 | [],cs,off,i,w,a,_,_=>⟨w,rfl,by simpa [over] using a,fun _ _=>rfl,rfl,rfl⟩
 |v::vs,cs,off,i,w,a,m,n=>by
  have c:off+i<cs.length:=by simp at m;omega
  have o:w.cell? ((⟨b,off,none⟩:Addr).add i)=some cs[off+i]:=by rw [addr_add,cell_of_block a];simp [c]
  have f:w.frozen? ((⟨b,off,none⟩:Addr).add i)=false:=by rw [addr_add];exact z5k a
  have g:(w.setCell ((⟨b,off,none⟩:Addr).add i) v).heap[b]? =some (.cells (cs.set (off+i) v).toArray bt (0,0)):=by
   obtain⟨h,j⟩:=Array.getElem?_eq_some_iff.1 a
   rw [addr_add]
   show (w.heap.modify b _)[b]? =_
   rw [Array.getElem?_eq_getElem (by rw [Array.size_modify];exact h),Array.getElem_modify_self,j]
   simp
  have l: ∀ k,k≠b→(w.setCell ((⟨b,off,none⟩:Addr).add i) v).heap[k]? =w.heap[k]? :=fun k d=>by
   rw [addr_add]
   show (w.heap.modify b _)[k]? =_
   rw [Array.getElem?_modify,if_neg (fun e=>d e.symm)]
  obtain⟨w',h,j,p,q,r⟩:=run_storeCells vs (cs.set (off+i) v) off (i+1) _ g (by simp at m⊢;omega) (fun u s=>n u (List.mem_cons_of_mem _ s))
  refine⟨w',?_,?_,fun k d=>(p k d).trans (l k d),q,r⟩
  ·simp only [storeCells,Sem.run_bind,run_store _ _ _ _ _ (n v (List.mem_cons_self ..)),o,f,Bool.false_eq_true,if_false,Result.andThen_ok]
   exact h
  ·rw [j]
   rw [show off+(i+1)=off+i+1 from by omega,z8m c]
theorem z2r{t:TypeId}{x y:Operand}{b off i n:Nat}{cs vs:List Value}{bt:TypeId}{v:Value}(j: ∀ w,(sizeOf t).run P w= .ok n w)(k:ev l x= .pointer (some ⟨b,off,none⟩))(m:ev l y=v)
 (o:v.cells=vs.toArray) (p:vs.length=n) (e:O[i]? =some (box b cs bt)) (C:off+vs.length≤cs.length) (q: ∀ v∈vs,v.oneCell'=true):
 Eff P ρ ⟨dst,.store t x y,ty,pos,after,g⟩ l R O (fun v' R' O'=>v'=undef∧R'=R∧O'=O.set i (box b (over cs off vs) bt)):=by
 intro A w f;rw [qi (by intro c h;cases h)]
 have a:i<O.length:=(List.getElem?_eq_some_iff.1 e).1
 have hO':(O++A)[i]? =some (box b cs bt):=by rw [List.getElem?_append_left a];exact e
 have hblk:w.heap[b]? =some (.cells cs.toArray bt (0,0)):=oq f hO' (single_same _ _)
 obtain⟨w',r,s,u,z,B⟩:=run_storeCells (P:=P) vs cs off 0 w hblk (by omega) q
 have hrun:(Instr.storeAt t (.pointer (some ⟨b,off,none⟩)) v).run P w= .ok () w':=by
  simp only [Instr.storeAt,Instr.sureAddr,Sem.run_bind,Sem.run_pure,Result.andThen_ok,storeVar,j,o]
  rw [if_neg (by simp [p])]
  exact r
 have d:(execOp (ev l) (⟨dst,.store t x y,ty,pos,after,g⟩:Oper)).run P w= .ok .skip w':=by
  simp only [execOp,k,m,Sem.run_bind,hrun,Result.andThen_ok]
  rfl
 rw [d]
 refine⟨R,_,RH.le.refl _,?_,rfl,rfl,rfl⟩
 have:=z2t f hO' s u z B
 rwa [List.set_append_left _ _ a] at this
/-! ### Calls-/
def Enters(P:Program)(f:FuncId):Prop:= ∀ (args:Array Value) (w:World),(callFunc f args).run P w= .ok (.enter f args) w
theorem enters_of {f : FuncId} {fn : Func} (b : P.funcs[f]? = some fn) (a : fn.body.isNone = false) (c : (fn.name == "runtime.NumGoroutine") = false) : Enters P f := by
 intro args w
 have hb':fn.body.isNone=true→False:=fun h=>by rw [a] at h;cases h
 simp only [callFunc,Sem.run_bind,run_program,Result.andThen_ok,b,c,Bool.false_eq_true,if_false,a,Sem.run_pure]
theorem zar{c:Operand}{args:Array Operand}{at':Array TypeId}{f:FuncId}{fs cs vs:Array Value}{w:World}(a:Enters P f)(b:ev l c= .func (.func f) fs cs)(d:args.map (ev l)=vs):
 (execOp (ev l) (⟨dst,.call ⟨.value c,args,at'⟩,ty,pos,after,g⟩:Oper)).run P w= .ok (.enter f (fs++vs++cs)) w:=by
 simp only [execOp,resolve,b,d,Deferred.ofValue,Sem.run_bind,Sem.run_pure,Result.andThen_ok,invoke,a (fs++vs++cs) w]
theorem zet{f:FuncId}{c:Operand}{args:Array Operand}{at':Array TypeId}{fs cs vs d:Array Value}{post:Value→RH→Prop}(j:Enters P f)(k:ev l c= .func (.func f) fs cs)(m:args.map (ev l)=vs)
 (i:fs++vs++cs=d) (h:CallP P f d R post):
 Eff P ρ ⟨dst,.call ⟨.value c,args,at'⟩,ty,pos,after,g⟩ l R O (fun v R' O'=>O'=O∧post v R'):=by
 intro A w n;rw [qi (by intro c h;cases h),zar j k m]
 subst i
 exact Calls.mono (h _ w n) fun _ _ ⟨v,e,R',a,b,c⟩=>⟨v,e,R',O,a,b,rfl,c⟩
theorem zel{f:FuncId}{c:Operand}{args:Array Operand}{at':Array TypeId}{fs cs vs d:Array Value}{Oc Or:List Frag}{post:Value→RH→List Frag→Prop}(j:Enters P f)(k:ev l c= .func (.func f) fs cs)
 (m:args.map (ev l)=vs) (i:fs++vs++cs=d) (n:O.Perm (Oc++Or)) (h:CallG P f d R Oc post):
 Eff P ρ ⟨dst,.call ⟨.value c,args,at'⟩,ty,pos,after,g⟩ l R O (fun v R' O'=> ∃ Oc',O'=Oc'++Or∧post v R' Oc'):=by
 intro A w o;rw [qi (by intro c h;cases h),zar j k m]
 subst i
 have hh':Holds R (Oc++(Or++A)) w:=u6 o (by rw [←List.append_assoc];exact n.append_right A)
 exact Calls.mono (h _ w hh') fun _ _ ⟨v,e,R',O',a,b,c⟩=>⟨v,e,R',O'++Or,a,by rw [List.append_assoc];exact b,O',rfl,c⟩
/-! ### New arrays-/
theorem zot{α:Type}{T:Ty α}{z:α}{zs:List Value}(c:T.rep R zs z)(n:Nat):
 ∀ i x,(List.replicate n z)[i]? =some x→T.rep R (((madeCells zs.toArray (n*T.size)).toList.drop (i*T.size)).take T.size) x:=by
 intro i x a
 rw [List.getElem?_replicate] at a
 split at a
 ·rename_i hi
  cases a
  have d:=T.len c
  have:((madeCells zs.toArray (n*T.size)).toList.drop (i*T.size)).take T.size=zs:=by
   apply List.ext_getElem?
   intro k
   rw [List.getElem?_take]
   split
   ·rename_i hk
    have b:i*T.size+k<n*T.size:=by
     have:(i+1)*T.size≤n*T.size:=Nat.mul_le_mul_right _ hi
     rw [Nat.add_mul] at this
     omega
    have hmod:(i*T.size+k)%T.size=k:=by rw [Nat.add_comm,Nat.add_mul_mod_self_right,Nat.mod_eq_of_lt hk]
    rw [List.getElem?_drop,Array.getElem?_toList,madeCells,Array.getElem?_map,Array.getElem?_range]
    rw [if_pos b]
    simp only [Option.map_some,List.size_toArray,d,hmod]
    rw [List.getElem?_eq_getElem (by omega)]
    simp [d,hk]
   ·rename_i hk
    rw [List.getElem?_eq_none (by omega)]
  rw [this];exact c
 ·cases a
theorem zer{α:Type}{T:Ty α}{z:α}{zs:List Value}(b:T.rep R zs z)(n:Nat): ∀ v∈(madeCells zs.toArray (n*T.size)).toList,v.oneCell'=true:=by
 intro v c
 obtain⟨j,a⟩:=List.getElem?_of_mem c
 rw [Array.getElem?_toList,madeCells,Array.getElem?_map,Array.getElem?_range] at a
 split at a
 ·rename_i hlt
  simp only [Option.map_some,Option.some.injEq] at a
  have f:=T.len b
  have hpos:0<T.size:=by
   rcases Nat.eq_zero_or_pos T.size with h|h
   ·rw [h] at hlt;omega
   ·exact h
  have d:j%zs.length<zs.length:=Nat.mod_lt _ (by omega)
  have e:zs.toArray[j%zs.toArray.size]! =zs[j%zs.length]:=by simp [d]
  rw [e] at a
  subst a
  exact T.cell b _ (List.getElem_mem _)
 ·simp at a
structure ZeroOk (P:Program) (e:TypeId) {α:Type} (T:Ty α) (z:α) (bytes:Nat):Prop where
 info: ∃ i zv,P.info? e=some i∧i.zero=some zv∧i.size=T.size∧i.bytes=bytes∧ ∀ R,T.rep R zv.cells.toList z
theorem zgm{α:Type}{T:Ty α}{z:α}{t e:TypeId}{bytes:Nat}{x y:Operand}{n c:Nat}{k k':IntKind}(p:P.underlying t=some (.slice e))(q:ZeroOk P e T z bytes)(r:ev l x= .int k n)(s:ev l y= .int k' c)
 (b:n≤c) (u:bytes*c≤281474976710656) (G:c≤9223372036854775807):
 Eff P ρ ⟨dst,.makeSlice t x y,ty,pos,after,g⟩ l R O (fun v R' O'=>R'=R∧capOf v=c∧ ∃ f,O'=f::O∧ORep T R f v (List.replicate n z)):=by
 intro A w B;rw [qi (by intro c h;cases h)]
 obtain⟨i,zv,C,D,d,E,o⟩:=q.info
 have hrun:=run_make (P:=P) w t e i zv p C D k k' (n:Int) (c:Int) (by omega) (by omega) (by rw [E];have:=u;omega) (by omega)
 rw [Int.toNat_natCast,Int.toNat_natCast] at hrun
 have m:(execOp (ev l) (⟨dst,.makeSlice t x y,ty,pos,after,g⟩:Oper)).run P w= .ok (.value (.slice (some ⟨w.heap.size,0,none⟩) n c)) (w.alloc (.cells (madeCells zv.cells (c*i.size)) e)):=by
  simp only [execOp,r,s,Sem.run_bind,hrun,Result.andThen_ok]
  rfl
 rw [m]
 refine⟨R,_,RH.le.refl _,z16 B _,rfl,rfl,_,rfl,.inr ⟨w.heap.size,[],(madeCells zv.cells (c*i.size)).toList,c,e,by rw [List.length_replicate];rfl,by unfold box;rw [List.nil_append,Array.toArray_toList],by rw [List.length_replicate];exact b,by rw [Array.length_toList,size_madeCells,d];exact Nat.le_refl _,?_,?_⟩⟩
 ·have:=zer (o R) c
  rw [d];simpa using this
 ·intro j x a
  have F:(List.replicate c z)[j]? =some x:=by
   rw [List.getElem?_replicate] at a⊢
   split at a
   ·rw [if_pos (by omega)];exact a
   ·cases a
  have:=zot (o R) c j x F
  rw [d];simpa using this
end effs
end GV
end Go.Proofs.YtkkcidhcfkmbjaaGreatDoor

namespace Go.Proofs.YtkkcidhcfkmbjaaGreatDoor
namespace GV
open Go.IntWalk
section arr
variable {P : Program} {ρ : Option Nat} {l : Nat → Value} {R : RH} {O : List Frag} {dst : Option Tmp} {ty : TypeId} {pos : String} {after : Array Edge} {g : Option (Nat × Bool)}
def Seq{α:Type}(T:Ty α)(R:RH)(cs:List Value)(X:List α):Prop:=
 ∃ css:List (List Value),cs=css.flatten∧css.length=X.length∧ ∀ (i:Nat) (c:List Value) (x:α),css[i]? =some c→X[i]? =some x→T.rep R c x
theorem Seq.nil{α:Type}{T:Ty α}:Seq T R [] []:=⟨[],rfl,rfl,fun i c x h=>by simp at h⟩
theorem Seq.cons{α:Type}{T:Ty α}{c cs:List Value}{x:α}{X:List α}(h:T.rep R c x)(d:Seq T R cs X):Seq T R (c++cs) (x::X):=by
 obtain⟨css,rfl,e,f⟩:=d
 refine⟨c::css,by simp,by simp [e],fun i c' x' a b=>?_⟩
 cases i with
 |zero=>simp at a b;subst a;subst b;exact h
 |succ i=>simp at a b;exact f i c' x' a b
theorem Seq.append{α:Type}{T:Ty α}{cs ds:List Value}{X Y:List α}(h:Seq T R cs X)(k:Seq T R ds Y):Seq T R (cs++ds) (X++Y):=by
 obtain⟨css,rfl,d,e⟩:=h
 obtain⟨dss,rfl,kl,kr⟩:=k
 refine⟨css++dss,by simp,by simp [d,kl],fun i c x b a=>?_⟩
 rw [List.getElem?_append] at b a
 rw [←d] at a
 split at b
 ·rename_i hi;rw [if_pos hi] at a;exact e i c x b a
 ·rename_i hi;rw [if_neg hi] at a;exact kr _ c x b a
theorem Seq.len{α:Type}{T:Ty α}: ∀ {X:List α} {cs:List Value},Seq T R cs X→cs.length=X.length*T.size
 | [],cs,⟨css,e,a,b⟩=>by
  have:css=[]:=List.length_eq_zero_iff.1 a
  subst this;subst e;simp
 |x::X,cs,⟨css,e,a,b⟩=>by
  match css,a with
  |c::css,a=>
   subst e
   have d:=T.len (b 0 c x rfl rfl)
   have ih:=Seq.len (T:=T) (X:=X) (cs:=css.flatten) ⟨css,rfl,by simpa using a,fun i c' x' f g=>b (i+1) c' x' (by simpa using f) (by simpa using g)⟩
   simp [d,ih,Nat.add_mul];omega
theorem Seq.cell{α:Type}{T:Ty α}{X:List α}{cs:List Value}(h:Seq T R cs X): ∀ v∈cs,v.oneCell'=true:=by
 obtain⟨css,rfl,d,e⟩:=h
 intro v a
 obtain⟨c,f,a⟩:=List.mem_flatten.1 a
 obtain⟨i,hi⟩:=List.getElem?_of_mem f
 have b:i<X.length:=by rw [←d];exact(List.getElem?_eq_some_iff.1 hi).1
 exact T.cell (e i c X[i] hi (List.getElem?_eq_getElem b)) v a
theorem Seq.at{α:Type}{T:Ty α}: ∀ {X:List α} {cs rest:List Value} {i:Nat} {x:α},Seq T R cs X→X[i]? =some x→T.rep R (((cs++rest).drop (i*T.size)).take T.size) x
 | [],cs,rest,i,x,h,a=>by simp at a
 |y::X,cs,rest,i,x,⟨css,e,b,d⟩,a=>by
  match css,b with
  |c::css,b=>
   subst e
   have f:=T.len (d 0 c y rfl rfl)
   cases i with
   |zero=>
    simp only [List.getElem?_cons_zero,Option.some.injEq] at a
    subst a
    rw [Nat.zero_mul,List.drop_zero,List.flatten_cons,List.append_assoc,←f,List.take_left]
    exact d 0 c y rfl rfl
   |succ i=>
    have ih:=Seq.at (T:=T) (X:=X) (cs:=css.flatten) (rest:=rest) (i:=i) (x:=x) ⟨css,rfl,by simpa using b,fun i c' x' g j=>d (i+1) c' x' (by simpa using g) (by simpa using j)⟩ (by simpa using a)
    rw [List.flatten_cons,List.append_assoc,Nat.add_mul,Nat.one_mul,Nat.add_comm,←List.drop_drop]
    rw [show List.drop T.size (c++(css.flatten++rest))=css.flatten++rest from by rw [←f,List.drop_left]]
    exact ih
theorem Seq.of_at{α:Type}{T:Ty α}: ∀ {X:List α} {cs:List Value},(∀ i x,X[i]? =some x→T.rep R ((cs.drop (i*T.size)).take T.size) x)→Seq T R (cs.take (X.length*T.size)) X
 | [],cs,_=>by simpa using (Seq.nil (T:=T) (R:=R))
 |x::X,cs,h=>by
  have a:=h 0 x rfl
  rw [Nat.zero_mul,List.drop_zero] at a
  have ih:=Seq.of_at (T:=T) (X:=X) (cs:=cs.drop T.size) (fun i y b=>by
   have:=h (i+1) y (by simpa using b)
   rwa [Nat.add_mul,Nat.one_mul,Nat.add_comm,←List.drop_drop] at this)
  have e:cs.take ((x::X).length*T.size)=cs.take T.size++(cs.drop T.size).take (X.length*T.size):=by
   rw [List.length_cons,Nat.add_mul,Nat.one_mul,Nat.add_comm,List.take_add]
  rw [e]
  exact Seq.cons a ih
theorem over_pre{pre cs vs:List Value}{o:Nat}:over (pre++cs) (pre.length+o) vs=pre++over cs o vs:=by
 simp [over,List.take_append,List.drop_append,Nat.add_assoc,List.take_of_length_le]
theorem zgb{α:Type}{T:Ty α}{b:Nat}{pre cs rest:List Value}{bt:TypeId}{X:List α}{cap:Nat}(h:Seq T R cs X)(c:X.length≤cap)(d:cap*T.size≤(cs++rest).length)(e: ∀ v∈rest,v.oneCell'=true)(f: ∀ v∈pre,v.oneCell'=true):
 ORep T R (box b (pre++(cs++rest)) bt) (.slice (some ⟨b,pre.length,none⟩) X.length cap) X:=
 .inr ⟨b,pre,cs++rest,cap,bt,rfl,rfl,c,d,fun v a=>by
  rcases List.mem_append.1 a with a|a
  ·exact f v a
  rcases List.mem_append.1 a with a|a
  ·exact h.cell v a
  ·exact e v a,fun i x g=>h.at g⟩
theorem zbc{α:Type}{T:Ty α}{b:Nat}{cs rest:List Value}{bt:TypeId}{X:List α}{cap:Nat}(h:Seq T R cs X)(a:X.length≤cap)(c:cap*T.size≤(cs++rest).length)(d: ∀ v∈rest,v.oneCell'=true):
 ORep T R (box b (cs++rest) bt) (.slice (some ⟨b,0,none⟩) X.length cap) X:=zgb (pre:=[]) h a c d (fun v e=>by cases e)
theorem zi3{α:Type}{T:Ty α}{v:Value}{X:List α}(h:VRep (yo T) R v X):
 ∃ cs p n,v= .slice p X.length n∧Seq T R cs X∧ ∀ (w:World),(∀ k o,R.blk k=some o→w.heap[k]? =some o)→(Builtin.firstCells T.size X.length v).run P w= .ok cs.toArray w:=by
 obtain⟨p,n,rfl,l,m,f⟩:=xh.1 h
 rcases f with rfl|⟨b,off,c,ty,fr,rfl,g,d⟩
 ·refine⟨[],p,n,rfl,Seq.nil,fun w e=>?_⟩
  cases p with
  |none=>rfl
  |some a=>simp [Builtin.firstCells,loadCells,loadCellsFrom]
 ·have hseq:Seq T R (cellsAt c off (X.length*T.size)) X:=by
   have:=Seq.of_at (T:=T) (R:=R) (X:=X) (cs:=c.toList.drop off) (fun i x j=>by
    have:=d i x j
    rwa [cellsAt,←List.drop_drop] at this)
   exact this
  refine⟨_,_,n,rfl,hseq,fun w e=>?_⟩
  simp only [Builtin.firstCells]
  by_cases h0:X.length*T.size=0
  ·rw [h0];simp [loadCells,loadCellsFrom,cellsAt]
  ·exact run_loadCells (e _ _ g) (cellsAt_length hseq.len h0)
theorem foldl_set(vs:List Value): ∀ (j:Nat) (cells:Array Value) (off:Nat),(vs.zipIdx j).foldl (fun(cs:Array Value) (x:Value×Nat)=>cs.setIfInBounds (off+x.2) x.1) cells=(vs.zipIdx (off+j)).foldl (fun(cs:Array Value) (x:Value×Nat)=>cs.setIfInBounds x.2 x.1) cells:=by
 induction vs with
 |nil=>intros;rfl
 |cons v vs ih=>
  intro j cells off
  simp only [List.zipIdx_cons,List.foldl_cons]
  rw [ih,Nat.add_assoc]
theorem foldl_over(vs:List Value): ∀ (cells:List Value) (o:Nat),o+vs.length≤cells.length→(vs.zipIdx o).foldl (fun(cs:Array Value) (x:Value×Nat)=>cs.setIfInBounds x.2 x.1) cells.toArray=(over cells o vs).toArray:=by
 induction vs with
 |nil=>intro cells o _;simp [over]
 |cons v vs ih=>
  intro cells o h
  simp only [List.zipIdx_cons,List.foldl_cons]
  rw [show cells.toArray.setIfInBounds o v=(cells.set o v).toArray from by simp]
  rw [ih _ _ (by simp at h⊢;omega),z8m (by simp at h;omega)]
theorem zhk{sz:Nat}: ∀ (vs:List (List Value)) (k:Nat) (done rest:List Value),(∀ v∈vs,v.length=sz)→done.length=k*sz→rest.length=vs.length*sz→ ∀ (ps:List (Nat×Value)),
 ps.map (fun p=>(p.1,p.2.cells))=(vs.zipIdx k).map (fun x=>(x.2,x.1.toArray))→Instr.fill (fun i=>some (i*sz,sz)) (done++rest).toArray ps=some (done++vs.flatten).toArray
 | [],k,done,rest,_,_,d,ps,b=>by
  have:ps=[]:=by simpa using b
  subst this
  have:rest=[]:=List.length_eq_zero_iff.1 (by simpa using d)
  subst this
  rfl
 |v::vs,k,done,rest,f,e,d,ps,b=>by
  match ps,b with
  |(i,p)::ps,b=>
   simp only [List.map_cons,List.zipIdx_cons,List.cons.injEq,Prod.mk.injEq] at b
   obtain⟨⟨rfl,g⟩,b⟩:=b
   have a:=f v (List.mem_cons_self ..)
   simp only [List.length_cons,Nat.add_mul,Nat.one_mul] at d
   simp only [Instr.fill,g,List.size_toArray,a]
   rw [if_neg (by simp [e,d])]
   have hfold:Array.foldl (fun(cs:Array Value) (x:Value×Nat)=>cs.setIfInBounds (i*sz+x.2) x.1) (done++rest).toArray v.toArray.zipIdx=((done++v)++rest.drop sz).toArray:=by
    rw [←Array.foldl_toList]
    have:v.toArray.zipIdx.toList=v.zipIdx 0:=by simp
    rw [this,foldl_set,Nat.add_zero,foldl_over _ _ _ (by simp [e,a];omega)]
    congr 1
    unfold over
    rw [←e,List.take_left,a,List.drop_append,List.drop_eq_nil_of_le (by omega)]
    simp
   have:=zhk vs (i+1) (done++v) (rest.drop sz) (fun u h=>f u (List.mem_cons_of_mem _ h)) (by simp [e,a,Nat.add_mul]) (by rw [List.length_drop];omega) ps b
   rw [List.flatten_cons,←List.append_assoc,←this]
   exact congrArg (fun c=>Instr.fill (fun i=>some (i*sz,sz)) c ps) hfold
theorem z8a{α:Type}{T:Ty α}{t e:TypeId}{z:α}{bytes n:Nat}{parts:Array (Nat×Operand)}{ps:List (Nat×Value)}{css:List (List Value)}{X:List α}(y:P.underlying t=some (.slice e))(B:ZeroOk P e T z bytes)
 (C:(parts.map fun(i,x)=>(i,ev l x))=ps.toArray) (d:ps.map (fun p=>(p.1,p.2.cells))=css.zipIdx.map (fun x=>(x.2,x.1.toArray))) (r: ∀ (i:Nat) (c:List Value) (x:α),css[i]? =some c→X[i]? =some x→T.rep R c x)
 (k:css.length=X.length) (a:X.length=n) (hbig:n*T.size≤16777216):
 Eff P ρ ⟨dst,.buildSlice t n parts,ty,pos,after,g⟩ l R O (fun v R' O'=>R'=R∧capOf v=X.length∧ ∃ f,O'=f::O∧ORep T R f v X):=by
 intro A w D;rw [qi (by intro c h;cases h)]
 obtain⟨i,zv,s,E,F,H,I⟩:=B.info
 have hseq:Seq T R css.flatten X:=⟨css,rfl,k,r⟩
 have hlen:=hseq.len
 have G: ∀ c∈css,c.length=T.size:=fun c m=>by
  obtain⟨j,u⟩:=List.getElem?_of_mem m
  have o:j<X.length:=by rw [←k];exact(List.getElem?_eq_some_iff.1 u).1
  exact T.len (r j c X[j] u (List.getElem?_eq_getElem o))
 have hfill: ∀ cells:Array Value,cells.size=n*T.size→Instr.fill (fun i=>some (i*T.size,T.size)) cells ps=some css.flatten.toArray:=fun cells m=>by
  have:=zhk (sz:=T.size) css 0 [] cells.toList G (by simp) (by simp [m,k,a]) ps d
  simpa using this
 have hsize:(sizeOf e).run P w= .ok T.size w:=by simp [sizeOf,typeInfo,s,F]
 have hrun:(Instr.buildSlice t n ps.toArray).run P w= .ok (.slice (some ⟨w.heap.size,0,none⟩) n n) (w.alloc (.cells css.flatten.toArray e (0,0))):=by
  have hbig': ¬(16777216<n*T.size):=by omega
  simp only [Instr.buildSlice,Sem.run_bind,underlying,run_program,Result.andThen_ok,y,hsize,Sem.run_pure]
  by_cases h0:n*T.size=0
  ·simp [h0,hfill,newRow]
  ·simp [h0,hbig',hfill,newRow,zeroValue,typeInfo,s,E]
 have q:(execOp (ev l) (⟨dst,.buildSlice t n parts,ty,pos,after,g⟩:Oper)).run P w= .ok (.value (.slice (some ⟨w.heap.size,0,none⟩) n n)) (w.alloc (.cells css.flatten.toArray e (0,0))):=by
  simp only [execOp,C,Sem.run_bind,hrun,Result.andThen_ok]
  rfl
 rw [q]
 refine⟨R,_,RH.le.refl _,z16 D _,rfl,a.symm,_,rfl,?_⟩
 have:=zbc (b:=w.heap.size) (rest:=[]) (bt:=e) (cap:=n) hseq (by omega) (by rw [List.append_nil,hlen,a];exact Nat.le_refl _) (by simp)
 rw [List.append_nil,a] at this
 exact this
theorem zd5{need cap bytes:Nat}(h:cap<need)(a:need*bytes≤140737488355328): ¬(281474976710656<Builtin.nextslicecap need cap*bytes):=by
 have:=growslice_fits h a
 omega
theorem z6n{A:List Frag}{w:World}(h:Holds R A w):Holds R A w.drew:=⟨h.ro,h.own,h.sep,h.os,h.out⟩
theorem za8{α:Type}{T:Ty α}{z:α}{zv:Value}(a:T.rep R zv.cells.toList z)(n:Nat):(∀ v∈(Builtin.zeroCells zv.cells n).toList,v.oneCell'=true)∧(Builtin.zeroCells zv.cells n).toList.length=n*T.size:=by
 have b:=T.len a
 have e:Builtin.zeroCells zv.cells n=madeCells zv.cells.toList.toArray (n*T.size):=by
  rw [Array.toArray_toList]
  simp only [Builtin.zeroCells,madeCells,←b,Array.length_toList]
 refine⟨fun v c=>zer a n v (by rw [e] at c;exact c),by rw [Array.length_toList,size_zeroCells,←b,Array.length_toList]⟩
section app
variable {α : Type} {T : Ty α} {z : α} {bytes : Nat} {t e : TypeId} {i : TypeInfo} {zv : Value} {w : World}
theorem run_app_grow(h:P.underlying t=some (.slice e))(hi:P.info? e=some i)(a:i.zero=some zv)(j:i.size=T.size)(b:i.bytes=bytes)
 {s:Value} {base:Option Addr} {n cap:Nat} {olds:List Value} (d:s= .slice base n cap) (hold: ∀ w',w'.heap=w.heap→(Builtin.firstCells T.size n s).run P w'= .ok olds.toArray w')
 {u:Value} {p:Option Addr} {m c:Nat} {news:List Value} (f:u= .slice p m c) (hnew: ∀ w',w'.heap=w.heap→(Builtin.firstCells T.size m u).run P w'= .ok news.toArray w')
 (k:cap<n+m) (l:n+m≤9223372036854775807) (hfit:(n+m)*bytes≤140737488355328):
 (Builtin.append_ #[t,t] ty #[s,u]).run P w= .ok (.slice (some ⟨w.heap.size,0,none⟩) (n+m) (grownCap w (n+m) cap e))
  (w.drew.alloc (.cells (olds.toArray++news.toArray++Builtin.zeroCells zv.cells (grownCap w (n+m) cap e-(n+m))) e)):=by
 subst d;subst f
 have o: ¬(n+m≤cap):=by omega
 have h63': ¬(9223372036854775807<((n:Int)+(m:Int))):=by omega
 have h48': ¬(281474976710656<Builtin.nextslicecap (n+m) cap*i.bytes):=by rw [b];exact zd5 k hfit
 have q:=hnew w.drew rfl
 have g:=hold w.drew rfl
 simp [Builtin.append_,run_underlying h,sizeOf,typeInfo,zeroValue,hi,a,j,Builtin.lenOf,o,h63',h48',Question.forced,q,g,newRow,grownCap]
 congr 2
 apply Array.ext'
 simp [List.append_assoc]
theorem run_app_room(f:P.underlying t=some (.slice e))(hi:P.info? e=some i)(g:i.size=T.size)
 {b off n cap:Nat} {u:Value} {p:Option Addr} {m c:Nat} {news:List Value} (a:u= .slice p m c) (hnew:(Builtin.firstCells T.size m u).run P w= .ok news.toArray w)
 (h:n+m≤cap) {w':World} (d:(storeCells ⟨b,off+n*T.size,none⟩ news 0).run P w= .ok () w'):
 (Builtin.append_ #[t,t] ty #[.slice (some ⟨b,off,none⟩) n cap,u]).run P w= .ok (.slice (some ⟨b,off,none⟩) (n+m) cap) w':=by
 subst a
 simp [Builtin.append_,run_underlying f,sizeOf,typeInfo,hi,g,Builtin.lenOf,h,hnew,addr_add,d]
theorem run_app_nil0(b:P.underlying t=some (.slice e))(hi:P.info? e=some i)(d:i.size=T.size){u:Value}{p:Option Addr}{c:Nat}(a:u= .slice p 0 c)(hnew:(Builtin.firstCells T.size 0 u).run P w= .ok #[] w):
 (Builtin.append_ #[t,t] ty #[.slice none 0 0,u]).run P w= .ok (.slice none 0 0) w:=by
 subst a
 simp [Builtin.append_,run_underlying b,sizeOf,typeInfo,hi,d,Builtin.lenOf,hnew]
end app
theorem zai{t:TypeId}{x y:Operand}{v u r:Value}{w w':World}(a:ev l x=v)(b:ev l y=u)(h:(Builtin.append_ #[t,t] ty #[v,u]).run P w= .ok r w'):
 (execOp (ev l) (⟨dst,.call ⟨.builtin .append,#[x,y],#[t,t]⟩,ty,pos,after,g⟩:Oper)).run P w= .ok (.value r) w':=by
 have c:(#[x,y]:Array Operand).map (ev l)= #[v,u]:=by simp [a,b]
 simp only [execOp,resolve,c,Sem.run_bind,Sem.run_pure,Result.andThen_ok,invoke,builtin,h]
theorem zjg{α:Type}{T:Ty α}{z:α}{bytes:Nat}{t e:TypeId}{x y:Operand}{v u:Value}{X Y:List α}{i:Nat}{f:Frag}
 (F:P.underlying t=some (.slice e)) (hz:ZeroOk P e T z bytes) (G:ev l x=v) (H:ev l y=u) (E:O[i]? =some f) (q:ORep T R f v X) (hu':VRep (yo T) R u Y)
 (hb:(X.length+Y.length)*bytes≤140737488355328) (hm:X.length+Y.length≤9223372036854775807):
 Eff P ρ ⟨dst,.call ⟨.builtin .append,#[x,y],#[t,t]⟩,ty,pos,after,g⟩ l R O (fun v' R' O'=>R'=R∧ ∃ f',O'=O.set i f'∧ORep T R f' v' (X++Y)):=by
 intro A w r;rw [qi (by intro c h;cases h)]
 obtain⟨inf,zv,I,k2,J,k4,k5⟩:=hz.info
 obtain⟨cy,p,n,rfl,d,hload⟩:=zi3 hu'
 have hilt:i<O.length:=(List.getElem?_eq_some_iff.1 E).1
 have hO':(O++A)[i]? =some f:=by rw [List.getElem?_append_left hilt];exact E
 have m:cy.length=Y.length*T.size:=d.len
 have hnew: ∀ w',w'.heap=w.heap→(Builtin.firstCells T.size Y.length (.slice p Y.length n)).run P w'= .ok cy.toArray w':=fun w' hw'=>
  hload w' fun k o hk=>by rw [hw'];exact r.ro k o hk
 have grow: ∀ {base:Option Addr} {cap:Nat} {olds:List Value},v= .slice base X.length cap→(∀ w',w'.heap=w.heap→(Builtin.firstCells T.size X.length v).run P w'= .ok olds.toArray w')→Seq T R olds X→cap<X.length+Y.length→
  Out P (fun v' w'=> ∃ R' O',R.le R'∧Holds R' (O'++A) w'∧R'=R∧ ∃ f',O'=O.set i f'∧ORep T R f' v' (X++Y)) ((execOp (ev l) (⟨dst,.call ⟨.builtin .append,#[x,y],#[t,t]⟩,ty,pos,after,g⟩:Oper)).run P w):=by
  intro base cap olds K hold s hg
  rw [zai G H (run_app_grow (T:=T) F I k2 J k4 K hold rfl hnew hg hm hb)]
  have hcap:=grownCap_ge w (X.length+Y.length) cap e
  obtain⟨L,M⟩:=za8 (k5 R) (grownCap w (X.length+Y.length) cap e-(X.length+Y.length))
  have N:=holds_alloc (z6n r) (.cells ((olds++cy)++(Builtin.zeroCells zv.cells (grownCap w (X.length+Y.length) cap e-(X.length+Y.length))).toList).toArray e (0,0))
  have a:=zbc (b:=w.heap.size) (bt:=e) (cap:=grownCap w (X.length+Y.length) cap e) (s.append d) (rest:=(Builtin.zeroCells zv.cells (grownCap w (X.length+Y.length) cap e-(X.length+Y.length))).toList)
   (by rw [List.length_append];exact hcap) (by rw [List.length_append,List.length_append,s.len,m,M,←Nat.add_mul,←Nat.add_mul];exact Nat.mul_le_mul_right _ (by omega)) L
  refine⟨R,O.set i _,RH.le.refl _,?_,rfl,_,rfl,by rw [List.length_append] at a;exact a⟩
  have h1:Holds R (single w.heap.size (.cells ((olds++cy)++(Builtin.zeroCells zv.cells (grownCap w (X.length+Y.length) cap e-(X.length+Y.length))).toList).toArray e (0,0))::(O++A)) (w.drew.alloc (.cells (olds.toArray++cy.toArray++Builtin.zeroCells zv.cells (grownCap w (X.length+Y.length) cap e-(X.length+Y.length))) e (0,0))):=by
   have Q:(olds.toArray++cy.toArray++Builtin.zeroCells zv.cells (grownCap w (X.length+Y.length) cap e-(X.length+Y.length)))=((olds++cy)++(Builtin.zeroCells zv.cells (grownCap w (X.length+Y.length) cap e-(X.length+Y.length))).toList).toArray:=by
    apply Array.ext';simp
   rw [Q]
   exact N
  have S:(single w.heap.size (.cells ((olds++cy)++(Builtin.zeroCells zv.cells (grownCap w (X.length+Y.length) cap e-(X.length+Y.length))).toList).toArray e (0,0))::(O++A)).Perm
   (f::(O.set i (box w.heap.size ((olds++cy)++(Builtin.zeroCells zv.cells (grownCap w (X.length+Y.length) cap e-(X.length+Y.length))).toList) e)++A)):=by
   have q1:=(fw O i f E).append_right A
   have W:=(fw (O.set i (box w.heap.size ((olds++cy)++(Builtin.zeroCells zv.cells (grownCap w (X.length+Y.length) cap e-(X.length+Y.length))).toList) e)) i _ (by rw [List.getElem?_set_self hilt])).append_right A
   rw [List.eraseIdx_set_eq] at W
   exact(q1.cons _).trans ((List.Perm.swap f _ _).trans (W.symm.cons f))
  exact holds_drop (u6 h1 S)
 rcases q with⟨rfl,rfl,rfl⟩|⟨b,pre,cs,cap,bt,rfl,rfl,hc,B,C,D⟩
 ·--onto nil
  by_cases hY:Y=[]
  ·subst hY
   have h0:=hnew w rfl
   have:cy=[]:=List.length_eq_zero_iff.1 (by simpa using m)
   subst this
   rw [zai G H (run_app_nil0 F I J rfl h0)]
   refine⟨R,O,RH.le.refl _,r,rfl,emp,?_,.inl ⟨rfl,rfl,rfl⟩⟩
   apply List.ext_getElem?
   intro j
   rw [List.getElem?_set]
   split
   ·rename_i e;subst e;exact E
   ·rfl
  ·have hpos:0<Y.length:=List.length_pos_iff.2 hY
   exact grow (base:=none) (cap:=0) (olds:=[]) rfl (fun w' _=>rfl) Seq.nil (by simpa using hpos)
 ·have hblk:w.heap[b]? =some (.cells (pre++cs).toArray bt (0,0)):=oq r hO' (single_same _ _)
  by_cases hroom:X.length+Y.length≤cap
  ·have Z:X.length*T.size+cy.length≤cs.length:=by
    rw [m,←Nat.add_mul];exact Nat.le_trans (Nat.mul_le_mul_right _ hroom) B
   have U:pre.length+X.length*T.size+0+cy.length≤(pre++cs).length:=by rw [List.length_append];omega
   obtain⟨w',h2,h3,h4,h5,h6⟩:=run_storeCells (P:=P) cy (pre++cs) (pre.length+X.length*T.size) 0 w hblk U d.cell
   rw [zai G H (run_app_room (T:=T) F I J rfl (hnew w rfl) hroom h2)]
   have hset:=z2t r hO' h3 h4 h5 h6
   rw [List.set_append_left _ _ hilt] at hset
   refine⟨R,_,RH.le.refl _,hset,rfl,_,rfl,?_⟩
   have V:=Seq.of_at D
   have Q:over (pre++cs) (pre.length+X.length*T.size+0) cy=pre++((cs.take (X.length*T.size)++cy)++cs.drop (X.length*T.size+cy.length)):=by
    rw [Nat.add_zero,over_pre];simp [over]
   have a:=zgb (pre:=pre) (b:=b) (bt:=bt) (cap:=cap) (V.append d) (rest:=cs.drop (X.length*T.size+cy.length)) (by rw [List.length_append];exact hroom)
    (by simp only [List.length_append,List.length_take,List.length_drop];omega) (fun v q=>C v (List.mem_append.2 (.inr (List.mem_of_mem_drop q)))) (fun v q=>C v (List.mem_append.2 (.inl q)))
   rw [←Q,List.length_append] at a
   exact a
  ·refine grow (base:=some ⟨b,pre.length,none⟩) (cap:=cap) (olds:=cs.take (X.length*T.size)) rfl (fun w' hw'=>?_) (Seq.of_at D) (by omega)
   simp only [Builtin.firstCells]
   have hb':w'.heap[b]? =some (.cells (pre++cs).toArray bt (0,0)):=by rw [hw'];exact hblk
   rw [run_loadCells hb' (by rw [List.size_toArray,List.length_append];exact Nat.add_le_add_left (Nat.le_trans (Nat.mul_le_mul_right _ hc) B) _)]
   have:=z00 (pre:=pre) (cs:=cs) (o:=0) (k:=X.length*T.size)
   rw [Nat.add_zero] at this
   rw [this];simp [cellsAt]
end arr
end GV
end Go.Proofs.YtkkcidhcfkmbjaaGreatDoor

namespace Go.Proofs.YtkkcidhcfkmbjaaGreatDoor
namespace GV
open Go.IntWalk
section conv
variable {P : Program} {ρ : Option Nat} {n : Nat} {Q : Po} {l : Nat → Value} {D : List Nat} {R : RH} {O : List Frag} {ops : Array Oper} {os : List Oper} {c : Code}
theorem zpj{R':RH}{O':List Frag}(h: ∀ A w,Holds R (O++A) w→Holds R' (O'++A) w)(k:wg P ρ n c Q l D R' O'):wg P ρ n c Q l D R O:=fun a w b d=>k a w b (h _ w d)
theorem zpn{R':RH}{O':List Frag}(h: ∀ A w,Holds R (O++A) w→Holds R' (O'++A) w)(k:wo P ρ n ops Q os l D R' O'):wo P ρ n ops Q os l D R O:=fun a w b c=>k a w b (h _ w c)
theorem z8d{i:Nat}{f:Frag}(hi:O[i]? =some f)(A:List Frag)(w:World)(h:Holds R (O++A) w):Holds (R.add f) (O.eraseIdx i++A) w:=
 z3w (u6 h ((fw O i f hi).append_right A))
theorem z4t{α:Type}{T:Ty α}{f:Frag}{v:Value}{X:List α}{A:List Frag}{w:World}(h:ORep T R f v X)(c:Holds R (f::A) w):VRep (yo T) (R.add f) v X:=by
 rcases h with⟨rfl,rfl,rfl⟩|⟨b,pre,cs,cap,bt,rfl,rfl,d,g,j,a⟩
 ·exact z7m
 ·refine xh.2 ⟨_,cap,rfl,d,fun e=>by(cases e),.inr ⟨b,pre.length,(pre++cs).toArray,bt,(0,0),rfl,zk6 (zb5 c),fun i x k=>?_⟩⟩
  rw [z00]
  exact T.mono (RH.le_add _ _) (by simpa [cellsAt] using a i x k)
theorem z7h{i:Nat}{f:Frag}{A:List Frag}{w:World}(hi:O[i]? =some f)(h:Holds R (O++A) w):Holds R (f::(O.eraseIdx i++A)) w:=
 u6 h ((fw O i f hi).append_right A)
theorem av{α:Type}{T:Ty α}{i:Nat}{f:Frag}{v:Value}{X:List α}(hi:O[i]? =some f)(h:ORep T R f v X)
 (k: ∀ R',RH.le R R'→VRep (yo T) R' v X→wg P ρ n c Q l D R' (O.eraseIdx i)):wg P ρ n c Q l D R O:=fun a w d b=>
 k (R.add f) (RH.le_add _ _) (z4t h (z7h hi b)) a w d (z8d hi _ w b)
theorem wm{α:Type}{T:Ty α}{i:Nat}{f:Frag}{v:Value}{X:List α}(hi:O[i]? =some f)(h:ORep T R f v X)
 (k: ∀ R',RH.le R R'→VRep (yo T) R' v X→wo P ρ n ops Q os l D R' (O.eraseIdx i)):wo P ρ n ops Q os l D R O:=fun a w c b=>
 k (R.add f) (RH.le_add _ _) (z4t h (z7h hi b)) a w c (z8d hi _ w b)
def z0z(l:Nat→Value):List (Nat×Value)→Nat→Value
 | []=>l
 |(d,v)::r=>upd (z0z l r) d v
theorem ze9{l:Nat→Value}: ∀ {L:List (Nat×Value)},(∀ p∈L,l p.1=p.2)→l=z0z l L
 | [],_=>rfl
 |(d,v)::r,h=>by
  have a:l d=v:=h (d,v) (List.mem_cons_self ..)
  have b:=ze9 (l:=l) (L:=r) (fun p c=>h p (List.mem_cons_of_mem _ c))
  show l=upd (z0z l r) d v
  rw [←b,←a,znn]
/-! ### Results-/
def zn4(P:Program)(l:Nat→Value)(R:RH)(O:List Frag):ResultVar→Value→Prop
 | .tmp t,v=>l t=v
 | .cell a t,v=> ∃ p,l a= .pointer (some p)∧ ∀ w,Holds R O w→(loadVar t p).run P w= .ok v w
def zlt:List Value→Value
 | [v]=>v
 |vs=> .tuple vs.toArray
def zdd(P:Program)(l:Nat→Value)(R:RH)(O:List Frag):List ResultVar→List Value→Prop
 | [],[]=>True
 |r::rs,v::vs=>zn4 P l R O r v∧zdd P l R O rs vs
 |_,_=>False
def resOne(tmps:Array Value):ResultVar→Sem Value
 | .tmp t=>pure (tmps.getD t undef)
 | .cell a t=>do loadVar t (←asAddr (tmps.getD a undef))
theorem results_eq(fn:Func)(tmps:Array Value):results fn tmps=(do let vs←fn.results.mapM (resOne tmps);pure (if h:vs.size=1 then vs[0] else .tuple vs)):=rfl
theorem zc0{fn:Func}{rs:List ResultVar}{vs:List Value}(c:fn.results=rs.toArray)(h:zdd P l R O rs vs):
 ∀ (tmps:Array Value),(∀ i,tmps.getD i undef=l i)→ ∀ w,Holds R O w→(results fn tmps).run P w= .ok (zlt vs) w:=by
 intro tmps d w f
 have key: ∀ (rs:List ResultVar) (vs:List Value),zdd P l R O rs vs→(rs.mapM (resOne tmps)).run P w= .ok vs w:=by
  intro rs
  induction rs with
  |nil=>intro vs h;cases vs with
   |nil=>rfl
   |cons v vs=>exact h.elim
  |cons r rs ih=>intro vs h;cases vs with
   |nil=>exact h.elim
   |cons v vs=>
    obtain⟨b,g⟩:=h
    have j:(resOne tmps r).run P w= .ok v w:=by
     cases r with
     |tmp t=>simp only [zn4] at b;rw [←d t] at b;simp only [resOne,Sem.run_pure,b]
     |cell a t=>
      obtain⟨p,e,k⟩:=b
      rw [←d a] at e
      simp only [resOne,Sem.run_bind,e,asAddr,Sem.run_pure,Result.andThen_ok,k w f]
    simp only [List.mapM_cons,Sem.run_bind,j,Result.andThen_ok,ih vs g,Sem.run_pure]
 rw [results_eq,c,Sem.run_bind,List.mapM_toArray,Sem.run_map,key rs vs h]
 simp only [Result.andThen_ok,Sem.run_pure]
 congr 1
 match vs with
 | []=>rfl
 | [v]=>rfl
 |v::u::vs=>simp [zlt]
theorem zw{fn:Func}{R0:RH}{A J:List Frag}{post:Value→RH→List Frag→Prop}{rs:List ResultVar}{vs:List Value}(b:RH.le R0 R)(d:O=J++A)(c:fn.results=rs.toArray)(h:zdd P l R O rs vs)
 (e:post (zlt vs) R []):z4g P fn R0 A post .ret l D R O:=by
 refine⟨zlt vs,R,[],b,fun w a=>?_,e,zc0 c h⟩
 subst d
 exact⟨a.ro,fun f g=>a.own f (List.mem_append.2 (.inr g)),(List.pairwise_append.1 a.sep).2.1,a.os,a.out⟩
theorem uq{fn:Func}{R0:RH}{A J O':List Frag}{post:Value→RH→List Frag→Prop}{rs:List ResultVar}{vs:List Value}(b:RH.le R0 R)(d:O.Perm (J++(O'++A)))(c:fn.results=rs.toArray)(h:zdd P l R O rs vs)
 (e:post (zlt vs) R O'):z4g P fn R0 A post .ret l D R O:=by
 refine⟨zlt vs,R,O',b,fun w a=>?_,e,zc0 c h⟩
 have a:=u6 a d
 exact⟨a.ro,fun f g=>a.own f (List.mem_append.2 (.inr g)),(List.pairwise_append.1 a.sep).2.1,a.os,a.out⟩
end conv
section slices
variable {P : Program} {ρ : Option Nat} {l : Nat → Value} {R : RH} {O : List Frag} {dst : Option Tmp} {ty : TypeId} {pos : String} {after : Array Edge} {g : Option (Nat × Bool)}
theorem z7w{t e:TypeId}{p:Option Addr}{n c sz lo hi mx:Nat}{x:Operand}{xlo xhi xmx:Option Operand}{w:World}(r:P.underlying t=some (.slice e))(s: ∀ w,(sizeOf e).run P w= .ok sz w)(u:ev l x= .slice p n c)
 (b:xlo.map (ev l)=none∧lo=0∨ ∃ k,xlo.map (ev l)=some (.int k lo)) (d:xhi.map (ev l)=none∧hi=n∧xmx=none∨ ∃ k,xhi.map (ev l)=some (.int k hi))
 (i:xmx.map (ev l)=none∧mx=c∨ ∃ k,xmx.map (ev l)=some (.int k mx)) (j:lo≤hi) (f:hi≤mx) (q:mx≤c) (v:xmx=none→hi≤c):
 (execOp (ev l) (⟨dst,.slice t x xlo xhi xmx,ty,pos,after,g⟩:Oper)).run P w= .ok (.value (.slice (if mx=lo then p else p.map (·.add (lo*sz))) (hi-lo) (mx-lo))) w:=by
 have a: ∀ (k:IntKind) (m y:Nat) (code:BoundsCode),m≤y→(Instr.sliceBound (.int k (m:Int)) y code).run P w= .ok m w:=fun k m y code h=>by
  have:(0:Int)≤(m:Int)∧(m:Int)≤(y:Int):=⟨by omega,by omega⟩
  simp only [Instr.sliceBound,asIntOf,Sem.run_bind,Sem.run_pure,Result.andThen_ok,this,and_self,if_true,Int.toNat_natCast]
 have o:(Instr.sliceBounds true n c (xlo.map (ev l)) (xhi.map (ev l)) (xmx.map (ev l))).run P w= .ok (lo,hi,mx) w:=by
  unfold Instr.sliceBounds
  rcases i with⟨em,rfl⟩|⟨km,em⟩
  ·rw [em]
   rcases d with⟨eh,rfl,_⟩|⟨kh,eh⟩
   ·rw [eh]
    rcases b with⟨el,rfl⟩|⟨kl,el⟩
    ·rw [el];simp
    ·rw [el];simp [a _ _ _ _ j]
   ·rw [eh]
    rcases b with⟨el,rfl⟩|⟨kl,el⟩
    ·rw [el];simp [a _ _ _ _ f]
    ·rw [el];simp [a _ _ _ _ j,a _ _ _ _ f]
  ·rw [em]
   rcases d with⟨eh,rfl,en⟩|⟨kh,eh⟩
   ·rw [en] at em;cases em
   ·rw [eh]
    rcases b with⟨el,rfl⟩|⟨kl,el⟩
    ·rw [el];simp [a _ _ _ _ f,a _ _ _ _ q]
    ·rw [el];simp [a _ _ _ _ j,a _ _ _ _ f,a _ _ _ _ q]
 simp only [execOp,u,Instr.sliceAt,Instr.slice,Sem.run_bind,underlying,run_program,r,Result.andThen_ok,Sem.run_pure,o,s]
theorem zck{α:Type}{T:Ty α}{t e:TypeId}{lo hi mx:Nat}{x:Operand}{xlo xhi xmx:Option Operand}{v:Value}{X:List α}(q:SlOk P t e T)(d:ev l x=v)(s:VRep (yo T) R v X)
 (f:xlo.map (ev l)=none∧lo=0∨ ∃ k,xlo.map (ev l)=some (.int k lo)) (j:xhi.map (ev l)=none∧hi=X.length∧xmx=none∨ ∃ k,xhi.map (ev l)=some (.int k hi))
 (m:xmx.map (ev l)=none∧mx=capOf v∨ ∃ k,xmx.map (ev l)=some (.int k mx)) (y:lo≤hi) (E:hi≤X.length) (z:hi≤mx) (B:mx≤capOf v):
 ∃ u,VRep (yo T) R u ((X.drop lo).take (hi-lo))∧capOf u=mx-lo∧ ∀ (dst:Option Tmp) (ty:TypeId) (pos:String) (after:Array Edge) (g:Option (Nat×Bool)),Val P ρ ⟨dst,.slice t x xlo xhi xmx,ty,pos,after,g⟩ l R O u:=by
 obtain⟨p,n,rfl,F,r,C⟩:=xh.1 s
 simp only [capOf] at*
 refine⟨.slice (if mx=lo then p else p.map (·.add (lo*T.size))) (hi-lo) (mx-lo),?_,rfl,fun dst ty pos after g A w G=>?_⟩
 ·have hlen:((X.drop lo).take (hi-lo)).length=hi-lo:=by simp;omega
  refine xh.2 ⟨_,mx-lo,by rw [hlen],by rw [hlen];omega,fun e=>?_,?_⟩
  ·have:X=[]:=by
    split at e
    ·exact r e
    ·cases p with
     |none=>exact r rfl
     |some a=>cases e
   subst this;simp
  ·rcases C with rfl|⟨b,off,c,bt,fr,rfl,D,o⟩
   ·left;simp
   ·by_cases hm:mx=lo
    ·left
     have:hi-lo=0:=by omega
     rw [this,List.take_zero]
    ·right
     refine⟨b,off+lo*T.size,c,bt,fr,by rw [if_neg hm];simp [addr_add],D,fun i x d=>?_⟩
     rw [List.getElem?_take] at d
     split at d
     ·rw [List.getElem?_drop] at d
      have:=o (lo+i) x d
      rwa [Nat.add_mul,←Nat.add_assoc] at this
     ·cases d
 ·rw [qi (by intro c h;cases h)]
  exact z7w q.u q.e.size d f j m y z B (fun _=>by omega)
theorem zaz{α:Type}{T:Ty α}{t:TypeId}{x:Operand}{f:Frag}{v:Value}{X:List α}{i j b off:Nat}{y:α}(n:TyOk P t T)(o:ORep T R f v X)(d:v= .slice (some ⟨b,off,none⟩) X.length (capOf v))(e:O[j]? =some f)
 (p:ev l x= .pointer (some ⟨b,off+i*T.size,none⟩)) (k:X[i]? =some y):
 ∃ u,VRep T R u y∧ ∀ (dst:Option Tmp) (ty:TypeId) (pos:String) (after:Array Edge) (g:Option (Nat×Bool)),Val P ρ ⟨dst,.load t x,ty,pos,after,g⟩ l R O u:=by
 rcases o with⟨rfl,rfl,_⟩|⟨b',pre,cs,cap,bt,rfl,rfl,z,q,r,a⟩
 ·simp at k
 ·simp only [capOf,Value.slice.injEq,Option.some.injEq,Addr.mk.injEq,and_true] at d
  obtain⟨rfl,rfl⟩:=d
  have m:T.rep R (cellsAt (pre++cs).toArray (pre.length+i*T.size) T.size) y:=by rw [z00];simpa [cellsAt] using a i y k
  refine⟨T.mk' (cellsAt (pre++cs).toArray (pre.length+i*T.size) T.size),⟨_,m,rfl⟩,fun dst ty pos after g A w s=>?_⟩
  rw [qi (by intro c h;cases h)]
  have hblk:w.heap[b']? =some (.cells (pre++cs).toArray bt (0,0)):=oq s (i:=j) (by rw [List.getElem?_append_left (by exact(List.getElem?_eq_some_iff.1 e).1)];exact e) (single_same _ _)
  simp only [execOp,p,Instr.loadAt,Instr.sureAddr,Sem.run_bind,Sem.run_pure,Result.andThen_ok,z4u n hblk (R:=R) (x:=y) m]
theorem zcs{α:Type}{T:Ty α}{t:TypeId}{x y:Operand}{f:Frag}{v u:Value}{X:List α}{i j b off:Nat}{z:α}(q:TyOk P t T)(a:ORep T R f v X)(p:v= .slice (some ⟨b,off,none⟩) X.length (capOf v))(r:O[j]? =some f)
 (s:ev l x= .pointer (some ⟨b,off+i*T.size,none⟩)) (hi:i<X.length) (w:ev l y=u) (A:VRep T R u z):
 Eff P ρ ⟨dst,.store t x y,ty,pos,after,g⟩ l R O (fun v' R' O'=>v'=undef∧R'=R∧ ∃ f',O'=O.set j f'∧ORep T R f' v (X.set i z)):=by
 rcases a with⟨rfl,rfl,_⟩|⟨b',pre,cs,cap,bt,rfl,rfl,B,C,e,m⟩
 ·simp at hi
 ·simp only [capOf,Value.slice.injEq,Option.some.injEq,Addr.mk.injEq,and_true] at p
  obtain⟨rfl,rfl⟩:=p
  obtain⟨vs,c,rfl⟩:=A
  have hlen:=T.len c
  have hroom:i*T.size+T.size≤cs.length:=by
   have:(i+1)*T.size≤cap*T.size:=Nat.mul_le_mul_right _ (by omega)
   rw [Nat.add_mul,Nat.one_mul] at this
   omega
  refine(z2r (dst:=dst) (ty:=ty) (pos:=pos) (after:=after) (g:=g) q.size s w (zg7 c) hlen r (by rw [List.length_append];omega) (T.cell c)).mono ?_
  rintro v' R' O' _ ⟨rfl,rfl,rfl⟩
  refine⟨rfl,rfl,_,rfl,.inr ⟨b',pre,over cs (i*T.size) vs,cap,bt,by rw [List.length_set],by rw [over_pre],by rw [List.length_set];exact B,?_,?_,fun k x h=>?_⟩⟩
  ·simp only [over,List.length_append,List.length_take,List.length_drop];omega
  ·intro v a
   simp only [over,List.mem_append] at a
   rcases a with a|(a|a)|a
   ·exact e v (List.mem_append.2 (.inl a))
   ·exact e v (List.mem_append.2 (.inr (List.mem_of_mem_take a)))
   ·exact T.cell c v a
   ·exact e v (List.mem_append.2 (.inr (List.mem_of_mem_drop a)))
  ·rw [List.getElem?_set] at h
   by_cases hik:i=k
   ·subst hik
    rw [if_pos rfl,if_pos hi] at h
    cases h
    have:((over cs (i*T.size) vs).drop (i*T.size)).take T.size=vs:=by
     unfold over
     rw [List.append_assoc,List.drop_append,List.drop_eq_nil_of_le (by rw [List.length_take];exact Nat.min_le_left _ _),List.length_take,Nat.min_eq_left (by omega),Nat.sub_self,List.drop_zero,List.nil_append,←hlen,List.take_left]
    rw [this];exact c
   ·rw [if_neg hik] at h
    have D:=m k x h
    have:((over cs (i*T.size) vs).drop (k*T.size)).take T.size=(cs.drop (k*T.size)).take T.size:=by
     apply List.ext_getElem?
     intro j
     rw [List.getElem?_take,List.getElem?_take]
     split
     ·rename_i hj
      rw [List.getElem?_drop,List.getElem?_drop]
      unfold over
      have n:k*T.size+j<i*T.size∨i*T.size+T.size≤k*T.size+j:=by
       rcases Nat.lt_or_ge k i with d|o
       ·left
        have:(k+1)*T.size≤i*T.size:=Nat.mul_le_mul_right _ d
        rw [Nat.add_mul,Nat.one_mul] at this;omega
       ·right
        have:(i+1)*T.size≤k*T.size:=Nat.mul_le_mul_right _ (by omega)
        rw [Nat.add_mul,Nat.one_mul] at this;omega
      rw [List.append_assoc,List.getElem?_append,List.length_take,Nat.min_eq_left (by omega)]
      rcases n with d|o
      ·rw [if_pos d,List.getElem?_take,if_pos d]
      ·rw [if_neg (by omega),List.getElem?_append,hlen,if_neg (by omega),List.getElem?_drop]
       congr 1;omega
     ·rfl
    rw [this];exact D
end slices
end GV
end Go.Proofs.YtkkcidhcfkmbjaaGreatDoor
