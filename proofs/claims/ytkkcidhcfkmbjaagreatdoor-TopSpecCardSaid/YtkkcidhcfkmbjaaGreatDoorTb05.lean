
import Derived.Test.YtkkcidhcfkmbjaaGreatDoorPar05
set_option linter.unusedVariables false
set_option linter.unusedSimpArgs false
set_option linter.unusedSectionVars false
namespace Go.Proofs.YtkkcidhcfkmbjaaGreatDoor
namespace GV
theorem ze6{N:Nat}{s:List UInt8}(h:Nm s)(d:20≤N):z15 N s=some true:=by
 obtain⟨c,t,rfl,g⟩:=h.ne
 have a:=zd9 (N:=N) (rest:=[]) h (fun b r e=>by cases e) d
 rw [List.append_nil] at a
 unfold z15
 have f:z1l N (⟨1,c::t,0,0⟩:Sa)=some 0:=by
  unfold z1l
  rw [yn (by simp),qa a,cf (by simp)]
 rw [qa f]
 rfl
theorem zko{N:Nat}{s:List UInt8}(h:Nm s)(a:s∉z7b)(c:20≤N):z1k N s=some false:=by
 unfold z1k
 have d:lq N=some z7b:=rfl
 rw [qa (ze6 h c),zk9 (b:=true&&(!true)==false) rfl,d,Option.map_some,zfu,zk9 (b:=true&&(!true)==false) rfl]
 have e:slices_Contains_string N ((some z7b).getD default) s=some false:=z9a a (by simp [z7b];omega) (by simp [z7b])
 rw [e]
 rfl
theorem zb9{N:Nat}{l:List (List UInt8)}{f:List UInt8→Option Bool}(b: ∀ n∈l,f n=some false)(d:l.length<N)(e:l.length≤1000000):uw N l f=some false:=by
 have c:kg N l f N 0=some (Ex.go ()):=by
  refine mi (σ:=Unit) (fun F k _=>kg N l f F (k:Int)) l.length (fun _ _=>True) _ (fun F k _ a _=> .inr ⟨(),trivial,?_⟩) (fun F _ _=>?_) N 0 () (Nat.zero_le _) (by omega) trivial
  ·simp only [kg]
   rw [aj (by omega),zu (uf a),sj,qa (b _ (z8h a)),cf rfl,zu (je (by omega))]
   rfl
  ·simp only [kg]
   rw [yn (by omega)]
 unfold uw eu
 rw [qa c,zku]
 rfl
def zpe(l:List (List UInt8)):Bool:=(bd (di NN l) fun a=>bd (slices_Compact_string NN a) fun b=>some (decide ((b.length:Int)<(l.length:Int))))==some false
structure GL (l:List (List UInt8)):Prop where
 nl:NL l
 nm: ∀ n∈l,Nm n
 cmp:zpe l=true
theorem zmm{l:List (List UInt8)}(h:zpe l=true): ∃ a b,di NN l=some a∧slices_Compact_string NN a=some b∧ ¬((b.length:Int)<(l.length:Int)):=by
 unfold zpe at h
 have h:=eq_of_beq h
 obtain⟨a,c,h⟩:=zl h
 obtain⟨b,d,h⟩:=zl h
 exact⟨a,b,c,d,of_decide_eq_false (Option.some.inj h)⟩
structure SpOk (x:Sb):Prop where
 chk:ow NN x.fD=some 0
 ni:(x.fG.length:Int)=x.fD.inputs
 no:(x.fF.length:Int)=x.fD.outputs
 ns:x.fC.length=x.fD.rows.length
 gn:GL [x.fA]
 gi:GL x.fG
 go:GL x.fF
 gs:GL x.fC
theorem z9k{x:Sb}(h:SpOk x):z01 NN x=some 0:=by
 have d: ∀ k,k<4→GL (([([x.fA]:List (List UInt8)),x.fG,x.fF,x.fC]:List (List (List UInt8))).getD k default):=fun k c=>by
  match k,c with
  |0,_=>exact h.gn
  |1,_=>exact h.gi
  |2,_=>exact h.go
  |3,_=>exact h.gs
 have f:dh NN x NN 0=some (Ex.go ()):=by
  refine mi (σ:=Unit) (fun F k _=>dh NN x F (k:Int)) 4 (fun _ _=>True) _ (fun F k _ c _=> .inr ⟨(),trivial,?_⟩) (fun F _ _=>?_) NN 0 () (by omega) (by decide) trivial
  ·simp only [dh]
   have:=d k c
   rw [aj (by simp;omega),zu (uf (by simpa using c)),sj,qa (zb9 (fun n e=>zko (this.nm n e) (this.nl.res n e) (by decide)) (by have:=this.nl.len;unfold NN;omega) (by have:=this.nl.len;omega)),cf rfl,zu (je (by omega))]
   rfl
  ·simp only [dh]
   rw [yn (by simp)]
 have g:pq NN x NN 0=some (Ex.go ()):=by
  refine mi (σ:=Unit) (fun F k _=>pq NN x F (k:Int)) 4 (fun _ _=>True) _ (fun F k _ c _=> .inr ⟨(),trivial,?_⟩) (fun F _ _=>?_) NN 0 () (by omega) (by decide) trivial
  ·simp only [pq]
   obtain⟨a,b,i,j,m⟩:=zmm (d k c).cmp
   have o: ∀ l,fq NN l=some l:=fun _=>rfl
   rw [aj (by simp;omega),zu (uf (by simpa using c)),sj,qa (o _),qa i,qa j,yn m,zu (je (by omega))]
   rfl
  ·simp only [pq]
   rw [yn (by simp)]
 unfold z01
 rw [qa h.chk,yn (by simp),cf (by have:=h.ni;have:=h.no;have:=h.ns;simp;omega),qa f,zku,qa g,zku]
/-! ### The text-/
def z3e(l:List (List UInt8)):List UInt8:=qz l [32]++[59,10]
def zba(ins ou st:List (List UInt8))(s i:Nat)(e:Edge):List (List UInt8):=[st.getD s default,ins.getD i default,[47],ou.getD e.out.toNat default,[45,62],st.getD e.to.toNat default]
def z8t(ins ou st:List (List UInt8))(s:Nat):Nat→List Edge→List UInt8
 |_,[]=>[]
 |c,e::r=>(if e.to= -1 then [] else z3e (zba ins ou st s c e))++z8t ins ou st s (c+1) r
def zb8(ins ou st:List (List UInt8)):Nat→List (List Edge)→List UInt8
 |_,[]=>[]
 |s,row::R=>z8t ins ou st s 0 row++zb8 ins ou st (s+1) R
def LG(s:List UInt8)(toks:List (Int×List UInt8)):Prop:= ∀ g,Bl g→Lex (g++s) toks
theorem bl0:Bl []:=fun b a=>by cases a
theorem zuf:Bl [32]:=fun b a=>by simp at a;exact .inl a
theorem zua:Bl [10]:=fun b a=>by simp at a;exact .inr a
theorem LG.sp{s:List UInt8}{toks:List (Int×List UInt8)}(h:LG s toks):Lex (32::s) toks:=h [32] zuf
theorem LG.nl{s:List UInt8}{toks:List (Int×List UInt8)}(h:LG s toks):Lex (10::s) toks:=h [10] zua
theorem LG.z{s:List UInt8}{toks:List (Int×List UInt8)}(h:LG s toks):Lex s toks:=h [] bl0
theorem zab{t rest:List UInt8}{toks:List (Int×List UInt8)}(a:Nm t)(b:NoW rest)(h:Lex rest toks):LG (t++rest) ((1,t)::toks):=fun g c=> .nm g t rest toks c a b h
theorem zm7{c:UInt8}{rest:List UInt8}{toks:List (Int×List UInt8)}(a:Mk1 c)(h:Lex rest toks):LG (c::rest) ((3,[c])::toks):=fun g b=> .mk g c rest toks b a h
theorem zsv{rest:List UInt8}{toks:List (Int×List UInt8)}(h:Lex rest toks):LG (45::62::rest) ((3,[45,62])::toks):=fun g a=> .ar g rest toks a h
theorem zk0{r:List UInt8}:NoW (32::r):=fun b s e=>by cases e;decide
theorem zjm{r:List UInt8}:NoW (59::r):=fun b s e=>by cases e;decide
theorem zta{r:List UInt8}:NoW (44::r):=fun b s e=>by cases e;decide
theorem zfd{rest:List UInt8}{toks:List (Int×List UInt8)}(h:LG rest toks):LG (59::10::rest) ((3,[59])::toks):=zm7 (.inl rfl) h.nl
theorem z9o{rest:List UInt8}{toks:List (Int×List UInt8)}(h:LG rest toks): ∀ l:List (List UInt8),l≠[]→(∀ n∈l,Nm n)→LG (qz l [44,32]++(59::10::rest)) (zb7 l++toks)
 | [],h,_=>absurd rfl h
 | [n],_,a=>zab (a n (List.mem_cons_self ..)) zjm (zfd h).z
 |n::m::l,_,a=>by
  have ih:=z9o h (m::l) (by simp) (fun x b=>a x (List.mem_cons_of_mem _ b))
  have:=zab (a n (List.mem_cons_self ..)) zta (zm7 (.inr (.inl rfl)) ih.sp).z
  simpa [qz,zb7] using this
theorem zom{ins ou st:List (List UInt8)}{s i:Nat}{e:Edge}{rest:List UInt8}{toks:List (Int×List UInt8)}(h:LG rest toks)(a:Nm (st.getD s default))(b:Nm (ins.getD i default))(d:Nm (ou.getD e.out.toNat default))(f:Nm (st.getD e.to.toNat default)):
 LG (z3e (zba ins ou st s i e)++rest) (zjz ins ou st s i e++toks):=by
 have:=zab a zk0 (zab b zk0 (zm7 (c:=47) (.inr (.inr rfl)) (zab d zk0 (zsv (zab f zjm (zfd h).z).sp).sp).sp).sp).sp
 simpa [z3e,zba,qz,zjz] using this
theorem z3d{l:List (List UInt8)}(h: ∀ n∈l,Nm n){k:Nat}(a:k<l.length):Nm (l.getD k default):=h _ (z8h a)
theorem zmi{ins ou st:List (List UInt8)}(hi: ∀ n∈ins,Nm n)(d: ∀ n∈ou,Nm n)(b: ∀ n∈st,Nm n){s:Nat}(a:s<st.length){rest:List UInt8}{toks:List (Int×List UInt8)}(h:LG rest toks): ∀ (r:List Edge) (c:Nat),c+r.length≤ins.length→(∀ e∈r,EOK ou st e)→
 LG (z8t ins ou st s c r++rest) (ze8 ins ou st s c r++toks)
 | [],_,_,_=>h
 |e::r,c,g,f=>by
  simp only [List.length_cons] at g
  have ih:=zmi hi d b a h r (c+1) (by omega) (fun x i=>f x (List.mem_cons_of_mem _ i))
  simp only [z8t,ze8]
  by_cases ht:e.to= -1
  ·rw [if_pos ht,if_pos ht];exact ih
  ·rw [if_neg ht,if_neg ht,List.append_assoc,List.append_assoc]
   have j:0≤e.to∧e.to<st.length∧0≤e.out∧e.out<ou.length:=by
    rcases f e (List.mem_cons_self ..) with h|h
    ·subst h;exact absurd rfl ht
    ·exact h
   exact zom ih (z3d b a) (z3d hi (by omega)) (z3d d (by omega)) (z3d b (by omega))
theorem znt{ins ou st:List (List UInt8)}(hi: ∀ n∈ins,Nm n)(a: ∀ n∈ou,Nm n)(b: ∀ n∈st,Nm n){rest:List UInt8}{toks:List (Int×List UInt8)}(h:LG rest toks): ∀ (R:List (List Edge)) (s:Nat),s+R.length≤st.length→(∀ row∈R,row.length=ins.length∧ ∀ e∈row,EOK ou st e)→
 LG (zb8 ins ou st s R++rest) (zcb ins ou st s R++toks)
 | [],_,_,_=>h
 |row::R,s,d,c=>by
  simp only [List.length_cons] at d
  obtain⟨i,f⟩:=c row (List.mem_cons_self ..)
  have ih:=znt hi a b h R (s+1) (by omega) (fun x g=>c x (List.mem_cons_of_mem _ g))
  simp only [zb8,zcb]
  rw [List.append_assoc,List.append_assoc]
  exact zmi hi a b (by omega) ih row 0 (by omega) f
def zeg(nm:List UInt8)(ins ou st:List (List UInt8))(R:List (List Edge)):List UInt8:=
 z3e [[109,97,99,104,105,110,101],nm]++(z3e [[105,110,112,117,116,115],qz ins [44,32]]++(z3e [[111,117,116,112,117,116,115],qz ou [44,32]]++(z3e [[115,116,97,116,101,115],qz st [44,32]]++(zb8 ins ou st 0 R++z3e [[101,110,100]]))))
theorem zbs{a b rest:List UInt8}{toks:List (Int×List UInt8)}(c:Nm a)(h:LG (b++(59::10::rest)) toks):LG (z3e [a,b]++rest) ((1,a)::toks):=by
 have:=zab c zk0 h.sp
 have e:z3e [a,b]++rest=a++(32::(b++(59::10::rest))):=by simp [z3e,qz]
 rw [e];exact this
theorem zdu{w:List UInt8}(h:(match w with| []=>false|c::t=>zgp c&&(c::t).all zfz&&decide ((c::t).length≤16))=true):Nm w:=by
 cases w with
 |nil=>cases h
 |cons c t=>
  simp only [Bool.and_eq_true,decide_eq_true_eq,List.all_eq_true] at h
  exact⟨⟨c,t,rfl,h.1.1⟩,h.1.2,h.2⟩
theorem zm9{nm:List UInt8}{ins ou st:List (List UInt8)}{R:List (List Edge)}(i:Nm nm)(hi: ∀ n∈ins,Nm n)(f: ∀ n∈ou,Nm n)(h: ∀ n∈st,Nm n)(b:ins≠[])(c:ou≠[])(d:st≠[])(s:R.length≤st.length)(j: ∀ row∈R,row.length=ins.length∧ ∀ e∈row,EOK ou st e):
 Lex (zeg nm ins ou st R) (zm4 nm ins ou st R):=by
 have k:LG (z3e [[101,110,100]]) [(1,[101,110,100]),(3,[59])]:=by
  have:LG ([101,110,100]++(59::10::[])) [(1,[101,110,100]),(3,[59])]:=zab (zdu (by decide)) zjm (zfd (fun g l=>by rw [List.append_nil];exact .nil g l)).z
  exact this
 have m:=znt hi f h k R 0 (by omega) j
 have o:=zbs (a:=[115,116,97,116,101,115]) (zdu (by decide)) (z9o m st d h)
 have p:=zbs (a:=[111,117,116,112,117,116,115]) (zdu (by decide)) (z9o o ou c f)
 have q:=zbs (a:=[105,110,112,117,116,115]) (zdu (by decide)) (z9o p ins b hi)
 have r:=zbs (a:=[109,97,99,104,105,110,101]) (zdu (by decide)) (zab i zjm (zfd q).z)
 exact r.z
end GV
end Go.Proofs.YtkkcidhcfkmbjaaGreatDoor

namespace Go.Proofs.YtkkcidhcfkmbjaaGreatDoor
namespace GV
theorem z0k{s:List UInt8}: ∀ l:List (List UInt8),(∀ x∈l,x.length≤16)→(qz l s).length≤l.length*(16+s.length)
 | [],_=>by simp [qz]
 | [x],h=>by have:=h x (List.mem_cons_self ..);simp [qz];omega
 |x::y::r,h=>by
  have c:=h x (List.mem_cons_self ..)
  have a:=z0k (s:=s) (y::r) (fun z b=>h z (List.mem_cons_of_mem _ b))
  simp only [qz,List.length_append,List.length_cons,Nat.add_mul] at a⊢
  omega
theorem zkn{ins ou st:List (List UInt8)}(hi: ∀ n∈ins,Nm n)(c: ∀ n∈ou,Nm n)(a: ∀ n∈st,Nm n){s i:Nat}{e:Edge}(d:s<st.length)(f:i<ins.length)(g:e.out.toNat<ou.length)(h:e.to.toNat<st.length):
 (qz (zba ins ou st s i e) [32]).length≤102:=by
 have:=z0k (s:=[32]) (zba ins ou st s i e) (fun x b=>by
  simp only [zba,List.mem_cons,List.not_mem_nil,or_false] at b
  rcases b with rfl|rfl|rfl|rfl|rfl|rfl
  ·exact(z3d a d).len
  ·exact(z3d hi f).len
  ·decide
  ·exact(z3d c g).len
  ·decide
  ·exact(z3d a h).len)
 exact this
structure TOk (x:Sb):Prop where
 ok:SpOk x
 i3:x.fG.length≤3
 o3:x.fF.length≤3
 s6:x.fC.length≤6
 i1:1≤x.fG.length
 o1:1≤x.fF.length
 s1:1≤x.fC.length
 row: ∀ row∈x.fD.rows,row.length=x.fG.length∧ ∀ e∈row,EOK x.fF x.fC e
theorem zf5{x:Sb}(h:TOk x){s:Nat}{row:List Edge}(hrow:x.fD.rows.getD s default=row)(d:s<x.fC.length): ∀ (rest done:List Edge) (acc:List UInt8) (F:Nat),row=done++rest→rest.length<F→done.length+rest.length≤x.fG.length→
 (∀ e∈rest,EOK x.fF x.fC e)→acc.length+104*rest.length≤60000→tq NN x (s:Int) F (done.length:Int) acc=some (acc++z8t x.fG x.fF x.fC s done.length rest)∧(z8t x.fG x.fF x.fC s done.length rest).length≤104*rest.length
 | [],done,acc,F+1,c,_,n,_,_=>by
  refine⟨?_,Nat.le_refl _⟩
  simp only [tq]
  rw [sj,hrow,yn (by rw [c];simp)]
  simp [z8t]
 |e::rest,done,acc,0,_,g,_,_,_=>by omega
 | [],done,acc,0,_,g,_,_,_=>by omega
 |e::rest,done,acc,F+1,c,g,n,j,o=>by
  simp only [List.length_cons] at g n o
  have k:ix (ix x.fD.rows (s:Int)) (done.length:Int)=e:=by rw [sj,sj,hrow,c,z5m]
  have hlen:(ix x.fD.rows (s:Int)).length=done.length+(rest.length+1):=by rw [sj,hrow,c];simp
  have hlim:z0m=140737488355328:=rfl
  have p:=h.i3
  simp only [tq,k]
  rw [aj (by rw [hlen];omega)]
  by_cases ht:e.to= -1
  ·obtain⟨a,b⟩:=zf5 h hrow d rest (done++[e]) acc F (by rw [c];simp) (by omega) (by simp;omega) (fun y l=>j y (List.mem_cons_of_mem _ l)) (by omega)
   rw [zu (uf (by rw [hlen];omega)),yn (by omega),zfu,zu (je (by omega))]
   simp only [List.length_append,List.length_cons,List.length_nil,Nat.zero_add] at a b
   simp only [z8t,if_pos ht,List.nil_append]
   exact⟨a,by simp only [List.length_cons];omega⟩
  ·have f:0≤e.to∧e.to<x.fC.length∧0≤e.out∧e.out<x.fF.length:=by
    rcases j e (List.mem_cons_self ..) with h|h
    ·subst h;exact absurd rfl ht
    ·exact h
   have m:=zkn h.ok.gi.nm h.ok.go.nm h.ok.gs.nm (s:=s) (i:=done.length) (e:=e) d (by omega) (by omega) (by omega)
   have hel':(qz ([(ix x.fC (s:Int)),(ix x.fG (done.length:Int)),([47]:List UInt8),(ix x.fF e.out),([45,62]:List UInt8),(ix x.fC e.to)]:List (List UInt8)) [32]).length≤102:=m
   have q:(z3e (zba x.fG x.fF x.fC s done.length e)).length≤104:=by unfold z3e;simp only [List.length_append,List.length_cons,List.length_nil];omega
   obtain⟨a,b⟩:=zf5 h hrow d rest (done++[e]) (acc++z3e (zba x.fG x.fF x.fC s done.length e)) F (by rw [c];simp) (by omega) (by simp;omega) (fun y l=>j y (List.mem_cons_of_mem _ l)) (by simp only [List.length_append];omega)
   rw [zu (uf (by rw [hlen];omega)),aj ht,zu (uf d),zu (uf (by omega)),zu ⟨f.2.2.1,f.2.2.2⟩,zu ⟨f.1,f.2.1⟩,zu ⟨by simp only [List.length_cons,List.length_nil];omega,by omega⟩,zfu,zu (je (by omega))]
   simp only [List.length_append,List.length_cons,List.length_nil,List.append_assoc,Nat.zero_add] at a b
   simp only [z8t,if_neg ht]
   refine⟨a,?_⟩
   simp only [List.length_append,List.length_cons]
   omega
theorem zjh{x:Sb}(h:TOk x): ∀ (R A:List (List Edge)) (acc:List UInt8) (F:Nat),x.fD.rows=A++R→R.length<F→acc.length+400*R.length≤60000→
 mq NN x F (A.length:Int) acc=some (acc++zb8 x.fG x.fF x.fC A.length R)∧(zb8 x.fG x.fF x.fC A.length R).length≤400*R.length
 | [],A,acc,F+1,a,_,_=>by
  refine⟨?_,Nat.le_refl _⟩
  simp only [mq]
  rw [yn (by rw [a];simp)]
  simp [zb8]
 |_,_,_,0,_,e,_=>by omega
 |row::R,A,acc,F+1,a,e,g=>by
  simp only [List.length_cons] at e g
  have hlen:x.fD.rows.length=A.length+(R.length+1):=by rw [a];simp
  have i:=h.ok.ns
  obtain⟨j,c⟩:=h.row row (by rw [a];simp)
  have l:=h.i3
  obtain⟨f,k⟩:=zf5 h (s:=A.length) (row:=row) (by rw [a,z5m]) (by omega) row [] acc NN rfl (by unfold NN;omega) (by simp;omega) c (by omega)
  simp only [List.length_nil] at f k
  obtain⟨b,d⟩:=zjh h R (A++[row]) (acc++z8t x.fG x.fF x.fC A.length 0 row) F (by rw [a];simp) (by omega) (by simp only [List.length_append];omega)
  simp only [mq]
  have b1':tq NN x (A.length:Int) NN 0 acc=_:=f
  rw [aj (by rw [hlen];omega),zu (uf (by omega)),qa b1',zu (je (by have:=h.s6;omega))]
  simp only [List.length_append,List.length_cons,List.length_nil,List.append_assoc,Nat.zero_add] at b d
  simp only [zb8]
  refine⟨b,?_⟩
  simp only [List.length_append,List.length_cons]
  omega
theorem zpk{x:Sb}(h:TOk x):z2p NN x=some (zeg x.fA x.fG x.fF x.fC x.fD.rows,0)∧(zeg x.fA x.fG x.fF x.fC x.fD.rows).length≤65536:=by
 have hlim:z0m=140737488355328:=rfl
 have f:=h.i3;have g:=h.o3;have i:=h.s6
 have d:=h.ok.ns
 have jI:=z0k (s:=[44,32]) x.fG (fun n a=>(h.ok.gi.nm n a).len)
 have jO:=z0k (s:=[44,32]) x.fF (fun n a=>(h.ok.go.nm n a).len)
 have jS:=z0k (s:=[44,32]) x.fC (fun n a=>(h.ok.gs.nm n a).len)
 have jN:=(h.ok.gn.nm x.fA (by simp)).len
 simp only [List.length_cons,List.length_nil] at jI jO jS
 have j:(qz ([([109,97,99,104,105,110,101]:List UInt8),x.fA]:List (List UInt8)) [32]).length≤24:=by simp [qz];omega
 have k:(qz ([([105,110,112,117,116,115]:List UInt8),qz x.fG [44,32]]:List (List UInt8)) [32]).length≤70:=by simp [qz];omega
 have m:(qz ([([111,117,116,112,117,116,115]:List UInt8),qz x.fF [44,32]]:List (List UInt8)) [32]).length≤70:=by simp [qz];omega
 have o:(qz ([([115,116,97,116,101,115]:List UInt8),qz x.fC [44,32]]:List (List UInt8)) [32]).length≤120:=by simp [qz];omega
 have p:(qz ([([101,110,100]:List UInt8)]:List (List UInt8)) [32]).length=3:=rfl
 have c: ∀ l:List (List UInt8),l.length≤6→(qz l [44,32]).length≤200→strings_Join NN l ([44,32]:List UInt8)=some (qz l [44,32]):=fun l q r=>by
  unfold strings_Join
  rw [zu ⟨by omega,by omega⟩]
 unfold z2p
 rw [qa (z9k h.ok),yn (by simp),zu ⟨by simp only [List.length_cons,List.length_nil];omega,by simp only [List.length_append,List.length_cons,List.length_nil];omega⟩,
  qa (c _ (by omega) (by omega)),zu ⟨by simp only [List.length_cons,List.length_nil];omega,by simp only [List.length_append,List.length_cons,List.length_nil];omega⟩,
  qa (c _ (by omega) (by omega)),zu ⟨by simp only [List.length_cons,List.length_nil];omega,by simp only [List.length_append,List.length_cons,List.length_nil];omega⟩,
  qa (c _ (by omega) (by omega)),zu ⟨by simp only [List.length_cons,List.length_nil];omega,by simp only [List.length_append,List.length_cons,List.length_nil];omega⟩]
 obtain⟨e,b⟩:=zjh h x.fD.rows [] ((((([]:List UInt8)++(qz ([([109,97,99,104,105,110,101]:List UInt8),x.fA]:List (List UInt8)) [32]++[59,10]))++(qz ([([105,110,112,117,116,115]:List UInt8),qz x.fG [44,32]]:List (List UInt8)) [32]++[59,10]))++(qz ([([111,117,116,112,117,116,115]:List UInt8),qz x.fF [44,32]]:List (List UInt8)) [32]++[59,10]))++(qz ([([115,116,97,116,101,115]:List UInt8),qz x.fC [44,32]]:List (List UInt8)) [32]++[59,10])) NN rfl (by unfold NN;omega) (by simp only [List.length_append,List.length_cons,List.length_nil];omega)
 have t1':mq NN x NN 0 _=_:=e
 rw [qa t1',zu ⟨by simp only [List.length_cons,List.length_nil];omega,by simp only [List.length_append,List.length_cons,List.length_nil] at b⊢;omega⟩,yn (by simp only [List.length_append,List.length_cons,List.length_nil] at b⊢;omega),
  zu ⟨by simp only [List.length_append,List.length_cons,List.length_nil] at b⊢;omega,by simp only [List.length_append,List.length_cons,List.length_nil] at b⊢;omega⟩]
 refine⟨?_,?_⟩
 ·unfold zeg z3e
  simp only [List.append_assoc,List.nil_append,List.length_nil]
 ·unfold zeg z3e
  simp only [List.length_append,List.length_cons,List.length_nil] at b⊢
  omega
end GV
end Go.Proofs.YtkkcidhcfkmbjaaGreatDoor

namespace Go.Proofs.YtkkcidhcfkmbjaaGreatDoor
namespace GV
def nameOf(names:List (List UInt8))(i:Int):List UInt8:=if i= -1 then [33] else names.getD i.toNat default
def z4h(l:List Int)(names:List (List UInt8)):List UInt8:=if l=[] then [45] else qz (l.map (nameOf names)) [32]
def VOk(n:Nat)(l:List Int):Prop:= ∀ c∈l,c= -1∨(0≤c∧c<n)
theorem z6c{s:List Int}{k:Nat}(h:k<s.length):s.getD k default∈s:=by
 rw [List.getD_eq_getElem?_getD,List.getElem?_eq_getElem h];exact List.getElem_mem h
theorem z6h{names:List (List UInt8)}(a: ∀ n∈names,Nm n){c:Int}(h:c= -1∨(0≤c∧c<names.length)):1≤(nameOf names c).length∧(nameOf names c).length≤16:=by
 unfold nameOf
 split
 ·simp
 ·have:=z3d a (k:=c.toNat) (by omega)
  obtain⟨b,t,e,_⟩:=this.ne
  refine⟨by rw [e];simp,this.len⟩
theorem zaa{α:Type}{l:List α}{n k:Nat}{x d:α}(c:k<n)(a:l.length=k):(l++List.replicate (n-k) d).set k x=(l++[x])++List.replicate (n-(k+1)) d:=by
 obtain⟨m,b⟩: ∃ m,n-k=m+1:=⟨n-k-1,by omega⟩
 rw [b,List.replicate_succ,show n-(k+1)=m from by omega]
 subst a
 rw [set_mid];simp
theorem zef{α:Type}{l:List Int}{f:Int→α}{k:Nat}(a:k<l.length):(l.take (k+1)).map f=(l.take k).map f++[f (l.getD k default)]:=by
 rw [z5s l k a,List.map_append];rfl
theorem zgu{l:List Int}{names:List (List UInt8)}(r:l.length≤256)(g:VOk names.length l)(i: ∀ n∈names,Nm n):z1w NN l names=some (z4h l names):=by
 have hlim:z0m=140737488355328:=rfl
 unfold z1w
 by_cases h0:l=[]
 ·subst h0
  rw [aj (by simp)];rfl
 have hpos:=List.length_pos_iff.2 h0
 rw [yn (by omega),zu ⟨by omega,by omega,by omega⟩]
 have j:dx NN l names NN 0 (mk (l.length:Int) ([]:List UInt8))=some (l.map (nameOf names)):=by
  refine mi (fun F k X=>dx NN l names F (k:Int) X) l.length (fun k X=>X=(l.take k).map (nameOf names)++List.replicate (l.length-k) []) _ (fun F k X a b=> .inr ⟨(l.take (k+1)).map (nameOf names)++List.replicate (l.length-(k+1)) [],rfl,?_⟩) (fun F X b=>?_) NN 0 _ (Nat.zero_le _) (by unfold NN;omega) (by simp [z9g])
  ·have m:X.length=l.length:=by rw [b];simp;omega
   have hset: ∀ y,X.set k y=((l.take k).map (nameOf names)++[y])++List.replicate (l.length-(k+1)) []:=fun y=>by
    rw [b];exact zaa a (by simp;omega)
   have d:=g _ (z6c a)
   simp only [dx]
   have f:(gd (okI l (k:Int))<|gd (okI X (k:Int))<|bif decide ((ix l (k:Int))≠(-1)) then(gd (okI names (ix l (k:Int)))<|gd (okI (up X (k:Int) ([33]:List UInt8)) (k:Int))<|some (up (up X (k:Int) ([33]:List UInt8)) (k:Int) (ix names (ix l (k:Int))))) else(some (up X (k:Int) ([33]:List UInt8))))=some (X.set k (nameOf names (l.getD k default))):=by
    rw [zu (uf a),zu (uf (by omega)),sj]
    unfold nameOf
    by_cases e:l.getD k default= -1
    ·rw [yn (fun o=>o e),if_pos e,z5d]
    ·rw [aj e,if_neg e]
     have hc':0≤l.getD k default∧l.getD k default<names.length:=by
      rcases d with h|h
      ·exact absurd h e
      ·exact h
     rw [zu ⟨hc'.1,hc'.2⟩,zu (uf (by rw [z5d,List.length_set];omega)),z5d,z5d,List.set_set]
     rfl
   rw [aj (by omega),qa f,zu (je (by omega)),hset,zef a]
   rfl
  ·subst b
   simp only [dx]
   rw [yn (by omega)]
   simp
 have hlen:=z0k (s:=[32]) (l.map (nameOf names)) (fun x p=>by
  obtain⟨c,d,rfl⟩:=List.mem_map.1 p
  exact(z6h i (g c d)).2)
 simp only [List.length_map,List.length_cons,List.length_nil] at hlen
 have q:strings_Join NN (l.map (nameOf names)) ([32]:List UInt8)=some (qz (l.map (nameOf names)) [32]):=by
  unfold strings_Join
  rw [zu ⟨by rw [List.length_map];omega,by omega⟩]
 rw [qa j,qa q]
 unfold z4h
 rw [if_neg h0]
theorem zct{s x:List UInt8}: ∀ l:List (List UInt8),l≠[]→qz (l++[x]) s=qz l s++(s++x)
 | [],h=>absurd rfl h
 | [y],_=>by simp [qz]
 |y::z::r,_=>by
  have:=zct (s:=s) (x:=x) (z::r) (by simp)
  simp only [List.cons_append] at this⊢
  simp only [qz]
  rw [this]
  simp [List.append_assoc]
theorem zoc{s:List UInt8}{l:List (List UInt8)}(h:l≠[])(a: ∀ x∈l,1≤x.length):qz l s≠[]:=by
 cases l with
 |nil=>exact absurd rfl h
 |cons x r=>
  have:=a x (List.mem_cons_self ..)
  intro e
  have e:=congrArg List.length e
  cases r with
  |nil=>simp only [qz,List.length_nil] at e;omega
  |cons y r=>simp only [qz,List.length_append,List.length_nil] at e;omega
theorem zh1{l:List Int}{names:List (List UInt8)}(w:l.length≤256)(i:VOk names.length l)(j: ∀ n∈names,Nm n):gm NN l names=some (z4h l names):=by
 have hbound: ∀ k,(qz ((l.take k).map (nameOf names)) [32]).length≤5000:=fun k=>by
  have:=z0k (s:=[32]) ((l.take k).map (nameOf names)) (fun x m=>by
   obtain⟨c,b,rfl⟩:=List.mem_map.1 m
   exact(z6h j (i c (List.mem_of_mem_take b))).2)
  simp only [List.length_map,List.length_cons,List.length_nil,List.length_take] at this
  have q:min k l.length≤256:=by omega
  have:=Nat.mul_le_mul_right (16+(0+1)) q
  omega
 have r:uo NN l names NN ([]:List UInt8) 0=some (qz (l.map (nameOf names)) [32]):=by
  refine mi (fun F k X=>uo NN l names F X (k:Int)) l.length (fun k X=>X=qz ((l.take k).map (nameOf names)) [32]) _ (fun F k X f g=> .inr ⟨qz ((l.take (k+1)).map (nameOf names)) [32],rfl,?_⟩) (fun F X g=>?_) NN 0 _ (Nat.zero_le _) (by unfold NN;omega) (by simp [qz])
  ·have b:=i _ (z6c f)
   have t:=hbound k
   rw [←g] at t
   have d:=(z6h j b).2
   simp only [uo]
   have u:(bif decide (0<(k:Int)) then(gd (in64 ((X.length:Int)+(([32]:List UInt8).length:Int)))<|some (X++([32]:List UInt8))) else(some X))=some (if k=0 then X else X++[32]):=by
    by_cases e:k=0
    ·subst e;rw [yn (by omega),if_pos rfl]
    ·rw [aj (by omega),zu (je (by simp only [List.length_cons,List.length_nil];omega)),if_neg e]
   have p:(bd (bif decide (0<(k:Int)) then(gd (in64 ((X.length:Int)+(([32]:List UInt8).length:Int)))<|some (X++([32]:List UInt8))) else(some X)) fun a=>gd (okI l (k:Int))<|bif decide ((ix l (k:Int))<0) then(gd (in64 ((a.length:Int)+(([33]:List UInt8).length:Int)))<|some (a++([33]:List UInt8))) else(gd (okI l (k:Int))<|gd (okI names (ix l (k:Int)))<|gd (in64 ((a.length:Int)+((ix names (ix l (k:Int))).length:Int)))<|some (a++(ix names (ix l (k:Int))))))=some ((if k=0 then X else X++[32])++nameOf names (l.getD k default)):=by
    have v:(if k=0 then X else X++[32]).length≤5001:=by
     split
     ·omega
     ·simp;omega
    rw [qa u,zu (uf f),sj]
    generalize (if k=0 then X else X++[32])=o at v⊢
    unfold nameOf at d⊢
    rcases b with h|h
    ·rw [aj (by omega),zu (je (by simp only [List.length_cons,List.length_nil];omega)),if_pos h]
    ·rw [if_neg (by omega)] at d⊢
     rw [yn (by omega),zu (uf f),zu ⟨h.1,h.2⟩,zu (je (by rw [znm];omega))]
     rfl
   rw [aj (by omega),qa p,zu (je (by omega)),g,zef f]
   have:(if k=0 then qz ((l.take k).map (nameOf names)) [32] else qz ((l.take k).map (nameOf names)) [32]++[32])++nameOf names (l.getD k default)=qz ((l.take k).map (nameOf names)++[nameOf names (l.getD k default)]) [32]:=by
    by_cases e:k=0
    ·subst e;simp [qz]
    ·rw [if_neg e,zct _ (List.ne_nil_of_length_pos (by rw [List.length_map,List.length_take];omega)),List.append_assoc]
   rw [this];rfl
  ·subst g
   simp only [uo]
   rw [yn (by omega),List.take_length]
 unfold gm z4h
 rw [qa r]
 by_cases h0:l=[]
 ·subst h0;rfl
 ·rw [yn (zoc (by simpa using h0) (fun x m=>by
   obtain⟨c,b,rfl⟩:=List.mem_map.1 m
   exact(z6h j (i c b)).1)),if_neg h0]
theorem zhv{x:Sb}(h:TOk x){w:List Int}(b:WOk x.fD.inputs w)(a:w.length≤256)(c:VOk x.fG.length w):lm NN x w=some (z4h w x.fG,0):=by
 have hi:=h.i1;have d:=h.i3;have e:=h.ok.ni
 unfold lm
 rw [qa (z9k h.ok),yn (by simp),qa (zek (by unfold NN;omega) (by omega)),zed (by omega) (by omega) b a,yn (by simp),qa (zgu a c h.ok.gi.nm)]
theorem zix{x:Sb}(h:TOk x){l:List Int}(d:l.length≤256)(b:VOk x.fF.length l):z0i NN x l=some (z4h l x.fF,0):=by
 have e:=h.ok.no
 unfold z0i
 have f:yf NN l (fun g=>z1p NN g x)=some (l.any fun c=>decide (c< -1)||decide (x.fD.outputs≤c)):=zea (fun k j=>rfl) (by unfold NN;omega) (by omega)
 have i:(l.any fun c=>decide (c< -1)||decide (x.fD.outputs≤c))=false:=by
  rw [List.any_eq_false]
  intro c a
  have:=b c a
  simp
  omega
 rw [qa (z9k h.ok),yn (by simp),yn (by omega),qa f,i,cf rfl,qa (zgu d b h.ok.go.nm)]
theorem zeq{m:Mach}(b:MOk m): ∀ (w:List Int) (s:Int),SOk m s→WOk m.inputs w→ ∀ c∈z1b m s w,c= -1∨(0≤c∧c<m.outputs)
 | [],_,_,_,c,a=>by cases a
 |i::w,s,d,e,c,a=>by
  have hi:0≤i∧i<m.inputs:=by simpa using e 0 (by simp)
  rcases List.mem_cons.1 a with rfl|a
  ·unfold z4k
   split
   ·exact .inl rfl
   ·have hs':0≤s∧s<m.rows.length:=by rcases d with h|h<;>omega
    have g:=b.row s.toNat (by omega)
    rcases b.edge s.toNat i.toNat (by omega) (by omega) with h|h
    ·exact .inl h.2
    ·exact .inr ⟨h.2.2.1,h.2.2.2⟩
  ·exact zeq b w _ (zg6 m b s i d hi).1 (fun k f=>by simpa using e (k+1) (by simpa using f)) c a
end GV
end Go.Proofs.YtkkcidhcfkmbjaaGreatDoor

namespace Go.Proofs.YtkkcidhcfkmbjaaGreatDoor
namespace GV
theorem zk7{w:List UInt8}(h:Nm w):(32:UInt8)∉w:=fun a=>by have:=h.wrd 32 a;revert this;decide
theorem zkb: ∀ (n r:List UInt8),(32:UInt8)∉n→Lib.indexByte (n++32::r) 32=(n.length:Int)
 | [],r,_=>rfl
 |b::n,r,h=>by
  have a:(b==32)=false:=by
   rw [beq_eq_false_iff_ne]
   intro e;subst e;exact h (List.mem_cons_self ..)
  have ih:=zkb n r (fun c=>h (List.mem_cons_of_mem _ c))
  rw [List.cons_append,Lib.indexByte,a,ih]
  have:((n.length:Int)== -1)=false:=by rw [beq_eq_false_iff_ne];omega
  rw [this]
  simp
theorem zd3: ∀ l:List (List UInt8),l≠[]→(∀ n∈l,(32:UInt8)∉n)→Lib.countByte (qz l [32]) 32+1=l.length
 | [],h,_=>absurd rfl h
 | [x],_,h=>by
  have:=List.count_eq_zero_of_not_mem (h x (List.mem_cons_self ..))
  unfold Lib.countByte qz
  rw [this];rfl
 |x::y::r,_,h=>by
  have ih:=zd3 (y::r) (by simp) (fun n a=>h n (List.mem_cons_of_mem _ a))
  have:=List.count_eq_zero_of_not_mem (h x (List.mem_cons_self ..))
  unfold Lib.countByte at ih⊢
  rw [qz,List.count_append,List.count_append,this,List.length_cons]
  have b:List.count (32:UInt8) [32]=1:=rfl
  rw [b]
  omega
theorem zlz{l:List (List UInt8)}(y:l≠[])(i: ∀ n∈l,Nm n)(I:l.length≤256):strings_Split NN (qz l [32]) ([32]:List UInt8)=some l:=by
 have hpos:=List.length_pos_iff.2 y
 have hcnt:=zd3 l y (fun n f=>zk7 (i n f))
 have j:Lib.countByte (qz l [32]) 32≤(qz l [32]).length:=List.count_le_length
 have hlen:=z0k (s:=[32]) l (fun x f=>(i x f).len)
 simp only [List.length_cons,List.length_nil] at hlen
 have hlen':(qz l [32]).length≤4400:=by omega
 generalize hs:qz l [32]=s at hcnt j hlen hlen'
 have A:strings_Count NN s ([32]:List UInt8)=some ((l.length:Int)-1):=by
  unfold strings_Count
  rw [yn (by simp),aj (by simp),zu ⟨by omega,by simp⟩]
  have:cntB s (at8 [32] 0)=((Lib.countByte s 32:Nat):Int):=rfl
  rw [this]
  congr 1
  omega
 have m:(bif decide ((-1:Int)<0) then(bd (strings_Count NN s ([32]:List UInt8)) fun z=>gd (in64 (z+1))<|some (z+1)) else(some (-1)))=some (l.length:Int):=by
  rw [aj (by omega),qa A,zu (je (by omega))]
  congr 1
  omega
 have hmin:min (l.length:Int) ((s.length:Int)+1)=(l.length:Int):=Int.min_eq_left (by omega)
 unfold strings_Split
 have B:strings_genSplit NN s ([32]:List UInt8) 0 (-1)=some l:=by
  unfold strings_genSplit
  rw [yn (by omega),yn (by simp),qa m,zu (je (by omega)),hmin,zu ⟨by omega,by omega,by omega⟩,zu (je (by omega))]
  have C:vk NN s ([32]:List UInt8) 0 (l.length:Int) NN s 0 (mk (l.length:Int) ([]:List UInt8))=some (qz (l.drop (l.length-1)) [32],((l.length-1:Nat):Int),l.take (l.length-1)++List.replicate (l.length-(l.length-1)) []):=by
   refine mi (σ:=List UInt8×List (List UInt8)) (fun F k X=>vk NN s ([32]:List UInt8) 0 (l.length:Int) F X.1 (k:Int) X.2) (l.length-1) (fun k X=>X=(qz (l.drop k) [32],l.take k++List.replicate (l.length-k) [])) _
    (fun F k X K o=> .inr ⟨(qz (l.drop (k+1)) [32],l.take (k+1)++List.replicate (l.length-(k+1)) []),rfl,?_⟩) (fun F X o=>?_) NN 0 (s,mk (l.length:Int) ([]:List UInt8)) (Nat.zero_le _) (by unfold NN;omega) (by rw [List.drop_zero,hs];simp [z9g])
   ·subst o
    have b:k<l.length:=by omega
    have p:l.drop k=l[k]::l.drop (k+1):=List.drop_eq_getElem_cons b
    have q:l.drop (k+1)=l[k+1]::l.drop (k+1+1):=List.drop_eq_getElem_cons (by omega)
    have D:qz (l.drop k) [32]=l[k]++(32::qz (l.drop (k+1)) [32]):=by rw [p,q];rfl
    have d:=i l[k] (List.getElem_mem b)
    obtain⟨c,t,g,L⟩:=d.ne
    have r:=d.len
    have u:(qz (l.drop (k+1)) [32]).length≤4400:=by
     have:=z0k (s:=[32]) (l.drop (k+1)) (fun x f=>(i x (List.mem_of_mem_drop f)).len)
     simp only [List.length_cons,List.length_nil,List.length_drop] at this
     omega
    have h:=zk7 d
    simp only [vk]
    rw [hmin,D]
    generalize qz (l.drop (k+1)) [32]=J at u⊢
    generalize hak:l[k]=a at g r h⊢
    have E:strings_Index NN (a++32::J) ([32]:List UInt8)=some (a.length:Int):=by
     unfold strings_Index pu yc
     have v: ¬(([32]:List UInt8)=a++32::J):=by
      rw [g];intro e
      have e:=congrArg List.length e
      simp at e
     rw [cf (by simp [v]),aj (by simp),zu ⟨by omega,by simp⟩]
     have:idxB (a++32::J) (at8 [32] 0)=(a.length:Int):=zkb a J h
     rw [this];rfl
    rw [aj (by omega),qa E,yn (by omega),zu (je (by omega)),zu ⟨by omega,by omega,by simp;omega⟩,zu (uf (by simp;omega)),zu (je (by simp;omega)),zu ⟨by simp;omega,by simp;omega,by omega⟩,zu (je (by omega))]
    have G:su (a++32::J) ((a.length:Int)+(([32]:List UInt8).length:Int)) ((a++32::J).length:Int)=J:=by
     have:=z5x (a++[32]) J
     rw [List.append_assoc,List.singleton_append] at this
     have e:((a.length:Int)+(([32]:List UInt8).length:Int))=((a++[32]).length:Int):=by simp
     rw [e];exact this
    have H:su (a++32::J) 0 ((a.length:Int)+0)=a:=by rw [Int.add_zero];exact zhi _ _
    have w:up (l.take k++List.replicate (l.length-k) []) (k:Int) a=l.take (k+1)++List.replicate (l.length-(k+1)) []:=by
     rw [z5d,zaa b (by rw [List.length_take];omega),List.take_succ_eq_append_getElem b,hak]
    rw [G,H,w]
    rfl
   ·subst o
    simp only [vk]
    rw [hmin,yn (by omega)]
  rw [qa C]
  simp only
  have b:l.length-1<l.length:=by omega
  have p:l.drop (l.length-1)=[l[l.length-1]]:=by
   rw [List.drop_eq_getElem_cons b,List.drop_eq_nil_of_le (by omega)]
  have w:up (l.take (l.length-1)++List.replicate (l.length-(l.length-1)) []) ((l.length-1:Nat):Int) (qz (l.drop (l.length-1)) [32])=l:=by
   rw [p]
   show up _ _ l[l.length-1]=l
   rw [z5d,zaa b (by rw [List.length_take];omega),←List.take_succ_eq_append_getElem b,show l.length-1+1=l.length from by omega,List.take_length]
   simp
  rw [zu (uf (by simp;omega)),zu (je (by omega)),w,zu ⟨by omega,by omega,by omega⟩]
  have:((l.length-1:Nat):Int)+1=(l.length:Int):=by omega
  rw [this,zf8]
 rw [qa B]
theorem zge{κ β:Type}[DecidableEq κ]{z:β}: ∀ (M:List (κ×β)) (k k':κ) (v:β),z6j z (z7r M k v) k'=if k'=k then v else z6j z M k'
 | [],k,k',v=>rfl
 |p::M,k,k',v=>by
  unfold z7r
  by_cases h:k=p.1
  ·rw [if_pos h]
   subst h
   simp only [z6j]
   split<;>rfl
  ·rw [if_neg h]
   simp only [z6j]
   by_cases h':k'=p.1
   ·rw [if_pos h',if_neg (fun e=>h (e.symm.trans h')),if_pos h']
   ·rw [if_neg h',if_neg h',zge M k k' v]
theorem zgg{κ β:Type}[DecidableEq κ]: ∀ (M:List (κ×β)) (k k':κ) (v:β),z7a (z7r M k v) k'=(decide (k'=k)||z7a M k')
 | [],k,k',v=>by simp [z7r,z7a]
 |p::M,k,k',v=>by
  unfold z7r
  by_cases h:k=p.1
  ·rw [if_pos h]
   subst h
   simp only [z7a]
   by_cases e:k'=p.1<;>simp [e]
  ·rw [if_neg h]
   simp only [z7a,zgg M k k' v]
   by_cases h':k'=p.1<;>simp [h']
theorem zkq{l:List (List UInt8)}(g:l.Nodup)(n:l.length≤64): ∃ M,z0w NN l=some M∧ ∀ j,j<l.length→z7a M (l.getD j default)=true∧z6j (0:Int) M (l.getD j default)=(j:Int):=by
 suffices key: ∃ M,yz NN l NN 0 []=some M∧ ∀ j,j<l.length→z7a M (l.getD j default)=true∧z6j (0:Int) M (l.getD j default)=(j:Int) by
  obtain⟨M,h,i⟩:=key
  refine⟨M,?_,i⟩
  unfold z0w
  rw [qa h]
 refine zcl (fun F k M=>yz NN l F (k:Int) M) l.length (fun k M=> ∀ j,j<k→z7a M (l.getD j default)=true∧z6j (0:Int) M (l.getD j default)=(j:Int)) (fun M=> ∀ j,j<l.length→z7a M (l.getD j default)=true∧z6j (0:Int) M (l.getD j default)=(j:Int))
  (fun F k M a b=> .inr ⟨z7r M (l.getD k default) (k:Int),fun j d=>?_,?_⟩) (fun F M b=>⟨M,?_,b⟩) NN 0 [] (Nat.zero_le _) (by unfold NN;omega) (fun j d=>absurd d (Nat.not_lt_zero _))
 ·rw [zgg,zge]
  by_cases e:j=k
  ·subst e;simp
  ·obtain⟨m,a2⟩:=b j (by omega)
   have c:l.getD j default≠l.getD k default:=fun f=>by
    rw [List.getD_eq_getElem?_getD,List.getD_eq_getElem?_getD,List.getElem?_eq_getElem a,List.getElem?_eq_getElem (by omega)] at f
    exact List.pairwise_iff_getElem.1 g j k (by omega) a (by omega) f
   rw [if_neg c,m,a2]
   simp
 ·simp only [yz]
  rw [aj (by omega),zu (uf a),zu (je (by omega)),sj]
  rfl
 ·simp only [yz]
  rw [yn (by omega)]
theorem zi9{x:Sb}(h:TOk x){w:List Int}(q:WOk x.fD.inputs w)(r:w.length≤256):z2y NN x (z4h w x.fG)=some (w,0):=by
 have u:=h.i3;have v:=h.ok.ni
 have o: ∀ c∈w,0≤c∧c<x.fG.length:=fun c g=>by
  obtain⟨k,a,e⟩:=List.getElem_of_mem g
  have:=q k a
  rw [List.getD_eq_getElem?_getD,List.getElem?_eq_getElem a,Option.getD_some,e] at this
  omega
 unfold z2y
 rw [qa (z9k h.ok),yn (by simp)]
 by_cases h0:w=[]
 ·subst h0
  have e:z4h [] x.fG=[45]:=rfl
  rw [e,yn (by simp),aj rfl]
 have en:z4h w x.fG=qz (w.map (nameOf x.fG)) [32]:=if_neg h0
 have hpos:=List.length_pos_iff.2 h0
 have f: ∀ n∈w.map (nameOf x.fG),Nm n:=fun n i=>by
  obtain⟨c,g,rfl⟩:=List.mem_map.1 i
  have:=o c g
  unfold nameOf
  rw [if_neg (by omega)]
  exact z3d h.ok.gi.nm (by omega)
 have hlen:=z0k (s:=[32]) (w.map (nameOf x.fG)) (fun y z=>(f y z).len)
 simp only [List.length_map,List.length_cons,List.length_nil] at hlen
 have j:qz (w.map (nameOf x.fG)) [32]≠[45]:=by
  intro e
  cases w with
  |nil=>exact h0 rfl
  |cons c w=>
   obtain⟨b,t,p,A⟩:=(f (nameOf x.fG c) (by simp)).ne
   have hb':b≠45:=by rintro rfl;revert A;decide
   cases w with
   |nil=>simp only [List.map_cons,List.map_nil,qz,p] at e;injection e with e _;exact hb' e
   |cons d w=>simp only [List.map_cons,qz,p,List.cons_append] at e;injection e with e _;exact hb' e
 rw [en,yn (by omega),yn j,qa (zlz (by simpa using h0) f (by simpa using r))]
 have B:uw NN (w.map (nameOf x.fG)) (fun C=>z2j NN C)=some false:=zb9 (fun n i=>by
  unfold z2j
  rw [qa (ze6 (f n i) (by decide))]
  rfl) (by rw [List.length_map];unfold NN;omega) (by rw [List.length_map];omega)
 obtain⟨M,D,hM'⟩:=zkq h.ok.gi.nl.nd h.ok.gi.nl.len
 rw [qa B,cf rfl,qa D,zu ⟨by omega,by rw [List.length_map];omega,by rw [List.length_map];omega⟩]
 have E:oh NN (w.map (nameOf x.fG)) M NN 0 (mk ((w.map (nameOf x.fG)).length:Int) (0:Int))=some (Ex.go w):=by
  refine mi (fun F k X=>oh NN (w.map (nameOf x.fG)) M F (k:Int) X) w.length (fun k X=>X=w.take k++List.replicate (w.length-k) 0) _ (fun F k X a m=> .inr ⟨w.take (k+1)++List.replicate (w.length-(k+1)) 0,rfl,?_⟩) (fun F X m=>?_) NN 0 _ (Nat.zero_le _) (by unfold NN;omega) (by simp [z9g])
  ·subst m
   have g:=o _ (z6c a)
   have G:(w.map (nameOf x.fG)).getD k default=x.fG.getD (w.getD k default).toNat default:=by
    rw [List.getD_eq_getElem?_getD,List.getElem?_map,List.getElem?_eq_getElem a]
    rw [List.getD_eq_getElem?_getD,List.getElem?_eq_getElem a,Option.getD_some] at g
    rw [List.getD_eq_getElem?_getD (l:=w),List.getElem?_eq_getElem a]
    simp only [Option.map_some,Option.getD_some]
    unfold nameOf
    rw [if_neg (by omega)]
   obtain⟨H,I⟩:=hM' (w.getD k default).toNat (by omega)
   simp only [oh]
   rw [aj (by rw [List.length_map];omega),zu (uf (by rw [List.length_map];exact a)),sj,G,H,cf (b:= !true) rfl,I,zu (uf (by simp;omega)),zu (je (by omega)),z5d,zaa a (by rw [List.length_take];omega)]
   have:((w.getD k default).toNat:Int)=w.getD k default:=by omega
   rw [this,←z5s w k a]
   rfl
  ·subst m
   simp only [oh]
   rw [yn (by rw [List.length_map];omega)]
   simp
 rw [qa E,zku,yn (by omega)]
end GV
end Go.Proofs.YtkkcidhcfkmbjaaGreatDoor

namespace Go.Proofs.YtkkcidhcfkmbjaaGreatDoor
namespace GV
set_option maxRecDepth 100000
def T1:List (List UInt8):=[([109]:List UInt8),([76,97,109,112,95,50]:List UInt8),([97,98,99,100,101,102,103,104,105,106,107,108,109,110,111,112]:List UInt8)]
def T2:List (List (List UInt8)):=[([([97]:List UInt8),([98]:List UInt8),([99]:List UInt8)]:List (List UInt8)),([([112,114,101,115,115]:List UInt8),([116,105,99,107]:List UInt8),([115,48]:List UInt8)]:List (List UInt8)),([([69,110,100]:List UInt8),([120]:List UInt8),([73,110,112,117,116,115]:List UInt8)]:List (List UInt8))]
def T3:List (List (List UInt8)):=[([([120]:List UInt8),([121]:List UInt8),([122]:List UInt8)]:List (List UInt8)),([([97]:List UInt8),([111,110]:List UInt8),([111,102,102]:List UInt8)]:List (List UInt8)),([([111,49]:List UInt8),([111,49,48]:List UInt8),([111]:List UInt8)]:List (List UInt8))]
def T4:List (List (List UInt8)):=[([([115,48]:List UInt8),([115,49]:List UInt8),([115,50]:List UInt8),([115,51]:List UInt8),([115,52]:List UInt8),([115,53]:List UInt8)]:List (List UInt8)),([([97]:List UInt8),([98]:List UInt8),([99]:List UInt8),([120]:List UInt8),([121]:List UInt8),([122]:List UInt8)]:List (List UInt8)),([([105,100,108,101]:List UInt8),([73,100,108,101]:List UInt8),([73,68,76,69]:List UInt8),([105,95]:List UInt8),([105,95,95]:List UInt8),([105,48]:List UInt8)]:List (List UInt8))]
def nmB(w:List UInt8):Bool:=match w with| []=>false|c::t=>zgp c&&(c::t).all zfz&&decide ((c::t).length≤16)
def zch(l:List (List UInt8)):Bool:=decide l.Nodup&&l.all (fun n=>nmB n&& !(decide (n∈z7b)))&&decide (l.length≤64)&&zpe l
theorem zqd{l:List (List UInt8)}(h:zch l=true):GL l:=by
 simp only [zch,Bool.and_eq_true,decide_eq_true_eq,List.all_eq_true,Bool.not_eq_true',decide_eq_false_iff_not] at h
 obtain⟨⟨⟨c,b⟩,d⟩,e⟩:=h
 exact⟨⟨c,fun n a=>(b n a).2,d⟩,fun n a=>zdu (b n a).1,e⟩
theorem zsa:(List.range 3).all (fun j=>zch [T1.getD j default])=true:=by decide+kernel
theorem zt6:(List.range 3).all (fun j=>(List.range 4).all fun k=>k==0||zch ((T2.getD j default).take k))=true:=by decide+kernel
theorem zth:(List.range 3).all (fun j=>(List.range 4).all fun k=>k==0||zch ((T3.getD j default).take k))=true:=by decide+kernel
theorem ztf:(List.range 3).all (fun j=>(List.range 7).all fun k=>k==0||zch ((T4.getD j default).take k))=true:=by decide+kernel
theorem gl1{j:Nat}(h:j<3):GL [T1.getD j default]:=zqd (List.all_eq_true.1 zsa j (List.mem_range.2 h))
theorem zj7{T:List (List (List UInt8))}{n:Nat}(a:(List.range 3).all (fun j=>(List.range n).all fun k=>k==0||zch ((T.getD j default).take k))=true){j k:Nat}(h:j<3)(c:1≤k)(b:k<n):GL ((T.getD j default).take k):=by
 have:=List.all_eq_true.1 (List.all_eq_true.1 a j (List.mem_range.2 h)) k (List.mem_range.2 b)
 rw [Bool.or_eq_true] at this
 rcases this with e|e
 ·have:=eq_of_beq e;omega
 ·exact zqd e
theorem zfh{α:Type}(X:List α)(k:Int):cut X 0 k=X.take k.toNat:=by simp [cut]
theorem zui{j:Nat}(h:j<3):(T2.getD j default).length=3:=by
 have:j=0∨j=1∨j=2:=by omega
 rcases this with rfl|rfl|rfl<;>rfl
theorem ztx{j:Nat}(h:j<3):(T3.getD j default).length=3:=by
 have:j=0∨j=1∨j=2:=by omega
 rcases this with rfl|rfl|rfl<;>rfl
theorem zun{j:Nat}(h:j<3):(T4.getD j default).length=6:=by
 have:j=0∨j=1∨j=2:=by omega
 rcases this with rfl|rfl|rfl<;>rfl
theorem zne{f:Int}(a:0≤f∧f≤255){d:Int}(g:1≤d):IntKind.u8.wrap (Int.tdiv f d)=f/d∧0≤f/d:=by
 have c:Int.tdiv f d=f/d:=Int.tdiv_eq_ediv_of_nonneg a.1
 have b:0≤f/d:=Int.ediv_nonneg a.1 (by omega)
 have h:f/d≤f:=Int.ediv_le_self _ a.1
 have e:IntKind.u8.max=255:=by decide
 exact⟨by rw [c];exact zov _ b (by rw [e];omega),b⟩
theorem zr6{x:Sc}(f:MDOk x.fD)(g:0≤x.fA∧x.fA≤255): ∃ a,iw NN x=some a∧TOk a∧a.fD=mOf x.fD:=by
 have c:=zod f
 have S:=f.st;have T:=f.ins;have U:=f.outs
 have ei:(mOf x.fD).inputs=1+x.fD.ins%3:=rfl
 have eo:(mOf x.fD).outputs=1+x.fD.outs%3:=rfl
 have er:((mOf x.fD).rows.length:Int)=1+x.fD.states%6:=by
  show (((List.range x.fD.n.toNat).map (zdg x.fD)).length:Int)=_
  rw [List.length_map,List.length_range]
  unfold MDat.n
  omega
 obtain⟨z,A⟩:=zne g (d:=3) (by omega)
 obtain⟨B,C⟩:=zne g (d:=9) (by omega)
 obtain⟨j,l⟩:=zne g (d:=27) (by omega)
 generalize hmm:mOf x.fD=m at c ei eo er⊢
 have mo:ny NN x.fD=some m:=by rw [←hmm];exact zrc f (by decide)
 have D:(x.fA%3).toNat<3:=by omega
 have t:(x.fA/3%3).toNat<3:=by omega
 have u:(x.fA/9%3).toNat<3:=by omega
 have v:(x.fA/27%3).toNat<3:=by omega
 have V:(ix T2 (x.fA/3%3)).length=3:=zui t
 have W:(ix T3 (x.fA/9%3)).length=3:=ztx u
 have X:(ix T4 (x.fA/27%3)).length=6:=zun v
 have Y:(cut (ix T2 (x.fA/3%3)) 0 m.inputs).length≤3:=by rw [zfh,List.length_take];omega
 have c3:(cut (ix T3 (x.fA/9%3)) 0 m.outputs).length≤3:=by rw [zfh,List.length_take];omega
 have c4:(cut (ix T4 (x.fA/27%3)) 0 (m.rows.length:Int)).length≤6:=by rw [zfh,List.length_take];omega
 obtain⟨I,o⟩: ∃ I,([]:List (List UInt8))++cut (ix T2 (x.fA/3%3)) 0 m.inputs=I:=⟨_,rfl⟩
 obtain⟨O,p⟩: ∃ O,([]:List (List UInt8))++cut (ix T3 (x.fA/9%3)) 0 m.outputs=O:=⟨_,rfl⟩
 obtain⟨Z,q⟩: ∃ Z,([]:List (List UInt8))++cut (ix T4 (x.fA/27%3)) 0 (m.rows.length:Int)=Z:=⟨_,rfl⟩
 refine⟨⟨ix T1 (x.fA%3),m,I,O,Z⟩,?_,?_,rfl⟩
 ·subst o p q
  unfold iw
  rw [qa mo,zu ⟨g.1,by omega⟩,zu ⟨by omega,by show x.fA%3<3;omega⟩,zu (by decide),z,B,j,zu ⟨A,by omega⟩,zu ⟨by omega,by show x.fA/3%3<3;omega⟩,zu (by decide),zu ⟨C,by omega⟩,zu ⟨by omega,by show x.fA/9%3<3;omega⟩,
   zu (by decide),zu ⟨l,by omega⟩,zu ⟨by omega,by show x.fA/27%3<3;omega⟩]
  have E:okS (ix T2 (x.fA/3%3)) 0 m.inputs:=⟨by omega,by omega,by omega⟩
  have F:okS (ix T3 (x.fA/9%3)) 0 m.outputs:=⟨by omega,by omega,by omega⟩
  have G:okS (ix T4 (x.fA/27%3)) 0 (m.rows.length:Int):=⟨by omega,by omega,by omega⟩
  have H:fits 16 ([]:List (List UInt8)) (cut (ix T2 (x.fA/3%3)) 0 m.inputs):=⟨by simp only [List.length_nil];omega,by simp only [List.length_nil];omega⟩
  have J:fits 16 ([]:List (List UInt8)) (cut (ix T3 (x.fA/9%3)) 0 m.outputs):=⟨by simp only [List.length_nil];omega,by simp only [List.length_nil];omega⟩
  have K:fits 16 ([]:List (List UInt8)) (cut (ix T4 (x.fA/27%3)) 0 (m.rows.length:Int)):=⟨by simp only [List.length_nil];omega,by simp only [List.length_nil];omega⟩
  refine(zu E).trans ((zu H).trans ((zu F).trans ((zu J).trans ((zu G).trans ((zu K).trans rfl)))))
 ·have hi:=c.i1;have ho:=c.o1;have hr:=c.r1
  have L:=gl1 D
  have M:=zj7 zt6 t (k:=m.inputs.toNat) (by omega) (by omega)
  have N:=zj7 zth u (k:=m.outputs.toNat) (by omega) (by omega)
  have P:=zj7 ztf v (k:=m.rows.length) (by omega) (by omega)
  have t2:I.length=m.inputs.toNat:=by rw [←o,List.nil_append,zfh,List.length_take];omega
  have t3:O.length=m.outputs.toNat:=by rw [←p,List.nil_append,zfh,List.length_take];omega
  have w:Z.length=m.rows.length:=by rw [←q,List.nil_append,zfh,List.length_take];omega
  refine⟨⟨?_,by show (I.length:Int)=m.inputs;omega,by show (O.length:Int)=m.outputs;omega,w,L,?_,?_,?_⟩,by show I.length≤3;omega,by show O.length≤3;omega,by show Z.length≤6;omega,by show 1≤I.length;omega,by show 1≤O.length;omega,by show 1≤Z.length;omega,?_⟩
  ·show ow NN m=some 0
   rw [zeu c.small (by decide),(z9b m).2 c]
  ·show GL I
   rw [←o,List.nil_append,zfh];exact M
  ·show GL O
   rw [←p,List.nil_append,zfh];exact N
  ·show GL Z
   rw [←q,List.nil_append,zfh,Int.toNat_natCast];exact P
  ·intro row hrow
   obtain⟨s,Q,e⟩:=List.getElem_of_mem hrow
   have hs':s<m.rows.length:=Q
   have hrow':m.rows.getD s default=row:=by rw [List.getD_eq_getElem?_getD,List.getElem?_eq_getElem hs'];exact e
   have R:=c.row s hs'
   rw [hrow'] at R
   refine⟨by show row.length=I.length;omega,fun ed r=>?_⟩
   obtain⟨i,hi',e'⟩:=List.getElem_of_mem r
   have y:=c.edge s i hs' (by rw [hrow'];exact hi')
   rw [hrow',List.getD_eq_getElem?_getD,List.getElem?_eq_getElem hi',Option.getD_some,e'] at y
   rcases y with h|h
   ·left
    obtain⟨a,b⟩:=ed
    simp only at h
    rw [h.1,h.2];rfl
   ·right
    refine⟨h.1,by show ed.to<(Z.length:Int);rw [w];exact h.2.1,h.2.2.1,by show ed.out<(O.length:Int);omega⟩
theorem zgh{x:Sc}{y:WDat}(E:MDOk x.fD)(J:0≤x.fA∧x.fA≤255)(K:WDOk y):ak NN x y=some true:=by
 obtain⟨a,L,b,n⟩:=zr6 E J
 have i:MOk a.fD:=n▸zod E
 have d:=i.i1
 have F:=b.i3;have S:=b.o3;have T:=b.s6
 have o:=b.ok.ni;have p:=b.ok.no;have M:=b.ok.ns
 have hi2:=i.i2
 obtain⟨f,q⟩:=zr7 (x:=y) d
 have G:mf NN y a.fD.inputs=some (wOf y a.fD.inputs):=zr2 K d (by decide)
 generalize wOf y a.fD.inputs=w at f q G
 have s:VOk a.fG.length w:=fun c t=>by
  obtain⟨k,H,e⟩:=List.getElem_of_mem t
  have:=f k H
  rw [List.getD_eq_getElem?_getD,List.getElem?_eq_getElem H,Option.getD_some,e] at this
  right;omega
 obtain⟨u,v⟩:=zpk b
 have g: ∀ {l:List (List UInt8)},1≤l.length→l≠[]:=fun h e=>by subst e;simp at h
 have hlex:=zm9 (R:=a.fD.rows) (b.ok.gn.nm a.fA (by simp)) b.ok.gi.nm b.ok.go.nm b.ok.gs.nm (g b.i1) (g b.o1) (g b.s1) (by omega) b.row
 have hcnt:(a.fD.rows.map z5i).sum≤1000:=by
  have key: ∀ R:List (List Edge),(∀ row∈R,row.length≤3)→(R.map z5i).sum≤3*R.length:=fun R=>by
   induction R with
   |nil=>intro _;simp
   |cons row R ih=>
    intro h
    have U:=zk5 row
    have V:=h row (List.mem_cons_self ..)
    have F:=ih (fun r z=>h r (List.mem_cons_of_mem _ z))
    simp only [List.map_cons,List.sum_cons,List.length_cons]
    omega
  have:=key a.fD.rows (fun row z=>by rw [(b.row row z).1];omega)
  omega
 have N:=zm5 hlex v (b.ok.gn.nl.res a.fA (by simp)) b.ok.gi.nl b.ok.go.nl b.ok.gs.nl ⟨b.i1,F⟩ ⟨b.o1,by omega⟩ b.s1 (by omega) b.row hcnt
 have hp':z1v NN (zeg a.fA a.fG a.fF a.fC a.fD.rows)=some (a,0,0,0):=by
  rw [N,o,p]
 have A:z0y w a.fD.inputs=0:=zed d hi2 f (by omega)
 have hrun:ry NN a.fD 0 w=some (z1b a.fD 0 w,0):=zr4 i A (by decide)
 have O:=i.r1
 have I:SOk a.fD 0:= .inr ⟨by omega,by omega⟩
 have B:pz NN a.fD 0 w=some (z1b a.fD 0 w):=zpv i I f (by unfold NN;omega) (by omega)
 have j:(z1b a.fD 0 w).length≤256:=by rw [z5a];omega
 have m:VOk a.fF.length (z1b a.fD 0 w):=fun c t=>by
  have:=zeq i w 0 I f c t
  omega
 have hout:=zix b j m
 have hnam:=zh1 j m b.ok.go.nm
 unfold ak
 rw [qa L,qa G]
 have ht1':z2p NN (⟨a.fA,(⟨a.fD.inputs,a.fD.outputs,a.fD.rows⟩:Mach),a.fG,a.fF,a.fC⟩:Sb)=_:=u
 rw [qa ht1',qa hp']
 have C:lm NN (⟨a.fA,(⟨a.fD.inputs,a.fD.outputs,a.fD.rows⟩:Mach),a.fG,a.fF,a.fC⟩:Sb) w=_:=zhv b f (by omega) s
 rw [qa C]
 have D:z2y NN (⟨a.fA,(⟨a.fD.inputs,a.fD.outputs,a.fD.rows⟩:Mach),a.fG,a.fF,a.fC⟩:Sb) (z4h w a.fG)=_:=zi9 b f (by omega)
 rw [qa D]
 refine Eq.trans (cf (by simp)) ?_
 dsimp only
 have hrun':ry NN (⟨a.fD.inputs,a.fD.outputs,a.fD.rows⟩:Mach) 0 w=_:=hrun
 have hrr':pz NN (⟨a.fD.inputs,a.fD.outputs,a.fD.rows⟩:Mach) 0 w=_:=B
 have hout':z0i NN (⟨a.fA,(⟨a.fD.inputs,a.fD.outputs,a.fD.rows⟩:Mach),a.fG,a.fF,a.fC⟩:Sb) (z1b a.fD 0 w)=_:=hout
 rw [qa hrun',qa hout',hrr']
 have P:(gop (true&&((decide ((0:Int)=0)&&decide ((0:Int)=0))==true)) (some (z1b a.fD 0 w)))=some (some (z1b a.fD 0 w)):=rfl
 rw [qa P]
 have Q:(gop (true&&((decide ((0:Int)=0)&&decide ((0:Int)=0))==true)) (gm NN ((some (z1b a.fD 0 w)).getD default) a.fF))=some (some (z4h (z1b a.fD 0 w) a.fF)):=by
  show gop true (gm NN (z1b a.fD 0 w) a.fF)=_
  rw [hnam];rfl
 rw [qa Q]
 simp [z07,gop,zfu]
end GV
end Go.Proofs.YtkkcidhcfkmbjaaGreatDoor
