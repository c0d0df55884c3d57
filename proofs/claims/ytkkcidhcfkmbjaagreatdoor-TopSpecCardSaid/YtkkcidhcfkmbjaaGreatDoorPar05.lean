
import Derived.Test.YtkkcidhcfkmbjaaGreatDoorLex05
set_option linter.unusedVariables false
set_option linter.unusedSimpArgs false
set_option linter.unusedSectionVars false
namespace Go.Proofs.YtkkcidhcfkmbjaaGreatDoor
namespace GV
def At(L:List Sa)(i:Nat)(toks:List (Int×List UInt8)):Prop:=i≤L.length∧L.length≤1000000∧(L.drop i).map kt=toks
theorem At.next{L:List Sa}{i:Nat}{x:Int×List UInt8}{r:List (Int×List UInt8)}(h:At L i (x::r)):i<L.length∧kt (L.getD i default)=x∧At L (i+1) r:=by
 obtain⟨e,b,a⟩:=h
 have hi:i<L.length:=by
  rcases Nat.lt_or_ge i L.length with h|h
  ·exact h
  ·rw [List.drop_eq_nil_of_le h] at a;cases a
 rw [List.drop_eq_getElem_cons hi,List.map_cons] at a
 injection a with c d
 refine⟨hi,?_,by omega,b,d⟩
 rw [List.getD_eq_getElem?_getD,List.getElem?_eq_getElem hi];exact c
theorem At.fin{L:List Sa}{i:Nat}(h:At L i []):i=L.length:=by
 obtain⟨b,c,a⟩:=h
 have:=congrArg List.length a
 simp at this
 omega
section rd
variable {N : Nat} {L : List Sa} {i : Nat} {a2 : List UInt8} {a3 a4 : Int} {a5 : List (List Edge)} {a6 a7 a8 : List (List UInt8)}
theorem zbz{x:Int×List UInt8}{r:List (Int×List UInt8)}(h:At L i (x::r)):dm N L (i:Int) a2 a3 a4 a5 a6 a7 a8=some (L.getD i default,((i+1:Nat):Int)):=by
 obtain⟨a,b,c⟩:=h.next
 have d:=h.2.1
 unfold dm
 have e:(i:Int)+1-1=(i:Int):=by omega
 rw [yn (by omega),zu (je (by omega)),e,zu (je (by omega)),zu (uf a),sj]
 rfl
theorem z4v{k:Int}{t:List UInt8}{r:List (Int×List UInt8)}(h:At L i ((k,t)::r)):ut N t L (i:Int) a2 a3 a4 a5 a6 a7 a8=some ((i+1:Nat):Int):=by
 obtain⟨c,a,d⟩:=h.next
 unfold ut
 rw [qa (zbz h),yn (fun b=>b (congrArg Prod.snd a))]
def z7b:List (List UInt8):=[[109,97,99,104,105,110,101],[105,110,112,117,116,115],[111,117,116,112,117,116,115],[115,116,97,116,101,115],[101,110,100]]
theorem z8h{s:List (List UInt8)}{k:Nat}(h:k<s.length):s.getD k default∈s:=by
 rw [List.getD_eq_getElem?_getD,List.getElem?_eq_getElem h];exact List.getElem_mem h
theorem index_none{s:List (List UInt8)}{v:List UInt8}(h:v∉s)(c:s.length<N)(d:s.length≤1000000):slices_Index_string N s v=some (-1):=by
 have b:jf N s v N 0=some (Ex.go ()):=by
  refine mi (σ:=Unit) (fun F k _=>jf N s v F (k:Int)) s.length (fun _ _=>True) _ (fun F k _ a _=> .inr ⟨(),trivial,?_⟩) (fun F _ _=>?_) N 0 () (Nat.zero_le _) (by omega) trivial
  ·simp only [jf]
   rw [aj (by omega),zu (uf a),sj,yn (fun e:v=s.getD k default=>h (by rw [e];exact z8h a)),zu (je (by omega))]
   rfl
  ·simp only [jf]
   rw [yn (by omega)]
 unfold slices_Index_string
 rw [qa b,zku]
theorem zja{s:List (List UInt8)}{v:List UInt8}{j:Nat}(a:j<s.length)(b:s.getD j default=v)(c: ∀ k,k<j→s.getD k default≠v)(g:s.length<N)(h:s.length≤1000000):slices_Index_string N s v=some (j:Int):=by
 have d:jf N s v N 0=some (Ex.rt (j:Int)):=by
  refine mi (σ:=Unit) (fun F k _=>jf N s v F (k:Int)) j (fun _ _=>True) _ (fun F k _ f _=> .inr ⟨(),trivial,?_⟩) (fun F _ _=>?_) N 0 () (Nat.zero_le _) (by omega) trivial
  ·simp only [jf]
   rw [aj (by omega),zu (uf (by omega)),sj,yn (fun e=>c k f e.symm),zu (je (by omega))]
   rfl
  ·simp only [jf]
   rw [aj (by omega),zu (uf a),sj,aj b.symm]
 unfold slices_Index_string
 rw [qa d,zsh]
theorem zn5{s:List (List UInt8)}{j:Nat}(b:s.Nodup)(a:j<s.length)(c:s.length<N)(d:s.length≤1000000):slices_Index_string N s (s.getD j default)=some (j:Int):=by
 refine zja a rfl (fun k f e=>?_) c d
 rw [List.getD_eq_getElem?_getD,List.getD_eq_getElem?_getD,List.getElem?_eq_getElem a,List.getElem?_eq_getElem (by omega)] at e
 exact List.pairwise_iff_getElem.1 b k j (by omega) a f e
theorem z9a{s:List (List UInt8)}{v:List UInt8}(h:v∉s)(a:s.length<N)(b:s.length≤1000000):slices_Contains_string N s v=some false:=by
 unfold slices_Contains_string
 rw [qa (index_none h a b)]
 rfl
theorem zfv{t:List UInt8}{r:List (Int×List UInt8)}(h:At L i ((1,t)::r))(b:t∉z7b)(f:100≤N):dw N L (i:Int) a2 a3 a4 a5 a6 a7 a8=some (t,((i+1:Nat):Int)):=by
 obtain⟨g,a,j⟩:=h.next
 have c:(L.getD i default).fI=1:=congrArg Prod.fst a
 have d:(L.getD i default).fH=t:=congrArg Prod.snd a
 unfold dw
 have e:lq N=some z7b:=rfl
 rw [qa (zbz h)]
 simp only [c,d]
 rw [yn (by omega),qa e,qa (z9a b (by simp [z7b];omega) (by simp [z7b])),cf rfl]
def zb7:List (List UInt8)→List (Int×List UInt8)
 | []=>[]
 | [n]=>[(1,n),(3,[59])]
 |n::m::l=>(1,n)::(3,[44])::zb7 (m::l)
theorem ze2{most:Nat}(j:100≤N)(q:most≤64): ∀ (l acc:List (List UInt8)) (i F:Nat) (r:List (Int×List UInt8)),l≠[]→At L i (zb7 l++r)→(acc++l).Nodup→(∀ n∈l,n∉z7b)→(acc++l).length≤most→l.length≤F→
 xn N (most:Int) L a2 a3 a4 a5 a6 a7 a8 F acc (i:Int)=some (acc++l,((i+2*l.length:Nat):Int))∧At L (i+2*l.length) r
 | [],_,_,_,_,h,_,_,_,_,_=>absurd rfl h
 |n::l,acc,i,F,r,_,c,k,o,a,p=>by
  rcases F with _|F
  ·simp at p
  have s:n∉acc:=fun e=>by
   have:=(List.nodup_append.1 k).2.2 n e n (List.mem_cons_self ..)
   exact this rfl
  simp only [List.length_append,List.length_cons] at a
  obtain⟨r',hA'⟩: ∃ r',At L i ((1,n)::r'):=by
   cases l with
   |nil=>exact⟨_,c⟩
   |cons m l=>exact⟨_,c⟩
  simp only [xn]
  rw [qa (zfv hA' (o n (List.mem_cons_self ..)) j),qa (z9a s (by omega) (by omega)),cf rfl,yn (by omega),zu ⟨by simp;omega,by simp;omega⟩]
  cases l with
  |nil=>
   have b:=c.next.2.2
   obtain⟨t,f,g⟩:=b.next
   have d:(L.getD (i+1) default).fH=[59]:=congrArg Prod.snd f
   rw [qa (zbz b),aj d]
   have u:iq N (acc++[n])=some (acc++[n]):=by
    unfold iq
    rw [zu (zkd _),zf8]
   rw [qa u]
   exact⟨rfl,g⟩
  |cons m l=>
   have b:=c.next.2.2
   obtain⟨t,f,g⟩:=b.next
   have d:(L.getD (i+1) default).fH=[44]:=congrArg Prod.snd f
   rw [qa (zbz b),yn (by simp only [d];decide),yn (by simp only [d];decide)]
   have:=ze2 j q (m::l) (acc++[n]) (i+2) F r (by simp) g (by simpa using k) (fun x e=>o x (List.mem_cons_of_mem _ e)) (by simp;simp at a;omega) (by simp at p⊢;omega)
   rw [List.append_assoc,List.singleton_append] at this
   rw [show i+2+2*(m::l).length=i+2*(n::m::l).length from by simp;omega] at this
   exact this
theorem zfe{most:Nat}{word:List UInt8}{l:List (List UInt8)}{r:List (Int×List UInt8)}(c:100≤N)(d:most≤64)(b:At L i ((1,word)::(zb7 l++r)))(e:l≠[])(f:l.Nodup)(g: ∀ n∈l,n∉z7b)(a:l.length≤most):
 yg N word (most:Int) L (i:Int) a2 a3 a4 a5 a6 a7 a8=some (l,((i+1+2*l.length:Nat):Int))∧At L (i+1+2*l.length) r:=by
 have h:=b.next.2.2
 have:=ze2 (a2:=a2) (a3:=a3) (a4:=a4) (a5:=a5) (a6:=a6) (a7:=a7) (a8:=a8) c d l [] (i+1) N r e h (by simpa using f) g (by simpa using a) (by omega)
 refine⟨?_,this.2⟩
 unfold yg
 rw [qa (z4v b)]
 exact this.1
theorem zp0{nm:List UInt8}{r:List (Int×List UInt8)}(d:100≤N)(a:At L i ((1,[109,97,99,104,105,110,101])::(1,nm)::(3,[59])::r))(e:nm∉z7b):
 aa N L (i:Int) a2 a3 a4 a5 a6 a7 a8=some (((i+3:Nat):Int),nm)∧At L (i+3) r:=by
 have b:=a.next.2.2
 have c:=b.next.2.2
 have f:=c.next.2.2
 refine⟨?_,f⟩
 unfold aa
 rw [qa (z4v a),qa (zfv b e d),qa (z4v c)]
theorem zox{r:List (Int×List UInt8)}(a:At L i [(1,[101,110,100]),(3,[59])]): ∃ j,fe N L (i:Int) a2 a3 a4 a5 a6 a7 a8=some j:=by
 have b:=a.next.2.2
 have c:=b.next.2.2
 have:=c.fin
 unfold fe
 rw [qa (z4v a),qa (z4v b),yn (by omega)]
 exact⟨_,rfl⟩
theorem of_at{l:List (List UInt8)}{j:Nat}{r:List (Int×List UInt8)}(a:100≤N)(b:j<l.length)(f:l.length≤64)(c:l.Nodup)(d:At L i ((1,l.getD j default)::r))(e:l.getD j default∉z7b):
 cu N l L (i:Int) a2 a3 a4 a5 a6 a7 a8=some ((j:Int),((i+1:Nat):Int)):=by
 unfold cu
 rw [qa (zfv d e a),qa (zn5 c b (by omega) (by omega)),yn (by omega)]
end rd
end GV
end Go.Proofs.YtkkcidhcfkmbjaaGreatDoor

namespace Go.Proofs.YtkkcidhcfkmbjaaGreatDoor
namespace GV
def nnE:Edge:=⟨-1,-1⟩
def zjz(ins ou st:List (List UInt8))(s i:Nat)(e:Edge):List (Int×List UInt8):=
 [(1,st.getD s default),(1,ins.getD i default),(3,[47]),(1,ou.getD e.out.toNat default),(3,[45,62]),(1,st.getD e.to.toNat default),(3,[59])]
def ze8(ins ou st:List (List UInt8))(s:Nat):Nat→List Edge→List (Int×List UInt8)
 |_,[]=>[]
 |c,e::r=>(if e.to= -1 then [] else zjz ins ou st s c e)++ze8 ins ou st s (c+1) r
def zcb(ins ou st:List (List UInt8)):Nat→List (List Edge)→List (Int×List UInt8)
 |_,[]=>[]
 |s,row::R=>ze8 ins ou st s 0 row++zcb ins ou st (s+1) R
def z5i:List Edge→Nat
 | []=>0
 |e::r=>(if e.to= -1 then 0 else 1)+z5i r
theorem zk5: ∀ r:List Edge,z5i r≤r.length
 | []=>Nat.le_refl _
 |e::r=>by have:=zk5 r;simp only [z5i,List.length_cons];split<;>omega
structure NL (l:List (List UInt8)):Prop where
 nd:l.Nodup
 res: ∀ n∈l,n∉z7b
 len:l.length≤64
def EOK(ou st:List (List UInt8))(e:Edge):Prop:=e=nnE∨(0≤e.to∧e.to<st.length∧0≤e.out∧e.out<ou.length)
section ed
variable {N : Nat} {L : List Sa} {a2 : List UInt8} {a3 a4 : Int} {ins ou st : List (List UInt8)}
theorem NL.at{l:List (List UInt8)}(h:NL l){j:Nat}(a:j<l.length):l.getD j default∉z7b:=h.res _ (z8h a)
theorem zky(b:100≤N)(hi':NL ins)(ho':NL ou)(hs':NL st){X:List (List Edge)}{s i k F:Nat}{e:Edge}{r:List (Int×List UInt8)}(f:s<X.length)(hi:i<(X.getD s default).length)(q:((X.getD s default).getD i default).to= -1)
 (a:s<st.length) (hi1:i<ins.length) (t:0≤e.to∧e.to<st.length∧0≤e.out∧e.out<ou.length) (u:At L k (zjz ins ou st s i e++r)):
 jq N L a2 a3 a4 ins ou st (F+1) (k:Int) X=jq N L a2 a3 a4 ins ou st F ((k+7:Nat):Int) (X.set s ((X.getD s default).set i e))∧At L (k+7) r:=by
 obtain⟨B,C,D,E⟩:=t
 have c:At L k _:=u
 have g:=c.next.2.2
 have h:=g.next.2.2
 have j:=h.next.2.2
 have l:=j.next.2.2
 have m:=l.next.2.2
 have n:=m.next.2.2
 have v:=n.next.2.2
 refine⟨?_,v⟩
 have w:=c.next.1
 have x:(L.getD k default).fH=st.getD s default:=congrArg Prod.snd c.next.2.1
 have d:st.getD s default≠[101,110,100]:=fun y=>hs'.at a (by rw [y];simp [z7b])
 have o:e.to.toNat<st.length:=by omega
 have p:e.out.toNat<ou.length:=by omega
 simp only [jq]
 rw [zu (fun _=>uf w),ct (by rw [sj,x];simp;exact .inr d),
  qa (of_at b a hs'.len hs'.nd c (hs'.at a)),qa (of_at b hi1 hi'.len hi'.nd g (hi'.at hi1)),qa (z4v h),qa (of_at b p ho'.len ho'.nd j (ho'.at p)),qa (z4v l),
  qa (of_at b o hs'.len hs'.nd m (hs'.at o)),qa (z4v n),zu (uf f),sj,zu (uf hi),sj,yn (by simp only [q];decide),zu (uf f),zu (uf hi)]
 have z:((e.to.toNat:Nat):Int)=e.to:=by omega
 have A:((e.out.toNat:Nat):Int)=e.out:=by omega
 simp only [z5d,z,A]
theorem set_mid{α:Type}{A B:List α}{x y:α}:(A++x::B).set A.length y=A++y::B:=by
 rw [List.set_append_right _ _ (Nat.le_refl _)];simp
theorem z5m{α:Type}{A B:List α}{x d:α}:(A++x::B).getD A.length d=x:=by
 rw [List.getD_eq_getElem?_getD,List.getElem?_append_right (Nat.le_refl _)];simp
theorem zca(c:100≤N)(hi':NL ins)(ho':NL ou)(hs':NL st){A B:List (List Edge)}(a:A.length<st.length){more:List (Int×List UInt8)}: ∀ (rest done:List Edge) (k:Nat),(∀ e∈rest,EOK ou st e)→done.length+rest.length≤ins.length→
 At L k (ze8 ins ou st A.length done.length rest++more)→ ∃ k',At L k' more∧ ∀ F,jq N L a2 a3 a4 ins ou st (F+z5i rest) (k:Int) (A++(done++List.replicate rest.length nnE)::B)=jq N L a2 a3 a4 ins ou st F (k':Int) (A++(done++rest)::B)
 | [],done,k,_,_,h=>⟨k,h,fun F=>rfl⟩
 |e::rest,done,k,d,n,h=>by
  simp only [List.length_cons] at n
  have b:=d e (List.mem_cons_self ..)
  simp only [ze8] at h
  by_cases ht:e.to= -1
  ·have:e=nnE:=by
    rcases b with h|h
    ·exact h
    ·omega
   subst this
   rw [if_pos ht,List.nil_append] at h
   obtain⟨k',f,g⟩:=zca c hi' ho' hs' a rest (done++[nnE]) k (fun x j=>d x (List.mem_cons_of_mem _ j)) (by simp;omega) (by rw [List.length_append];exact h)
   refine⟨k',f,fun F=>?_⟩
   have:=g F
   simp only [List.append_assoc,List.singleton_append] at this
   simp only [z5i,if_pos ht,List.length_cons,List.replicate_succ,Nat.zero_add]
   exact this
  ·have o:0≤e.to∧e.to<st.length∧0≤e.out∧e.out<ou.length:=by
    rcases b with h|h
    ·subst h;exact absurd rfl ht
    ·exact h
   rw [if_neg ht,List.append_assoc] at h
   have step:=fun F=>zky (F:=F) (a2:=a2) (a3:=a3) (a4:=a4) (X:=A++(done++List.replicate (rest.length+1) nnE)::B) (s:=A.length) (i:=done.length) c hi' ho' hs' (by simp) (by rw [z5m];simp) (by rw [z5m,List.replicate_succ,z5m];rfl) a (by omega) o h
   obtain⟨k',f,g⟩:=zca c hi' ho' hs' a rest (done++[e]) (k+7) (fun x j=>d x (List.mem_cons_of_mem _ j)) (by simp;omega) (by rw [List.length_append];exact(step 0).2)
   refine⟨k',f,fun F=>?_⟩
   have l:=g F
   have m:=(step (F+z5i rest)).1
   rw [z5m,set_mid,List.replicate_succ,set_mid] at m
   simp only [List.append_assoc,List.singleton_append] at l
   simp only [z5i,if_neg ht,List.length_cons,List.replicate_succ]
   rw [show F+(1+z5i rest)=F+z5i rest+1 from by omega,m]
   exact l
theorem zhr(c:100≤N)(hi':NL ins)(ho':NL ou)(hs':NL st){more:List (Int×List UInt8)}: ∀ (R A:List (List Edge)) (k:Nat),(∀ row∈R,row.length=ins.length∧ ∀ e∈row,EOK ou st e)→A.length+R.length≤st.length→
 At L k (zcb ins ou st A.length R++more)→ ∃ k',At L k' more∧ ∀ F,jq N L a2 a3 a4 ins ou st (F+(R.map z5i).sum) (k:Int) (A++List.replicate R.length (List.replicate ins.length nnE))=jq N L a2 a3 a4 ins ou st F (k':Int) (A++R)
 | [],A,k,_,_,h=>⟨k,h,fun F=>rfl⟩
 |row::R,A,k,d,i,h=>by
  simp only [List.length_cons] at i
  obtain⟨a,b⟩:=d row (List.mem_cons_self ..)
  simp only [zcb] at h
  rw [List.append_assoc] at h
  obtain⟨j,l,m⟩:=zca (a2:=a2) (a3:=a3) (a4:=a4) (B:=List.replicate R.length (List.replicate ins.length nnE)) c hi' ho' hs' (show A.length<st.length by omega) row [] k b (by simp;omega) h
  obtain⟨k',n,o⟩:=zhr c hi' ho' hs' R (A++[row]) j (fun x p=>d x (List.mem_cons_of_mem _ p)) (by simp;omega) (by rw [List.length_append];exact l)
  refine⟨k',n,fun F=>?_⟩
  have f:=m (F+(R.map z5i).sum)
  have g:=o F
  simp only [List.nil_append,a] at f
  simp only [List.append_assoc,List.singleton_append] at g
  simp only [List.map_cons,List.sum_cons,List.length_cons,List.replicate_succ]
  rw [show F+(z5i row+(R.map z5i).sum)=F+(R.map z5i).sum+z5i row from by omega,f,g]
theorem zo8(b:100≤N)(hi':NL ins)(ho':NL ou)(hs':NL st){r:List (Int×List UInt8)}{R:List (List Edge)}{k:Nat}(c: ∀ row∈R,row.length=ins.length∧ ∀ e∈row,EOK ou st e)(d:R.length≤st.length)(j:(R.map z5i).sum<N)
 (f:At L k (zcb ins ou st 0 R++(1,[101,110,100])::r)): ∃ k',At L k' ((1,[101,110,100])::r)∧ik N L (k:Int) a2 a3 a4 (List.replicate R.length (List.replicate ins.length nnE)) ins ou st=some ((k':Int),R):=by
 obtain⟨k',a,g⟩:=zhr (a2:=a2) (a3:=a3) (a4:=a4) b hi' ho' hs' R [] k c (by simpa using d) f
 refine⟨k',a,?_⟩
 obtain⟨M,rfl⟩: ∃ M,N=M+1+(R.map z5i).sum:=⟨N-1-(R.map z5i).sum,by omega⟩
 unfold ik
 have:=g (M+1)
 rw [List.nil_append,List.nil_append] at this
 rw [this]
 have h:=a.next.1
 have i:(L.getD k' default).fH=[101,110,100]:=congrArg Prod.snd a.next.2.1
 simp only [jq]
 rw [zu (fun _=>uf h),cf (by rw [sj,i];simp;omega)]
end ed
section li
variable {L : List Sa} {a2 : List UInt8} {a3 a4 : Int}
def NN:Nat:=100000
theorem zqw{n:Nat}(h:1≤n∧n≤3):o7 NN ([(⟨(-1),(-1)⟩:Edge)]:List Edge) (n:Int)=some (List.replicate n nnE):=by
 obtain⟨a,b⟩:=h
 have:n=1∨n=2∨n=3:=by omega
 rcases this with rfl|rfl|rfl<;>decide+kernel
theorem zle{b c a:List (List UInt8)×Int}(h:1≤b.1.length∧b.1.length≤3)(f:a.1.length≤64):
 uy NN b c a NN 0 (mk (a.1.length:Int) ([]:List Edge))=some (a.2,(b.1.length:Int),(c.1.length:Int),List.replicate a.1.length (List.replicate b.1.length nnE),b.1,c.1,a.1):=by
 refine mi (fun F k X=>uy NN b c a F (k:Int) X) a.1.length (fun k X=>X=List.replicate k (List.replicate b.1.length nnE)++List.replicate (a.1.length-k) []) _ (fun F k X g d=> .inr ⟨List.replicate (k+1) (List.replicate b.1.length nnE)++List.replicate (a.1.length-(k+1)) [],rfl,?_⟩) (fun F X d=>?_) NN 0 _ (Nat.zero_le _) (by unfold NN;omega) (by simp [z9g])
 ·subst d
  simp only [uy]
  rw [aj (by rw [z9g,List.length_replicate];omega),qa (zqw h),zu (uf (by simp;omega)),zu (je (by omega)),z5d]
  have:(List.replicate k (List.replicate b.1.length nnE)++List.replicate (a.1.length-k) []).set k (List.replicate b.1.length nnE)=List.replicate (k+1) (List.replicate b.1.length nnE)++List.replicate (a.1.length-(k+1)) []:=by
   obtain⟨m,e⟩: ∃ m,a.1.length-k=m+1:=⟨a.1.length-k-1,by omega⟩
   rw [e,List.replicate_succ,show a.1.length-(k+1)=m from by omega]
   have:=set_mid (A:=List.replicate k (List.replicate b.1.length nnE)) (B:=List.replicate m []) (x:=[]) (y:=List.replicate b.1.length nnE)
   rw [List.length_replicate] at this
   rw [this,List.replicate_succ']
   simp
  rw [this];rfl
 ·subst d
  simp only [uy]
  rw [yn (by rw [z9g,List.length_replicate];omega)]
  simp
def zm4(nm:List UInt8)(ins ou st:List (List UInt8))(R:List (List Edge)):List (Int×List UInt8):=
 (1,[109,97,99,104,105,110,101])::(1,nm)::(3,[59])::(1,[105,110,112,117,116,115])::(zb7 ins++((1,[111,117,116,112,117,116,115])::(zb7 ou++((1,[115,116,97,116,101,115])::(zb7 st++
  (zcb ins ou st 0 R++[(1,[101,110,100]),(3,[59])]))))))
theorem zm5{s:List UInt8}{nm:List UInt8}{ins ou st:List (List UInt8)}{R:List (List Edge)}(f:Lex s (zm4 nm ins ou st R))(m:s.length≤65536)(b:nm∉z7b)(hi':NL ins)(ho':NL ou)(hs':NL st)
 (g:1≤ins.length∧ins.length≤3) (n:1≤ou.length∧ou.length≤16) (o:1≤st.length) (p:R.length=st.length) (q: ∀ row∈R,row.length=ins.length∧ ∀ e∈row,EOK ou st e) (E:(R.map z5i).sum≤1000):
 z1v NN s=some ((⟨nm,(⟨(ins.length:Int),(ou.length:Int),R⟩:Mach),ins,ou,st⟩:Sb),0,0,0):=by
 obtain⟨L,t,i⟩:=zqo (N:=NN) f m (by decide)
 have c:L.length≤1000000:=by
  have:=f.len
  rw [←i,List.length_map] at this
  omega
 have u:At L 0 (zm4 nm ins ou st R):=⟨by omega,c,by simpa using i⟩
 have a: ∀ {l:List (List UInt8)},1≤l.length→l≠[]:=fun h e=>by subst e;simp at h
 obtain⟨v,w⟩:=zp0 (N:=NN) (a2:=[]) (a3:=0) (a4:=0) (a5:=[]) (a6:=[]) (a7:=[]) (a8:=[]) (by decide) u b
 unfold z1v
 rw [qa t,yn (by simp)]
 have b1':aa NN L 0 ([]:List UInt8) 0 0 ([]:List (List Edge)) [] [] []=some (((0+3:Nat):Int),nm):=v
 rw [qa b1']
 obtain⟨x,y⟩:=zfe (N:=NN) (most:=16) (a2:=nm) (a3:=0) (a4:=0) (a5:=[]) (a6:=[]) (a7:=[]) (a8:=[]) (by decide) (by decide) w (a g.1) hi'.nd hi'.res (by omega)
 obtain⟨z,A⟩:=zfe (N:=NN) (most:=16) (a2:=nm) (a3:=0) (a4:=0) (a5:=[]) (a6:=ins) (a7:=[]) (a8:=[]) (by decide) (by decide) y (a n.1) ho'.nd ho'.res (by omega)
 obtain⟨f1,B⟩:=zfe (N:=NN) (most:=64) (a2:=nm) (a3:=0) (a4:=0) (a5:=[]) (a6:=ins) (a7:=ou) (a8:=[]) (by decide) (by decide) A (a o) hs'.nd hs'.res hs'.len
 have d:ay NN L ((0+3:Nat):Int) nm 0 0 ([]:List (List Edge)) [] [] []=some ((((0+3+1+2*ins.length)+1+2*ou.length+1+2*st.length:Nat):Int),(ins.length:Int),(ou.length:Int),List.replicate st.length (List.replicate ins.length nnE),ins,ou,st):=by
  unfold ay
  have c1':yg NN ([105,110,112,117,116,115]:List UInt8) 16 L ((0+3:Nat):Int) nm 0 0 ([]:List (List Edge)) [] [] []=_:=x
  have d1':yg NN ([111,117,116,112,117,116,115]:List UInt8) 16 L ((0+3+1+2*ins.length:Nat):Int) nm 0 0 ([]:List (List Edge)) ins [] []=_:=z
  have f1':yg NN ([115,116,97,116,101,115]:List UInt8) 64 L ((0+3+1+2*ins.length+1+2*ou.length:Nat):Int) nm 0 0 ([]:List (List Edge)) ins ou []=_:=f1
  rw [qa c1',qa d1',qa f1',zu ⟨by omega,by have:=hs'.len;simp only;omega,by have:=hs'.len;simp only;omega⟩,zle (by simpa using g) (by simpa using hs'.len)]
 rw [qa d]
 obtain⟨k',C,k⟩:=zo8 (N:=NN) (a2:=nm) (a3:=(ins.length:Int)) (a4:=(ou.length:Int)) (by decide) hi' ho' hs' q (by omega) (by unfold NN;omega) B
 rw [p] at k
 rw [qa k]
 obtain⟨j,D⟩:=zox (N:=NN) (a2:=nm) (a3:=(ins.length:Int)) (a4:=(ou.length:Int)) (a5:=R) (a6:=ins) (a7:=ou) (a8:=st) (r:=[]) C
 rw [qa D]
end li
end GV
end Go.Proofs.YtkkcidhcfkmbjaaGreatDoor
