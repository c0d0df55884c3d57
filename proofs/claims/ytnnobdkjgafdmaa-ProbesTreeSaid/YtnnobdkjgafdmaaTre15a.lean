import Derived.Test.YtnnobdkjgafdmaaBld15
import Derived.Test.YtnnobdkjgafdmaaChk15
set_option linter.unusedVariables false
set_option linter.unusedSimpArgs false
set_option linter.unusedSectionVars false
namespace Go.Proofs.Ytnnobdkjgafdmaa
namespace GV
set_option maxRecDepth 100000
theorem zwt(k:Nat):(List.replicate k (-1:Int)).filter nk=[]:=by
 rw [List.filter_eq_nil_iff]
 intro e a h
 rw [List.eq_of_mem_replicate a] at h
 exact absurd (of_decide_eq_true h) (fun h=>h rfl)
theorem q69(k:Nat):(List.replicate k (-1:Int)).any nk=false:=by
 rw [List.any_eq_false]
 intro e a h
 rw [List.eq_of_mem_replicate a] at h
 exact absurd (of_decide_eq_true h) (fun h=>h rfl)
section
variable {m : Mach} {G : List Nat → List Nat → Nat → List Sa} {now fr : List Nat} {i n0 : Nat}
def chE(m:Mach)(G:List Nat→List Nat→Nat→List Sa)(now fr:List Nat)(i n0 o:Nat):Nat:=n0+1+(chN m G now fr i n0 o).1.length
theorem q3e{o:Nat}(h:ptN m now i now.length o=[]):chN m G now fr i n0 (o+1)=chN m G now fr i n0 o:=if_pos h
theorem zso{o:Nat}(h:ptN m now i now.length o≠[]):chN m G now fr i n0 (o+1)=((chN m G now fr i n0 o).1++G (ptN m now i now.length o) (z6z m now fr i now.length o) (chE m G now fr i n0 o),(chN m G now fr i n0 o).2.set o ((chE m G now fr i n0 o:Nat):Int)):=if_neg h
theorem zmy: ∀ o,o≤m.outputs.toNat→ ∃ A,(chN m G now fr i n0 o).2=A++List.replicate (m.outputs.toNat-o) (-1)∧A.length=o
 |0,_=>⟨[],rfl,rfl⟩
 |o+1,f=>by
  obtain⟨A,a,b⟩:=zmy o (by omega)
  obtain⟨q,d⟩: ∃ q,m.outputs.toNat-o=q+1:=⟨m.outputs.toNat-o-1,by omega⟩
  have c:m.outputs.toNat-(o+1)=q:=by omega
  rw [d,List.replicate_succ] at a
  rw [c]
  by_cases e:ptN m now i now.length o=[]
  ·refine⟨A++[-1],?_,by simp [b]⟩
   rw [q3e e,a];simp
  ·refine⟨A++[((chE m G now fr i n0 o:Nat):Int)],?_,by simp [b]⟩
   rw [zso e]
   show List.set _ _ _=_
   rw [a,List.set_append_right _ _ (by omega),b,Nat.sub_self,List.set_cons_zero];simp
theorem q3k{o:Nat}(d:o<m.outputs.toNat)(h:ptN m now i now.length o≠[]):(chN m G now fr i n0 (o+1)).2.filter nk=(chN m G now fr i n0 o).2.filter nk++[((chE m G now fr i n0 o:Nat):Int)]:=by
 obtain⟨A,a,b⟩:=zmy (m:=m) (G:=G) (now:=now) (fr:=fr) (i:=i) (n0:=n0) o (by omega)
 obtain⟨q,c⟩: ∃ q,m.outputs.toNat-o=q+1:=⟨m.outputs.toNat-o-1,by omega⟩
 rw [c,List.replicate_succ] at a
 rw [zso h]
 show List.filter nk (List.set _ _ _)=_
 rw [a,List.set_append_right _ _ (by omega),b,Nat.sub_self,List.set_cons_zero,List.filter_append,List.filter_append,List.filter_cons,List.filter_cons,zwt,if_pos (show nk ((chE m G now fr i n0 o:Nat):Int)=true from decide_eq_true (by omega)),if_neg (show¬nk (-1)=true by decide),List.append_nil]
theorem zpy: ∀ K,K≤m.outputs.toNat→ ∀ o,o<K→(ptN m now i now.length o=[]→(chN m G now fr i n0 K).2.getD o default= -1)∧(ptN m now i now.length o≠[]→ ∃ P S,(chN m G now fr i n0 K).1=P++G (ptN m now i now.length o) (z6z m now fr i now.length o) (n0+1+P.length)++S∧(chN m G now fr i n0 K).2.getD o default=((n0+1+P.length:Nat):Int))
 |0,_,o,h=>by omega
 |K+1,k,o,l=>by
  have c:=zaz (m:=m) (G:=G) (now:=now) (fr:=fr) (i:=i) (n0:=n0) K
  by_cases e:ptN m now i now.length K=[]
  ·rw [q3e e]
   by_cases eo:o=K
   ·subst eo
    refine⟨fun _=>?_,fun h=>absurd e h⟩
    obtain⟨A,a,b⟩:=zmy (m:=m) (G:=G) (now:=now) (fr:=fr) (i:=i) (n0:=n0) o (by omega)
    obtain⟨q,f⟩: ∃ q,m.outputs.toNat-o=q+1:=⟨m.outputs.toNat-o-1,by omega⟩
    rw [a,f,List.replicate_succ,List.getD_eq_getElem?_getD,List.getElem?_append_right (by omega),b,Nat.sub_self];rfl
   ·exact zpy K (by omega) o (by omega)
  ·rw [zso e]
   by_cases eo:o=K
   ·subst eo
    refine⟨fun h=>absurd h e,fun _=>⟨(chN m G now fr i n0 o).1,[],by rw [List.append_nil];rfl,?_⟩⟩
    show (List.set _ _ _).getD _ _=_
    rw [z0a (by rw [c];omega),if_pos rfl];rfl
   ·obtain⟨a,b⟩:=zpy K (by omega) o (by omega)
    have d:((chN m G now fr i n0 K).2.set K ((chE m G now fr i n0 K:Nat):Int)).getD o default=(chN m G now fr i n0 K).2.getD o default:=by
     rw [z0a (by rw [c];omega),if_neg eo]
    refine⟨fun h=>d.trans (a h),fun h=>?_⟩
    obtain⟨P,S,g,j⟩:=b h
    refine⟨P,S++G (ptN m now i now.length K) (z6z m now fr i now.length K) (chE m G now fr i n0 K),?_,d.trans j⟩
    show List.append _ _=_
    rw [g]
    show (_++S)++_=_
    rw [List.append_assoc]
end
section
variable {m : Mach} (hm : PM m)
include hm
theorem q2o{now fr:List Nat}{i o:Nat}: ∀ s∈z6z m now fr i now.length o,s∈fr:=by
 intro s c
 unfold z6z at c
 obtain⟨p,d,rfl⟩:=List.mem_map.1 c
 have:=List.mem_of_mem_take (List.mem_filter.1 d).1
 exact(List.of_mem_zip (a:=p.1) (b:=p.2) this).2
theorem q90(g:Nat): ∀ (now fr:List Nat) (n0:Nat),Gro m now fr→FT m (num m.rows.length now)<g→(∀ s∈fr,s<m.rows.length)→ ∀ X w,stk m (gT m g now fr n0++X) n0 ((n0:Int)::w)=stk m X (n0+(gT m g now fr n0).length) w:=by
 induction g with
 |zero=>intro now fr n0 h n;have:=h.ft;omega
 |succ g ih=>
  intro now fr n0 h n l X w
  have v:=z9h hm h
  have p:=hm.ok.o1
  have q:=hm.ok.o2
  have x:=hm.toCM.nin
  unfold gT
  by_cases h1:now.length=1
  ·rw [if_pos h1]
   show ((decide ((n0:Int)=(n0:Int))&&z6t m _)&&stk m X (n0+1) (kids _++w))=_
   have f:z6t m (⟨-1,((fr.getD 0 0:Nat):Int),List.replicate m.outputs.toNat (-1)⟩:Sa)=true:=by
    have d:=l _ (su (L:=fr) (i:=0) (by rw [h.fl];omega))
    have d:fr.getD 0 0<m.rows.length:=d
    unfold z6t
    rw [um (show¬(((⟨-1,((fr.getD 0 0:Nat):Int),List.replicate m.outputs.toNat (-1)⟩:Sa).fC.length:Int)≠m.outputs) by simp;omega),wu rfl]
    show (((!(List.replicate m.outputs.toNat (-1:Int)).any nk)&&decide (0≤((fr.getD 0 0:Nat):Int)))&&decide (((fr.getD 0 0:Nat):Int)<(m.rows.length:Int)))=true
    rw [q69,decide_eq_true (by omega),decide_eq_true (by omega)];rfl
   rw [f,decide_eq_true rfl]
   show stk m X (n0+1) ((List.replicate m.outputs.toNat (-1:Int)).filter nk++w)=_
   rw [zwt];rfl
  ·rw [if_neg h1]
   have r:=(zdt hm h).2 h1
   obtain⟨a,b,c⟩:=zao hm h h1
   generalize hfi:z7g m (num m.rows.length now)=i at*
   show ((decide ((n0:Int)=(n0:Int))&&z6t m _)&&stk m ((chN m (gT m g) now fr i n0 m.outputs.toNat).1++X) (n0+1) ((chN m (gT m g) now fr i n0 m.outputs.toNat).2.filter nk++w))=_
   have f:z6t m (⟨(i:Int),-1,(chN m (gT m g) now fr i n0 m.outputs.toNat).2⟩:Sa)=true:=by
    unfold z6t
    have j:=zaz (m:=m) (G:=gT m g) (now:=now) (fr:=fr) (i:=i) (n0:=n0) m.outputs.toNat
    rw [um (show¬(((chN m (gT m g) now fr i n0 m.outputs.toNat).2.length:Int)≠m.outputs) by rw [j];omega),um (show¬(i:Int)= -1 by omega)]
    show ((decide (0≤(i:Int))&&decide ((i:Int)<m.inputs))&&decide ((-1:Int)= -1))=true
    rw [decide_eq_true (by omega),decide_eq_true (by omega),decide_eq_true rfl];rfl
   rw [f,decide_eq_true rfl,Bool.true_and,Bool.true_and]
   have key: ∀ o,o≤m.outputs.toNat→ ∀ X w,stk m ((chN m (gT m g) now fr i n0 o).1++X) (n0+1) ((chN m (gT m g) now fr i n0 o).2.filter nk++w)=stk m X (chE m (gT m g) now fr i n0 o) w:=by
    intro o
    induction o with
    |zero=>
     intro _ X w
     show stk m ([]++X) (n0+1) ((List.replicate m.outputs.toNat (-1:Int)).filter nk++w)=_
     rw [zwt];rfl
    |succ o iho=>
     intro y X w
     by_cases e:ptN m now i now.length o=[]
     ·unfold chE
      rw [q3e e]
      exact iho (by omega) X w
     ·obtain⟨t,z⟩:=c o (by omega)
      have k:=t e
      rw [q3k (by omega) e,List.append_assoc,List.singleton_append]
      have u:chE m (gT m g) now fr i n0 (o+1)=chE m (gT m g) now fr i n0 o+(gT m g (ptN m now i now.length o) (z6z m now fr i now.length o) (chE m (gT m g) now fr i n0 o)).length:=by
       unfold chE
       rw [zso e]
       show _+(_++_:List Sa).length=_
       rw [List.length_append];unfold chE;omega
      rw [u,zso e]
      show stk m ((_++_)++X) _ _=_
      rw [List.append_assoc,iho (by omega)]
      exact ih _ _ _ k (by omega) (fun s d=>l s (q2o hm s d)) X w
   rw [key _ (Nat.le_refl _)]
   unfold chE
   congr 1
   simp only [List.length_cons];omega
inductive Wk (m:Mach) (l:List Sa) (lf:Nat):Nat→Nat→List Int→Prop
 |leaf {s p:Nat}:p<l.length→(l.getD p default).fB= -1→(l.getD p default).fE=(lf:Int)→Wk m l lf s p []
 |step {s p i q:Nat} {os:List Int}:p<l.length→i<nIn m→s<m.rows.length→(l.getD p default).fB=(i:Int)→rz m s i<(l.getD p default).fC.length→(l.getD p default).fC.getD (rz m s i) default=(q:Int)→Wk m l lf (tgt m s i) q os→Wk m l lf s p ((rz m s i:Int)::os)
theorem q3x{A Y:List Sa}{y:Sa}:A.length<(A++y::Y).length∧(A++y::Y).getD A.length default=y:=by
 refine⟨by simp,?_⟩
 simp [List.getD_eq_getElem?_getD]
theorem q9f{now fr:List Nat}{i o:Nat}(c:fr.length=now.length):ptN m now i now.length o=((now.zip fr).filter fun p=>qO m i o p.1).map fun p=>tgt m p.1 i:=by
 unfold ptN
 rw [List.take_length]
 induction now generalizing fr with
 |nil=>rfl
 |cons a now ih=>
  cases fr with
  |nil=>simp at c
  |cons b fr=>
   rw [List.zip_cons_cons,List.filter_cons,List.filter_cons]
   have:=ih (fr:=fr) (by simpa using c)
   show List.map _ (if qO m i o a=true then _ else _:List Nat)=List.map _ (if qO m i o a=true then _ else _:List (Nat×Nat))
   split
   ·rw [List.map_cons,List.map_cons,this]
   ·exact this
theorem q5c{now fr:List Nat}{i o:Nat}(a:fr.length=now.length):z6z m now fr i now.length o=((now.zip fr).filter fun p=>qO m i o p.1).map Prod.snd:=by
 unfold z6z
 rw [List.take_of_length_le (by rw [List.length_zip];omega)]
theorem q92{now fr:List Nat}{i k:Nat}(b:fr.length=now.length)(c:k<now.length): ∃ j,j<(ptN m now i now.length (rz m (now.getD k default) i)).length∧(ptN m now i now.length (rz m (now.getD k default) i)).getD j default=tgt m (now.getD k default) i∧(z6z m now fr i now.length (rz m (now.getD k default) i)).getD j default=fr.getD k default:=by
 rw [q9f hm b,q5c hm b]
 have hmem:(now.getD k default,fr.getD k default)∈(now.zip fr).filter fun p=>qO m i (rz m (now.getD k default) i) p.1:=by
  refine List.mem_filter.2 ⟨?_,decide_eq_true rfl⟩
  rw [List.mem_iff_getElem]
  refine⟨k,by rw [List.length_zip];omega,?_⟩
  rw [List.getElem_zip,List.getD_eq_getElem?_getD,List.getD_eq_getElem?_getD,List.getElem?_eq_getElem c,List.getElem?_eq_getElem (by omega)];rfl
 obtain⟨j,a,e⟩:=List.mem_iff_getElem.1 hmem
 refine⟨j,by rw [List.length_map];exact a,?_,?_⟩
 ·rw [List.getD_eq_getElem?_getD,List.getElem?_map,List.getElem?_eq_getElem a,e];rfl
 ·rw [List.getD_eq_getElem?_getD,List.getElem?_map,List.getElem?_eq_getElem a,e];rfl
theorem q6b(g:Nat): ∀ (now fr:List Nat) (n0:Nat),Gro m now fr→FT m (num m.rows.length now)<g→ ∀ A X:List Sa,A.length=n0→ ∀ k,k<now.length→ ∃ os,Wk m (A++gT m g now fr n0++X) (fr.getD k default) (now.getD k default) n0 os∧os.length≤(FT m (num m.rows.length now)).toNat:=by
 induction g with
 |zero=>intro now fr n0 h w;have:=h.ft;omega
 |succ g ih=>
  intro now fr n0 h w A X r k s
  have I:=z9h hm h
  have x:=hm.ok.o1
  have z:=hm.ok.o2
  have J:=hm.toCM.nin
  unfold gT
  by_cases h1:now.length=1
  ·rw [if_pos h1]
   obtain rfl:k=0:=by omega
   refine⟨[],?_,Nat.zero_le _⟩
   subst r
   rw [List.append_assoc,List.singleton_append]
   obtain⟨n,d⟩:=q3x hm (A:=A) (Y:=X) (y:=(⟨-1,((fr.getD 0 0:Nat):Int),List.replicate m.outputs.toNat (-1)⟩:Sa))
   refine Wk.leaf n (by rw [d]) (by rw [d];rfl)
  ·rw [if_neg h1]
   obtain⟨a,b,c⟩:=zao hm h h1
   generalize hfi:z7g m (num m.rows.length now)=i at*
   have t:=h.b.lt _ (su s)
   obtain⟨K,B,L⟩:=zas hm a t
   obtain⟨j,o,C,D⟩:=q92 hm (i:=i) h.fl s
   have f:ptN m now i now.length (rz m (now.getD k default) i)≠[]:=fun e=>by rw [e] at o;exact absurd o (Nat.not_lt_zero _)
   obtain⟨E,M⟩:=c _ B
   have l:=E f
   obtain⟨P,S,F,H⟩:=(zpy (m:=m) (G:=gT m g) (now:=now) (fr:=fr) (i:=i) (n0:=n0) m.outputs.toNat (Nat.le_refl _) (rz m (now.getD k default) i) (by omega)).2 f
   have p:=zaz (m:=m) (G:=gT m g) (now:=now) (fr:=fr) (i:=i) (n0:=n0) m.outputs.toNat
   subst r
   obtain⟨os,u,N⟩:=ih _ _ (A.length+1+P.length) l (by omega) (A++(⟨(i:Int),-1,(chN m (gT m g) now fr i A.length m.outputs.toNat).2⟩:Sa)::P) (S++X) (by simp;omega) j o
   obtain⟨n,d⟩:=q3x hm (A:=A) (Y:=(chN m (gT m g) now fr i A.length m.outputs.toNat).1++X) (y:=(⟨(i:Int),-1,(chN m (gT m g) now fr i A.length m.outputs.toNat).2⟩:Sa))
   have v:A++(⟨(i:Int),-1,(chN m (gT m g) now fr i A.length m.outputs.toNat).2⟩:Sa)::(chN m (gT m g) now fr i A.length m.outputs.toNat).1++X=A++(⟨(i:Int),-1,(chN m (gT m g) now fr i A.length m.outputs.toNat).2⟩:Sa)::((chN m (gT m g) now fr i A.length m.outputs.toNat).1++X):=by simp
   refine⟨(rz m (now.getD k default) i:Int)::os,?_,by have:=l.ft;simp;omega⟩
   rw [v]
   refine Wk.step (q:=A.length+1+P.length) n a t (by rw [d]) (by rw [d];show _<(chN m (gT m g) now fr i A.length m.outputs.toNat).2.length;rw [p];omega) (by rw [d];exact H) ?_
   rw [C,D] at u
   rw [←v,F]
   simpa using u
end
end GV
end Go.Proofs.Ytnnobdkjgafdmaa
