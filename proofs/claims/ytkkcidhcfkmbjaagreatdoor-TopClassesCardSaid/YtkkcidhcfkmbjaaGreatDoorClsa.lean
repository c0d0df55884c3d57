import Derived.Test.YtkkcidhcfkmbjaaGreatDoorRunt
set_option linter.unusedVariables false
set_option linter.unusedSimpArgs false
set_option linter.unusedSectionVars false
namespace Go.Proofs.YtkkcidhcfkmbjaaGreatDoor
namespace GV
set_option maxRecDepth 100000
section
variable {N : Nat}
theorem zl2{l:List Int}(g:l.length<N)(i:l.length≤1000000):dh N l=some (yt (fun s=>l.getD s default) l.length):=by
 have f:u6 N l N 0 ([]:List (Int×Int)) (mk (l.length:Int) (0:Int))=some (yt (fun s=>l.getD s default) l.length):=by
  refine x9 (σ:=List (Int×Int)×List Int) (fun F k st=>u6 N l F (k:Int) st.1 st.2) l.length
   (fun k st=>st.1=nmM (fun s=>l.getD s default) k∧st.2=(List.range k).map (fun s=>(name (fun s=>l.getD s default) s:Int))++List.replicate (l.length-k) 0) _ (fun F k st e hi=> .inr ?_) (fun F st hi=>?_) N 0 ([],mk (l.length:Int) (0:Int)) (Nat.zero_le _) (by omega) ⟨rfl,by rw [z15];simp⟩
  ·obtain⟨M,X⟩:=st
   obtain⟨d,a⟩:=hi
   dsimp only at d a⊢
   subst d;subst a
   have c:((List.range k).map (fun s=>(name (fun s=>l.getD s default) s:Int))).length=k:=by simp
   refine⟨(nmM (fun s=>l.getD s default) (k+1),(List.range (k+1)).map (fun s=>(name (fun s=>l.getD s default) s:Int))++List.replicate (l.length-(k+1)) 0),⟨rfl,rfl⟩,?_⟩
   simp only [u6]
   rw [xw (by omega),zi (j5 e),dx]
   refine(q8 (x:=nmM (fun s=>l.getD s default) (k+1)) ?_).trans ?_
   ·cases h:mg (nmM (fun s=>l.getD s default) k) (l.getD k default)
    ·exact(ct (b:= !false) rfl).trans (by rw [zcu (fun s=>l.getD s default) h])
    ·exact(cf (b:= !true) rfl).trans (by rw [zc6 (fun s=>l.getD s default) h])
   ·rw [zi (j5 (by rw [List.length_append,c,List.length_replicate];omega)),zi (qi (by omega)),z8s (fun s=>l.getD s default) _ (Nat.lt_succ_self k),z3p,z0v c e,aa]
    rfl
  ·obtain⟨M,X⟩:=st
   obtain⟨d,a⟩:=hi
   dsimp only at d a⊢
   subst a
   simp only [u6]
   rw [yj (by omega),Nat.sub_self,List.replicate_zero,List.append_nil];rfl
 unfold dh
 rw [zi ⟨by omega,by omega,by omega⟩,q8 f]
theorem zi9{l:List (Int×Int)}(g:l.length<N)(i:l.length≤1000000):xz N l=some (yt (fun s=>l.getD s default) l.length):=by
 have f:ji N l N 0 ([]:List ((Int×Int)×Int)) (mk (l.length:Int) (0:Int))=some (yt (fun s=>l.getD s default) l.length):=by
  refine x9 (σ:=List ((Int×Int)×Int)×List Int) (fun F k st=>ji N l F (k:Int) st.1 st.2) l.length
   (fun k st=>st.1=nmM (fun s=>l.getD s default) k∧st.2=(List.range k).map (fun s=>(name (fun s=>l.getD s default) s:Int))++List.replicate (l.length-k) 0) _ (fun F k st e hi=> .inr ?_) (fun F st hi=>?_) N 0 ([],mk (l.length:Int) (0:Int)) (Nat.zero_le _) (by omega) ⟨rfl,by rw [z15];simp⟩
  ·obtain⟨M,X⟩:=st
   obtain⟨d,a⟩:=hi
   dsimp only at d a⊢
   subst d;subst a
   have c:((List.range k).map (fun s=>(name (fun s=>l.getD s default) s:Int))).length=k:=by simp
   refine⟨(nmM (fun s=>l.getD s default) (k+1),(List.range (k+1)).map (fun s=>(name (fun s=>l.getD s default) s:Int))++List.replicate (l.length-(k+1)) 0),⟨rfl,rfl⟩,?_⟩
   simp only [ji]
   rw [xw (by omega),zi (j5 e),dx]
   refine(q8 (x:=nmM (fun s=>l.getD s default) (k+1)) ?_).trans ?_
   ·show (bif !(mg (nmM (fun s=>l.getD s default) k) (l.getD k default)) then some (z3a (nmM (fun s=>l.getD s default) k) (l.getD k default) _) else _)=_
    cases h:mg (nmM (fun s=>l.getD s default) k) (l.getD k default)
    ·exact(ct (b:= !false) rfl).trans (by rw [zcu (fun s=>l.getD s default) h])
    ·exact(cf (b:= !true) rfl).trans (by rw [zc6 (fun s=>l.getD s default) h])
   ·rw [zi (j5 (by rw [List.length_append,c,List.length_replicate];omega)),zi (qi (by omega))]
    rw [show z02 (0:Int) (nmM (fun s=>l.getD s default) (k+1)) ((l.getD k default).1,(l.getD k default).2)=(name (fun s=>l.getD s default) k:Int) from z8s (fun s=>l.getD s default) _ (Nat.lt_succ_self k)]
    rw [z3p,z0v c e,aa]
    rfl
  ·obtain⟨M,X⟩:=st
   obtain⟨d,a⟩:=hi
   dsimp only at d a⊢
   subst a
   simp only [ji]
   rw [yj (by omega),Nat.sub_self,List.replicate_zero,List.append_nil];rfl
 unfold xz
 rw [zi ⟨by omega,by omega,by omega⟩,q8 f]
theorem zno{l:List Int}(a:300≤N)(b:l.length≤64):z13 N l=some (yt (fun s=>l.getD s default) l.length,0):=by
 unfold z13
 rw [yj (by omega),q8 (zl2 (by omega) (by omega))]
variable {κ : Type} [DecidableEq κ] {f : Nat → κ} {n : Nat}
theorem ru{k:Nat}(h:k<n):ix (yt f n) (k:Int)=(name f k:Int):=by rw [dx];exact zjo f h
theorem zlk(f:Nat→κ)(k:Nat):name f k≤cntF f k∧(name f k=cntF f k↔fu f k=true):=by
 by_cases h:fu f k=true
 ·rw [zbn h];exact⟨Nat.le_refl _,⟨fun _=>h,fun _=>rfl⟩⟩
 ·obtain⟨b,c,d⟩:=p9 f k
  have a:o7 f k<k:=by
   rcases Nat.lt_or_ge (o7 f k) k with e|e
   ·exact e
   ·have:o7 f k=k:=by omega
    exact absurd (by rw [←this];exact z0w f k) h
  have:=z90 f a (z0w f k)
  unfold name
  exact⟨by omega,⟨fun e=>by omega,fun e=>absurd e h⟩⟩
theorem zbc(g:300≤N)(i:n≤64):oo N (yt f n)=some 0:=by
 have j:=z6k f n
 have c:vk N (yt f n) N 0 0=some (Ex.go ()):=by
  refine x9 (σ:=Int) (fun F k st=>vk N (yt f n) F st (k:Int)) n (fun k st=>st=(cntF f k:Int)) _ (fun F k st d hi=> .inr ?_) (fun F st hi=>?_) N 0 0 (Nat.zero_le _) (by omega) rfl
  ·subst hi
   refine⟨(cntF f (k+1):Int),rfl,?_⟩
   obtain⟨l,a⟩:=zlk f k
   have m:=z8t f k
   simp only [vk]
   rw [xw (by omega),zi (j5 (by omega)),ru d]
   refine(q8 (x:=Ex.go (cntF f (k+1):Int)) ?_).trans (by rw [zln,zi (qi (by omega))];rfl)
   refine(cf ?_).trans ?_
   ·rw [decide_eq_false (by omega),decide_eq_false (by omega)];rfl
   ·have b:cntF f (k+1)=cntF f k+if fu f k=true then 1 else 0:=rfl
    by_cases e:fu f k=true
    ·rw [xw (by rw [a.2 e]),zi (qi (by omega)),b,if_pos e];rfl
    ·rw [yj (fun h=>e (a.1 (by omega))),b,if_neg e];rfl
  ·subst hi
   simp only [vk]
   rw [yj (by omega)]
 unfold oo
 rw [yj (by omega),q8 c];rfl
theorem zng(c:5≤N):nu N ([0,0]:List Int)=some 0:=by
 have a:um N ([0,0]:List Int) N 0=some (Ex.go ()):=by
  refine x9 (σ:=Unit) (fun F k _=>um N ([0,0]:List Int) F (k:Int)) 2 (fun _ _=>True) _ (fun F k _ b _=> .inr ⟨(),trivial,?_⟩) (fun F _ _=>?_) N 0 () (Nat.zero_le _) (by omega) trivial
  ·simp only [um]
   rw [xw (by show (k:Int)<((2:Nat):Int);omega),zi (j5 (show k<2 by omega)),dx]
   have:([0,0]:List Int).getD k default=0:=by
    match k,b with
    |0,_=>rfl
    |1,_=>rfl
   rw [this,yj (fun h=>h rfl),zi (qi (by omega))];rfl
  ·simp only [um]
   rw [yj (by show¬((2:Nat):Int)<((2:Nat):Int);omega)]
 unfold nu
 rw [q8 a];rfl
variable {κ' : Type} [DecidableEq κ'] {g : Nat → κ'}
theorem zgr(i:300≤N)(j:n≤64):ig N (yt f n) (yt g n)=some (yt (fun s=>(f s,g s)) n,0):=by
 have b:=z6k f n
 have c:=z6k g n
 have m:z04 N (yt f n) (yt g n)=some 0:=by
  unfold z04
  rw [q8 (zbc i j),q8 (zbc i j),q8 (zng (by omega))]
  refine(q8 (x:=0) ?_).trans rfl
  refine(cf ?_).trans rfl
  rw [b,c];simp
 have o:yg N (yt f n) (yt g n) N 0 (mk ((yt f n).length:Int) (((0:Int),(0:Int)):(Int×Int)))=some ((List.range n).map fun s=>((name f s:Int),(name g s:Int))):=by
  rw [b]
  refine x9 (σ:=List (Int×Int)) (fun F k st=>yg N (yt f n) (yt g n) F (k:Int) st) n
   (fun k st=>st=(List.range k).map (fun s=>((name f s:Int),(name g s:Int)))++List.replicate (n-k) (0,0)) _ (fun F k st d hi=> .inr ?_) (fun F st hi=>?_) N 0 _ (Nat.zero_le _) (by omega) (by rw [z15];simp)
  ·subst hi
   have a:((List.range k).map (fun s=>((name f s:Int),(name g s:Int)))).length=k:=by simp
   refine⟨_,rfl,?_⟩
   simp only [yg]
   rw [xw (by rw [b,z15,List.length_replicate];omega),zi (j5 (by omega)),zi (j5 (by omega)),zi (j5 (by rw [List.length_append,a,List.length_replicate];omega)),zi (qi (by omega)),
    ru d,ru d,z3p,z0v a d,aa]
   rfl
  ·subst hi
   simp only [yg]
   rw [yj (by rw [b,z15,List.length_replicate];omega),Nat.sub_self,List.replicate_zero,List.append_nil]
 unfold ig
 rw [q8 m,yj (fun h=>h rfl),zi ⟨by omega,by omega,by omega⟩,q8 o,q8 (zi9 (by simp;omega) (by simp;omega))]
 have e:yt (fun s=>((List.range n).map fun s=>((name f s:Int),(name g s:Int))).getD s default) ((List.range n).map fun s=>((name f s:Int),(name g s:Int))).length=yt (fun s=>(f s,g s)) n:=by
  rw [List.length_map,List.length_range]
  refine z0e fun s t p q=>?_
  have l: ∀ u,u<n→((List.range n).map fun s=>((name f s:Int),(name g s:Int))).getD u default=((name f u:Int),(name g u:Int)):=fun u r=>by
   simp [List.getD_eq_getElem?_getD,r]
  rw [l s p,l t q,Prod.mk.injEq,Prod.mk.injEq,←ae (f:=f),←ae (f:=g)]
  constructor
  ·rintro⟨v,w⟩;exact⟨by omega,by omega⟩
  ·rintro⟨v,w⟩;exact⟨by omega,by omega⟩
 rw [e]
end
end GV
end Go.Proofs.YtkkcidhcfkmbjaaGreatDoor
