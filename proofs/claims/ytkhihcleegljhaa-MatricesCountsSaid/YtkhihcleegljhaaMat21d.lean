import Derived.Test.YtkhihcleegljhaaMat21c
set_option linter.unusedVariables false
set_option linter.unusedSimpArgs false
namespace Go.Proofs.Ytkhihcleegljhaa
namespace GV
set_option maxRecDepth 100000
theorem zfn:l8 5000=some true:=by decide+kernel
def zfk(bits:Int)(c:Nat):Bool:=decide (af bits (c:Int)%2=1)
theorem zal{p:Nat→Bool}: ∀ {n i:Nat},i+1<(lh p n).length→(lh p n).getD i default<(lh p n).getD (i+1) default
 |0,i,h=>by simp [lh] at h
 |n+1,i,h=>by
  unfold lh at h⊢
  cases hb:p n
  ·rw [hb] at h
   simp only [cond_false] at h⊢
   exact zal h
  ·rw [hb] at h
   simp only [cond_true,List.length_append,List.length_singleton] at h⊢
   have b:(lh p n++[(n:Int)]).getD i default=(lh p n).getD i default:=by rw [z5a (by simp;omega),z5a (by omega),List.getElem_append_left]
   by_cases e:i+1<(lh p n).length
   ·have a:(lh p n++[(n:Int)]).getD (i+1) default=(lh p n).getD (i+1) default:=by rw [z5a (by simp;omega),z5a e,List.getElem_append_left]
    rw [b,a];exact zal e
   ·have a:(lh p n++[(n:Int)]).getD (i+1) default=(n:Int):=by
     rw [z5a (by simp;omega),List.getElem_append_right (by omega)];simp
    rw [b,a]
    obtain⟨j,d,c,_⟩:=z1f.1 (z1i (show i<(lh p n).length by omega))
    rw [c];omega
theorem zkp{p:Nat→Bool}{n:Nat}:chB n (lh p n)=true:=by
 unfold chB
 rw [ol.2 fun i hi=>?_];rfl
 unfold zk3
 obtain⟨j,c,a,_⟩:=z1f.1 (z1i hi)
 simp only [Bool.or_eq_false_iff,Bool.and_eq_false_iff,decide_eq_false_iff_not]
 rw [ig,a]
 refine⟨⟨by omega,by omega⟩,?_⟩
 by_cases e:i=0
 ·left;omega
 ·right
  have:=zal (p:=p) (n:=n) (i:=i-1) (by omega)
  rw [show i-1+1=i by omega,a] at this
  have b:ix (lh p n) ((i:Int)-1)=(lh p n).getD (i-1) default:=by rw [zjk];congr 1;omega
  rw [b];omega
theorem getD_take{α:Type}{X:List α}{m k:Nat}{d:α}(h:k<m):(X.take m).getD k d=X.getD k d:=by
 rw [List.getD_eq_getElem?_getD,List.getD_eq_getElem?_getD,List.getElem?_take,if_pos h]
theorem zd4{X:List (List Int)}{m:Nat}: ∀ n,n≤m→z6v (X.take m) n=z6v X n
 |0,_=>rfl
 |n+1,h=>by
  unfold z6v
  rw [zd4 n (by omega),getD_take (by omega)]
theorem zl0{X:List (List Int)}(h:VX X){m:Nat}(f:m≤X.length)(i:0<m):VX (X.take m)∧cols (X.take m)=cols X:=by
 have b:(X.take m).length=m:=by rw [List.length_take];omega
 have c: ∀ k,k<m→((X.take m).getD k default).length=cols X:=fun k a=>by rw [getD_take a,h.len k (by omega)]
 have d:cols (X.take m)=cols X:=by
  unfold cols
  rw [b]
  rw [zcj (m:=z8n X X.length) m fun k a=>c k a,if_neg (by omega)]
 have g:tot (X.take m)≤3000:=by
  unfold tot
  rw [b,zd4 m (Nat.le_refl _)]
  exact Nat.le_trans (zaf _ _ f) h.tot
 refine⟨⟨⟨by have:=h.rows;omega,g⟩,fun k a=>?_,fun k a j e=>?_⟩,d⟩
 ·rw [b] at a;rw [c k a,d]
 ·rw [b] at a
  rw [getD_take a] at e⊢
  exact h.cell k (by omega) j e
theorem zed{X:List (List Int)}{l:List Int}{m:Nat}(c:m≤X.length)(h:z2y X l=true):z2y (X.take m) l=true:=by
 unfold z2y at h⊢
 have h':=ol.1 (by cases b:(List.range X.length).any (fun k=>om X k&& !lu X l k) with|false=>rfl|true=>rw [b] at h;cases h)
 rw [ol.2 fun k a=>?_];rfl
 have a:k<m:=by rw [List.length_take] at a;omega
 have:=h' k (by omega)
 unfold om lu at this⊢
 rw [getD_take a];exact this
theorem zga{x:Sb}{bits rows:Int}(v:QOk x)(w:0≤bits∧bits≤255)(y:0≤rows∧rows≤255):pu 5000 x bits rows=some true:=by
 obtain⟨a,z,j⟩:=zkb v
 unfold pu
 rw [uz (zls v (by decide))]
 dsimp only
 generalize z6w x=X at a z j⊢
 have g:(z3x X).length=X.length:=zav
 have n:(z6y X (z0j X) (List.replicate (cols X) 0)).length=cols X:=by rw [zeo,List.length_replicate]
 have p: ∀ c,c<cols X→(z6y X (z0j X) (List.replicate (cols X) 0)).getD c default=(z6n X c X.length:Int):=fun c j=>by
  have:=zfl a j (o:=List.replicate (cols X) 0) (List.length_replicate ..) X.length (Nat.le_refl _)
  rw [z5a (X:=List.replicate (cols X) (0:Int)) (by rw [List.length_replicate];exact j),List.getElem_replicate] at this
  unfold z0j;omega
 rw [uz (zdu a (by decide)),uz (ze3 a (by decide))]
 dsimp only
 rw [uz (x:=some (cols X:Int)) ((zhk (by rw [g];simp)).trans (by rw [zez a.toBx (by decide)];rfl))]
 refine(cf (by simp [g,n])).trans ?_
 have q:jr 5000 ⟨X⟩ (z3x X,0) 5000 0=some (Ex.go ()):=by
  refine z3h (σ:=Unit) (fun F k _=>jr 5000 ⟨X⟩ (z3x X,0) F (k:Int)) X.length (fun _=>()) _ (fun F k f=>?_) (fun F=>?_) (by omega)
  ·simp only [jr]
   rw [z1z (by show (k:Int)<((z3x X).length:Int);omega),jg (cu (X:=z3x X) (by omega)),uz (z9j a (by decide) f)]
   refine(cf ?_).trans (by rw [jg (yz (by omega))];rfl)
   rw [decide_eq_false_iff_not]
   intro d
   exact d (by show (z3x X).getD k default=_;unfold z3x;rw [zhv f f])
  ·simp only [jr]
   rw [z2l (by show¬(X.length:Int)<((z3x X).length:Int);omega)]
 rw [uz q,zep]
 have r:jv 5000 bits ⟨X⟩ (z6y X (z0j X) (List.replicate (cols X) 0),0) 5000 [] 0=some (Ex.go (lh (zfk bits) (cols X))):=by
  refine z3h (fun F k s=>jv 5000 bits ⟨X⟩ (z6y X (z0j X) (List.replicate (cols X) 0),0) F s (k:Int)) (cols X) (fun k=>lh (zfk bits) k) _ (fun F k f=>?_) (fun F=>?_) (by omega)
  ·have h:=z4e (zfk bits) k
   simp only [jv]
   rw [z1z (by show (k:Int)<((z6y X (z0j X) (List.replicate (cols X) 0)).length:Int);omega),jg (cu (X:=z6y X (z0j X) (List.replicate (cols X) 0)) (by omega)),uz (zi6 a (by decide) f)]
   rw [cf (by rw [decide_eq_false_iff_not];intro d;exact d (p k f)),jg ⟨by omega,by show (k:Int)≤8;omega⟩,jg ⟨zbk w.1,by decide⟩]
   by_cases he:af bits (k:Int)%2=1
   ·rw [z1z he,jg ⟨by simp only [List.length_singleton];omega,by simp only [List.length_singleton];omega⟩,z7r,zep,jg (yz (by omega))]
    simp only [lh,zfk,decide_eq_true he,cond_true];rfl
   ·rw [z2l he,z7r,zep,jg (yz (by omega))]
    simp only [lh,zfk,decide_eq_false he,cond_false];rfl
  ·simp only [jv]
   rw [z2l (by show¬(cols X:Int)<((z6y X (z0j X) (List.replicate (cols X) 0)).length:Int);omega)]
 rw [uz r,zep]
 have b:chB (cols X) (lh (zfk bits) (cols X))=true:=zkp
 have h:=z4e (zfk bits) (cols X)
 generalize lh (zfk bits) (cols X)=l at b h⊢
 rw [uz (z9z a (by decide) (by omega)),b,cond_true]
 dsimp only
 refine(uz (x:=some (z2y X l)) ((zhk rfl).trans (by rw [zgn a (by decide) (by omega) (zhj b)];rfl))).trans ?_
 refine(cf (by simp)).trans ?_
 have t:0≤rows%((X.length:Int)+1):=Int.emod_nonneg _ (by omega)
 have u:rows%((X.length:Int)+1)<(X.length:Int)+1:=Int.emod_lt_of_pos _ (by omega)
 rw [jg (yz (by omega)),jg (yz (by omega)),jg ⟨y.1,by omega⟩,jg ⟨by omega,by omega,by omega⟩]
 obtain⟨m,A⟩: ∃ m:Nat,rows%((X.length:Int)+1)=(m:Int):=⟨(rows%((X.length:Int)+1)).toNat,by omega⟩
 rw [A] at t u⊢
 have hcut:cut X 0 (m:Int)=X.take m:=by simp [cut]
 rw [hcut]
 have i:(X.take m).length=m:=by rw [List.length_take];omega
 by_cases e:m=0
 ·rw [z1z (by rw [i];omega),uz zfn]
 ·obtain⟨hv',hc'⟩:=zl0 a (m:=m) (by omega) (by omega)
  rw [z2l (by rw [i];omega),uz (z9z hv' (by decide) (by omega)),hc',b,cond_true]
  dsimp only
  have hi:(!z2y X l||z2y (X.take m) l)=true:=by
   cases hcx:z2y X l with
   |false=>rfl
   |true=>rw [zed (by omega) hcx];rfl
  rw [uz (x:=some true) ((zhk (by rw [hi];rfl)).trans (by rw [zfn];rfl)),hi];rfl
end GV
end Go.Proofs.Ytkhihcleegljhaa
