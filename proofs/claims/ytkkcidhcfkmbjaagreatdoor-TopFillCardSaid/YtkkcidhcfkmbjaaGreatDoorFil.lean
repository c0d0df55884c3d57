import Derived.Test.YtkkcidhcfkmbjaaGreatDoorTab
import Derived.Test.YtkkcidhcfkmbjaaGreatDoorJoint
set_option linter.unusedVariables false
set_option linter.unusedSimpArgs false
set_option linter.unusedSectionVars false
namespace Go.Proofs.YtkkcidhcfkmbjaaGreatDoor
namespace GV
set_option maxRecDepth 100000
section
variable {N : Nat} {m : Mach}
def eg(m:Mach)(s i:Nat):Edge:=(m.rows.getD s default).getD i default
def fE(m:Mach)(t:Nat→Int)(out:Int)(s i:Nat):Edge:=if(eg m s i).to= -1∧(eg m s i).out= -1 then⟨t s,out⟩ else eg m s i
def z2d(m:Mach)(t:Nat→Int)(out:Int):List (List Edge):=(List.range m.rows.length).map fun s=>(List.range m.inputs.toNat).map fun i=>fE m t out s i
theorem zmy{t:Nat→Int}{out:Int}:tab m.rows.length m.inputs.toNat (fE m t out) (m.rows.length*m.inputs.toNat)=z2d m t out:=by
 unfold tab z2d
 refine List.map_congr_left fun s a=>List.map_congr_left fun i hi=>?_
 have b:=List.mem_range.1 a;have c:=List.mem_range.1 hi
 rw [if_pos (zdi b c)]
theorem zi4{F:Int→Option Int}{t:Nat→Int}{out:Int}(d:MOk m)(r:200≤N)(l: ∀ s,s<m.rows.length→F (s:Int)=some (t s)):z0w N m F out=some ⟨m.inputs,m.outputs,z2d m t out⟩:=by
 have hi1:=d.i1;have hi2:=d.i2;have n:=d.r2
 have o: ∀ s i,s<m.rows.length→i<m.inputs.toNat→ll N (s:Int) (i:Int) ⟨(ix (ix m.rows (s:Int)) (i:Int)).to,(ix (ix m.rows (s:Int)) (i:Int)).out⟩ F out=some ((s:Int),(i:Int),fE m t out s i):=by
  intro s i c hi
  have f:(⟨(ix (ix m.rows (s:Int)) (i:Int)).to,(ix (ix m.rows (s:Int)) (i:Int)).out⟩:Edge)=eg m s i:=rfl
  rw [f]
  unfold ll fE
  rw [show z5f N=some ⟨-1,-1⟩ from rfl,z7r]
  by_cases e:(eg m s i).to= -1∧(eg m s i).out= -1
  ·rw [gz e,if_pos e,q9 (l s c),z7r]
  ·rw [xz e,if_neg e,z7r]
 have a: ∀ F k,k≤m.rows.length→m.rows.length-k<F→dx N m F (k:Int) (z4h m.rows.length m.inputs.toNat k)=some (z4h m.rows.length m.inputs.toNat m.rows.length):=by
  intro F
  induction F with
  |zero=>intro k a b;omega
  |succ F ih=>
   intro k a b
   have p:((mk (m.rows.length:Int) ([]:List Edge)).length:Int)=m.rows.length:=by rw [za0,List.length_replicate]
   simp only [dx,p]
   by_cases e:k=m.rows.length
   ·rw [xz (by omega),e]
   ·rw [gz (by omega),zm ⟨by omega,by omega,by omega⟩,zm (jc (by rw [z4a];omega)),zm (jm (by omega)),zct,z3t]
    rw [show mk m.inputs (⟨(0:Int),(0:Int)⟩:Edge)=List.replicate m.inputs.toNat ⟨0,0⟩ from rfl,zkx (by omega)]
    exact ih (k+1) (by omega) (by omega)
 have q: ∀ s,s<m.rows.length→ ∀ G i,i≤m.inputs.toNat→m.inputs.toNat-i<G→dz N m F out (s:Int) G (i:Int) (tab m.rows.length m.inputs.toNat (fE m t out) (s*m.inputs.toNat+i))=some (tab m.rows.length m.inputs.toNat (fE m t out) (s*m.inputs.toNat+m.inputs.toNat)):=by
  intro s c G
  induction G with
  |zero=>intro i a b;omega
  |succ G ih=>
   intro i a b
   have hrow:=d.row s c
   simp only [dz]
   rw [show ix m.rows (s:Int)=m.rows.getD s default from rfl]
   by_cases e:i=m.inputs.toNat
   ·rw [xz (by omega),e]
   ·rw [gz (by omega),zm (jc (by omega))]
    refine(q9 (o s i c (by omega))).trans ?_
    dsimp only
    rw [zm (jc (by rw [z8t];omega)),bi,zm (jc (by rw [z95 c,List.length_map,List.length_range];omega)),zm (jm (by omega)),zct,z3t,z3t]
    rw [zp5 c (show i<m.inputs.toNat by omega)]
    exact ih (i+1) (by omega) (by omega)
 have b: ∀ G s,s≤m.rows.length→m.rows.length-s<G→dw N m F out G (s:Int) (tab m.rows.length m.inputs.toNat (fE m t out) (s*m.inputs.toNat))=some (tab m.rows.length m.inputs.toNat (fE m t out) (m.rows.length*m.inputs.toNat)):=by
  intro G
  induction G with
  |zero=>intro s a b;omega
  |succ G ih=>
   intro s a b
   simp only [dw]
   by_cases e:s=m.rows.length
   ·rw [xz (by omega),e]
   ·rw [gz (by omega),zm (jc (by omega))]
    have h:=q s (by omega) N 0 (Nat.zero_le _) (by omega)
    rw [Nat.add_zero] at h
    refine(q9 h).trans ?_
    rw [zm (jm (by omega)),zct,show s*m.inputs.toNat+m.inputs.toNat=(s+1)*m.inputs.toNat by rw [Nat.add_mul,Nat.one_mul]]
    exact ih (s+1) (by omega) (by omega)
 unfold z0w
 have g:=a N 0 (Nat.zero_le _) (by omega)
 rw [zin] at g
 have j:=b N 0 (Nat.zero_le _) (by omega)
 rw [Nat.zero_mul,zmi] at j
 rw [zm ⟨by omega,by omega,by omega⟩]
 refine(q9 (x:=z4h m.rows.length m.inputs.toNat m.rows.length) g).trans ?_
 refine(q9 (x:=tab m.rows.length m.inputs.toNat (fE m t out) (m.rows.length*m.inputs.toNat)) j).trans ?_
 rw [zmy]
theorem zas{F:Int→Option Int}{t:Nat→Int}{out:Int}(a:MOk m)(b:200≤N)(c: ∀ s,s<m.rows.length→F (s:Int)=some (t s)):z03 N m out F=some ⟨m.inputs,m.outputs,z2d m t out⟩:=by
 unfold z03
 rw [q9 (zi4 a b c)]
theorem aa{t:Nat→Int}{out:Int}:(z2d m t out).length=m.rows.length:=by simp [z2d]
theorem z5y{t:Nat→Int}{out:Int}{s:Nat}(a:s<m.rows.length):(z2d m t out).getD s default=(List.range m.inputs.toNat).map fun i=>fE m t out s i:=by
 simp [z2d,List.getD_eq_getElem?_getD,a]
theorem z4c{t:Nat→Int}{out:Int}{s i:Nat}(a:s<m.rows.length)(hi:i<m.inputs.toNat):((z2d m t out).getD s default).getD i default=fE m t out s i:=by
 rw [z5y a];simp [List.getD_eq_getElem?_getD,hi]
theorem ztw(F:Nat)(e:Edge):vg (F+20) [e] 1=some (List.replicate 1 e):=by kernel_rfl
theorem zu7(F:Nat)(e:Edge):vg (F+20) [e] 2=some (List.replicate 2 e):=by kernel_rfl
theorem zuj(F:Nat)(e:Edge):vg (F+20) [e] 3=some (List.replicate 3 e):=by kernel_rfl
theorem zlw{e:Edge}{I:Int}(a:1≤I)(b:I≤3)(c:20≤N):vg N [e] I=some (List.replicate I.toNat e):=by
 obtain⟨F,rfl⟩: ∃ F,N=F+20:=⟨N-20,by omega⟩
 have:I=1∨I=2∨I=3:=by omega
 rcases this with rfl|rfl|rfl
 ·exact ztw F e
 ·exact zu7 F e
 ·exact zuj F e
structure FilOf (m f:Mach):Prop where
 ok:MOk f
 i:f.inputs=m.inputs
 r1:m.rows.length≤f.rows.length
 r2:f.rows.length≤m.rows.length+1
 old: ∀ s i,s<m.rows.length→i<m.inputs.toNat→ ¬((eg m s i).to= -1∧(eg m s i).out= -1)→eg f s i=eg m s i
 all: ∀ s i,s<f.rows.length→i<m.inputs.toNat→0≤(eg f s i).to
theorem ze5(a:MOk m){s i:Nat}(b:s<m.rows.length)(hi:i<m.inputs.toNat):(eg m s i).to= -1∧(eg m s i).out= -1∨(0≤(eg m s i).to∧(eg m s i).to<m.rows.length∧0≤(eg m s i).out∧(eg m s i).out<m.outputs):=by
 have hrow:=a.row s b
 have h:=a.edge s i b (by omega)
 exact h
theorem zc2(b:MOk m){t:Nat→Int}{out:Int}(d: ∀ s,s<m.rows.length→0≤t s∧t s<m.rows.length)(f:0≤out∧out<m.outputs):FilOf m ⟨m.inputs,m.outputs,z2d m t out⟩:=by
 have c: ∀ s i,s<m.rows.length→i<m.inputs.toNat→0≤(fE m t out s i).to∧(fE m t out s i).to<m.rows.length∧0≤(fE m t out s i).out∧(fE m t out s i).out<m.outputs:=fun s i a hi=>by
  unfold fE
  by_cases e:(eg m s i).to= -1∧(eg m s i).out= -1
  ·rw [if_pos e];exact⟨(d s a).1,(d s a).2,f.1,f.2⟩
  ·rw [if_neg e];exact(ze5 b a hi).resolve_left e
 have hi1:=b.i1
 refine⟨⟨b.i1,b.i2,b.o1,b.o2,by show 1≤(z2d m t out).length;rw [aa];exact b.r1,by show (z2d m t out).length≤64;rw [aa];exact b.r2,fun s a=>?_,fun s i a hi=>?_⟩,rfl,by show _≤(z2d m t out).length;rw [aa];exact Nat.le_refl _,by show (z2d m t out).length≤_;rw [aa];omega,fun s i a hi g=>?_,fun s i a hi=>?_⟩
 ·have hs':s<m.rows.length:=by rw [←aa (m:=m) (t:=t) (out:=out)];exact a
  show (((z2d m t out).getD s default).length:Int)=m.inputs
  rw [z5y hs',List.length_map,List.length_range];omega
 ·have hs':s<m.rows.length:=by rw [←aa (m:=m) (t:=t) (out:=out)];exact a
  have hi':i<m.inputs.toNat:=by
   have h:i<((z2d m t out).getD s default).length:=hi
   rw [z5y hs',List.length_map,List.length_range] at h;exact h
  show eOk _ (((z2d m t out).getD s default).getD i default)
  rw [z4c hs' hi']
  have h:=c s i hs' hi'
  refine .inr ⟨h.1,?_,h.2.2.1,h.2.2.2⟩
  show _<((z2d m t out).length:Int)
  rw [aa];exact h.2.1
 ·show ((z2d m t out).getD s default).getD i default=_
  rw [z4c a hi];unfold fE;rw [if_neg g]
 ·have hs':s<m.rows.length:=by rw [←aa (m:=m) (t:=t) (out:=out)];exact a
  show 0≤(((z2d m t out).getD s default).getD i default).to
  rw [z4c hs' hi];exact(c s i hs' hi).1
def z4q(m:Mach)(out:Int):List (List Edge):=z2d m (fun _=>(m.rows.length:Int)) out++[List.replicate m.inputs.toNat (⟨(m.rows.length:Int),out⟩:Edge)]
theorem zi2(j:MOk m)(n:m.rows.length<64){out:Int}(l:0≤out∧out<m.outputs):FilOf m ⟨m.inputs,m.outputs,z4q m out⟩:=by
 have hi1:=j.i1
 have g:(z4q m out).length=m.rows.length+1:=by unfold z4q;rw [List.length_append,aa];rfl
 have k: ∀ s i,s<m.rows.length→i<m.inputs.toNat→0≤(fE m (fun _=>(m.rows.length:Int)) out s i).to∧(fE m (fun _=>(m.rows.length:Int)) out s i).to<m.rows.length+1∧0≤(fE m (fun _=>(m.rows.length:Int)) out s i).out∧(fE m (fun _=>(m.rows.length:Int)) out s i).out<m.outputs:=fun s i c hi=>by
  unfold fE
  by_cases e:(eg m s i).to= -1∧(eg m s i).out= -1
  ·rw [if_pos e];exact⟨by show (0:Int)≤(m.rows.length:Int);omega,by show (m.rows.length:Int)<_;omega,l.1,l.2⟩
  ·rw [if_neg e];have:=(ze5 j c hi).resolve_left e;exact⟨this.1,by omega,this.2.2⟩
 have a: ∀ s,s<m.rows.length→(z4q m out).getD s default=(z2d m (fun _=>(m.rows.length:Int)) out).getD s default:=fun s c=>by
  unfold z4q
  rw [List.getD_eq_getElem?_getD,List.getElem?_append_left (by rw [aa];exact c),←List.getD_eq_getElem?_getD]
 have b:(z4q m out).getD m.rows.length default=List.replicate m.inputs.toNat ⟨(m.rows.length:Int),out⟩:=by
  unfold z4q
  rw [List.getD_eq_getElem?_getD,List.getElem?_append_right (by rw [aa];exact Nat.le_refl _),aa,Nat.sub_self];rfl
 have d: ∀ i,i<m.inputs.toNat→(List.replicate m.inputs.toNat (⟨(m.rows.length:Int),out⟩:Edge)).getD i default=⟨(m.rows.length:Int),out⟩:=fun i hi=>by simp [List.getD_eq_getElem?_getD,hi]
 refine⟨⟨j.i1,j.i2,j.o1,j.o2,by show 1≤(z4q m out).length;rw [g];omega,by show (z4q m out).length≤64;rw [g];omega,fun s c=>?_,fun s i c hi=>?_⟩,rfl,by show _≤(z4q m out).length;rw [g];omega,by show (z4q m out).length≤_;rw [g];omega,fun s i c hi o=>?_,fun s i c hi=>?_⟩
 ·have hs':s<m.rows.length+1:=by rw [←g];exact c
  show (((z4q m out).getD s default).length:Int)=m.inputs
  by_cases e:s=m.rows.length
  ·rw [e,b,List.length_replicate];omega
  ·rw [a s (by omega),z5y (by omega),List.length_map,List.length_range];omega
 ·have hs':s<m.rows.length+1:=by rw [←g];exact c
  show eOk _ (((z4q m out).getD s default).getD i default)
  have f:i<(List.getD (z4q m out) s default).length:=hi
  by_cases e:s=m.rows.length
  ·rw [e,b,List.length_replicate] at f
   rw [e,b,d i f]
   refine .inr ⟨by show (0:Int)≤(m.rows.length:Int);omega,?_,l.1,l.2⟩
   show (m.rows.length:Int)<((z4q m out).length:Int)
   rw [g];omega
  ·rw [a s (by omega),z5y (by omega),List.length_map,List.length_range] at f
   rw [a s (by omega),z4c (by omega) f]
   have h:=k s i (by omega) f
   refine .inr ⟨h.1,?_,h.2.2.1,h.2.2.2⟩
   show _<((z4q m out).length:Int)
   rw [g];omega
 ·show ((z4q m out).getD s default).getD i default=_
  rw [a s c,z4c c hi];unfold fE;rw [if_neg o]
 ·have hs':s<m.rows.length+1:=by rw [←g];exact c
  show 0≤(((z4q m out).getD s default).getD i default).to
  by_cases e:s=m.rows.length
  ·rw [e,b,d i hi];show (0:Int)≤(m.rows.length:Int);omega
  ·rw [a s (by omega),z4c (by omega) hi];exact(k s i (by omega) hi).1
def zjl(m:Mach):Prop:= ∀ s i,s<m.rows.length→i<m.inputs.toNat→ ¬((eg m s i).to= -1∧(eg m s i).out= -1)
theorem z7y(c:MOk m):z2w m=true↔zjl m:=by
 unfold z2w zjl
 rw [if_neg (fun h=>h ((lc m).2 c)),decide_eq_true_iff]
 have b:(zcy m).length=0↔ ∀ k,k<m.rows.length*m.inputs.toNat→ ¬((z2t m k).to= -1∧(z2t m k).out= -1):=by
  unfold zcy z5c
  rw [List.length_map,List.length_eq_zero_iff,List.filter_eq_nil_iff]
  exact⟨fun h k b a=>h k (List.mem_range.2 b) (decide_eq_true a),fun h k b a=>h k (List.mem_range.1 b) (of_decide_eq_true a)⟩
 have hi1:=c.i1
 constructor
 ·intro h s i e hi a
  have:=b.1 (by omega) (s*m.inputs.toNat+i) (zdi e hi)
  unfold z2t at this
  rw [zal hi,zam hi] at this
  exact this a
 ·intro h
  have:(zcy m).length=0:=b.2 fun k hk' a=>by
   have d:0<m.inputs.toNat:=by omega
   exact h (k/m.inputs.toNat) (k%m.inputs.toNat) ((Nat.div_lt_iff_lt_mul d).2 hk') (Nat.mod_lt _ d) a
  omega
theorem zoy(a:MOk m)(j:m.inputs≤3)(e:m.rows.length<64)(b:200≤N){way out:Int}(k:way=0∨way=1)(g:0≤out∧out<m.outputs): ∃ f,z1c N m way out=some (f,0)∧FilOf m f:=by
 have l:=a.r1;have hi1:=a.i1
 unfold z1c
 rw [q9 (show wh N m=some 0 by rw [z96 a.small b,(lc m).2 a]),xz (fun h=>h rfl)]
 rw [cf (show (((decide (1<way))||(decide (out<0)))||(decide (m.outputs≤out)))=false by rw [decide_eq_false (by omega),decide_eq_false (by omega),decide_eq_false (by omega)];rfl)]
 rcases k with rfl|rfl
 ·refine⟨_,?_,zc2 (t:=fun s=>(s:Int)) a (fun s d=>⟨by omega,by omega⟩) g⟩
  rw [gz rfl]
  unfold z3i
  rw [q9 (zas (F:=fun c=>z1h N c) (t:=fun s=>(s:Int)) a b fun s d=>rfl),z7r]
 ·have i:yl N m=some (z2w m,0):=by rw [zb5 a.small b,(lc m).2 a]
  by_cases hcm:z2w m=true
  ·refine⟨_,?_,zc2 (t:=fun _=>(m.rows.length:Int)-1) a (fun s d=>⟨by omega,by omega⟩) g⟩
   rw [xz (by decide),gz rfl]
   unfold z1u
   rw [q9 (x:=Ex.go ((m.rows.length:Int)-1)) (by rw [q9 i];refine(ct hcm).trans ?_;rw [zm (jm (by omega))]),z9u]
   rw [q9 (zas (F:=fun c=>z0f N c ((m.rows.length:Int)-1)) (t:=fun _=>(m.rows.length:Int)-1) a b fun s d=>rfl)]
   rw [xz (by omega),z7r]
   rw [q9 (show yf N (z2d m (fun _=>(m.rows.length:Int)-1) out)=some (z2d m (fun _=>(m.rows.length:Int)-1) out) by
    unfold yf;rw [zm (z92 _),z8m]),z7r]
  ·refine⟨_,?_,zi2 a e g⟩
   rw [xz (by decide),gz rfl]
   unfold z1u
   rw [q9 (x:=Ex.go (m.rows.length:Int)) (by rw [q9 i];refine(cf (by simpa using hcm)).trans ?_;rw [xz (by omega)]),z9u]
   rw [q9 (zas (F:=fun c=>z0f N c (m.rows.length:Int)) (t:=fun _=>(m.rows.length:Int)) a b fun s d=>rfl)]
   rw [gz rfl,q9 (zlw hi1 j (by omega)),zm (by refine⟨⟨by simp only [aa,List.length_singleton];omega,by simp only [aa,List.length_singleton];omega⟩,by simp⟩),z7r]
   refine(congrArg (fun z=>bd z _) (q9 (show yf N (z4q m out)=some (z4q m out) by
    unfold yf;rw [zm (z92 _),z8m]))).trans ?_
   rfl
end
end GV
end Go.Proofs.YtkkcidhcfkmbjaaGreatDoor
