import Derived.Test.YtohjnbajgbdhhaaLaw04e
set_option linter.unusedVariables false
set_option linter.unusedSimpArgs false
namespace Go.Proofs.Ytohjnbajgbdhhaa
namespace GV
set_option maxRecDepth 1000000
theorem z18(n:Int):0≤IntKind.u8.wrap n∧IntKind.u8.wrap n≤255:=by
 have h:IntKind.u8.wrap n=n%256:=by simp [IntKind.wrap,IntKind.signed,IntKind.bits]
 rw [h];omega
theorem ziq(n:Int):0≤IntKind.u16.wrap n∧IntKind.u16.wrap n≤65535:=by
 have h:IntKind.u16.wrap n=n%65536:=by simp [IntKind.wrap,IntKind.signed,IntKind.bits]
 rw [h];omega
def RngL(b:Int)(l:List Int):Prop:= ∀ z∈l,0≤z∧z≤b
theorem RngL.get{b:Int}{l:List Int}(h:RngL b l)(k:Nat)(a:k<l.length):0≤l.getD k default∧l.getD k default≤b:=h _ (z0i a)
theorem RngL.snoc{b z:Int}{l:List Int}(h:RngL b l)(c:0≤z∧z≤b):RngL b (l++[z]):=fun y a=>by
 rcases List.mem_append.1 a with a|a
 ·exact h y a
 ·rw [List.mem_singleton] at a;subst a;exact c
theorem zlu{k:Int}(e:0≤k∧k≤100002): ∃ r,uh 2000 2000 k [] 0=some r∧(0≤r.1∧r.1≤100002)∧RngL 65535 r.2:=by
 refine z4r (σ:=Int×List Int) (fun F i s=>uh 2000 F s.1 s.2 (i:Int)) 18
  (fun i s=>(0≤s.1∧s.1≤100002)∧RngL 65535 s.2∧s.2.length=i) _ (fun F i s hi f=> .inr ?_) (fun F s f=>?_) 2000 0 (k,[]) (Nat.zero_le _) (by omega) ⟨e,fun z g=>by simp at g,rfl⟩
 ·obtain⟨a,l⟩:=s
  obtain⟨d,c,b⟩:=f
  dsimp only at d c b⊢
  have h:=Int.emod_nonneg (a*31+7*(i:Int)+11) (show (100003:Int)≠0 by decide)
  have j:=Int.emod_lt_of_pos (a*31+7*(i:Int)+11) (show (0:Int)<100003 by decide)
  refine⟨((a*31+7*(i:Int)+11)%100003,l++[IntKind.u16.wrap ((a*31+7*(i:Int)+11)%100003)]),⟨?_,?_,?_⟩,?_⟩
  rotate_right
  ·simp only [uh]
   rw [nk (by omega),zu (jc (by omega)),zu (jc (by omega)),zu (jc (by omega)),zu (jc (by omega)),zu ⟨by omega,by omega⟩,zu ⟨by simp only [List.length_singleton];omega,by simp only [List.length_singleton];omega⟩,zu (jc (by omega))]
   rfl
  ·exact⟨h,by omega⟩
  ·exact c.snoc (ziq _)
  ·simp only [List.length_append,List.length_singleton];omega
 ·obtain⟨a,l⟩:=s
  obtain⟨d,c,b⟩:=f
  dsimp only at d c b⊢
  simp only [uh]
  rw [dx (by omega)]
  exact⟨_,rfl,d,c⟩
theorem z6y{a b c:Int}{p:Bool}{l:List Int}(d:RngL 65535 l):MDOk ⟨IntKind.u8.wrap a,IntKind.u8.wrap b,IntKind.u8.wrap c,p,l⟩:=⟨z18 _,z18 _,z18 _,d.get⟩
theorem zht{a b c:Int}:WDOk ⟨[IntKind.u8.wrap a,IntKind.u8.wrap b,1,2,IntKind.u8.wrap c]⟩:=by
 have h:RngL 255 [IntKind.u8.wrap a,IntKind.u8.wrap b,1,2,IntKind.u8.wrap c]:=by
  intro z d
  simp only [List.mem_cons,List.not_mem_nil,or_false] at d
  rcases d with rfl|rfl|rfl|rfl|rfl
  ·exact z18 _
  ·exact z18 _
  ·decide
  ·decide
  ·exact z18 _
 exact⟨h.get⟩
theorem zjx{a:Int}:WDOk ⟨[0,1,IntKind.u8.wrap a]⟩:=by
 have h:RngL 255 [0,1,IntKind.u8.wrap a]:=by
  intro z b
  simp only [List.mem_cons,List.not_mem_nil,or_false] at b
  rcases b with rfl|rfl|rfl
  ·decide
  ·decide
  ·exact z18 _
 exact⟨h.get⟩
theorem zkb: ∃ r,u6 2000 2000 1 0=some r∧r= .go ():=by
 refine z4r (σ:=Int) (fun F n k=>u6 2000 F k (n:Int)) 60 (fun n k=>0≤k∧k≤100002) _ (fun F n k f c=> .inr ?_) (fun F k c=>?_) 2000 0 1 (Nat.zero_le _) (by omega) (by omega)
 ·obtain⟨⟨a,l⟩,e,d,b⟩:=zlu c
  dsimp only at d b
  refine⟨a,d,?_⟩
  simp only [u6]
  rw [nk (by omega),qf e]
  dsimp only
  rw [zu ⟨by omega,by omega,by omega⟩,zu ⟨by omega,by omega,by omega⟩,zu ⟨by omega,by omega⟩,zu ⟨by omega,by omega,by omega⟩]
  refine(qf (zif (z6y b))).trans ?_
  refine(qf (x:=some true) ((z5q rfl).trans (by rw [zmq (z6y b) zht (z18 _)];rfl))).trans ?_
  refine(qf (x:=some true) ((z5q rfl).trans (by rw [zj2 (y:=((⟨[IntKind.u8.wrap a,IntKind.u8.wrap (n:Int),1,2,IntKind.u8.wrap (a/7)]⟩:WDat),(⟨[0,1,IntKind.u8.wrap a]⟩:WDat))) (z6y b) zht zjx (z18 _)];rfl))).trans ?_
  refine(zu (fun _=>⟨by omega,by omega⟩)).trans ?_
  refine(zu (fun _=>jc (by omega))).trans ?_
  refine(zu (fun _=>⟨by omega,by omega⟩)).trans ?_
  refine(zu (fun _=>jc (by omega))).trans ?_
  refine(qf (x:=some ⟨(n:Int)%7-1,(n:Int)%4-1⟩) ((z5q rfl).trans rfl)).trans ?_
  refine(qf (x:=some true) ((z5q rfl).trans (by rw [zkf (z6y b) (z18 _) (z18 _)];rfl))).trans ?_
  refine(zu (fun _=>⟨by omega,by omega,by omega⟩)).trans ?_
  refine(zu (fun _=>⟨by omega,by omega,by omega⟩)).trans ?_
  refine(qf (x:=some (mOf ⟨IntKind.u8.wrap n,IntKind.u8.wrap ((n:Int)/3),IntKind.u8.wrap ((n:Int)/2),decide ((n:Int)%2=0),l⟩)) ((z5q rfl).trans (by rw [z95 (z6y b) (by decide)];rfl))).trans ?_
  refine(qf (x:=some true) ((z5q rfl).trans (by rw [zkm (z6y b) (z6y b)];rfl))).trans ?_
  refine(cf rfl).trans ?_
  exact zu (jc (by omega))
 ·simp only [u6]
  rw [dx (by omega)]
  exact⟨_,rfl,rfl⟩
def grK:Mach:=(xk 2000 64 16).getD default
theorem zo8:xk 2000 64 16=some grK:=by decide+kernel
def gwK:List Int:=(vw 2000 2000 [] 0).getD default
theorem zo7:vw 2000 2000 [] 0=some gwK:=by decide+kernel
theorem zmm:gwK.length=256:=by decide+kernel
theorem zj5:bf 2000 grK 60 gwK=some (60,0):=by decide+kernel
theorem zir:uj 2000 grK=some 0:=by decide+kernel
def zma:Mach:=(xk 2000 65 1).getD default
theorem zme:xk 2000 65 1=some zma:=by decide+kernel
theorem zgm:uj 2000 zma=some 3:=by decide+kernel
def zn0:Mach:=(xk 2000 1 17).getD default
theorem zm6:xk 2000 1 17=some zn0:=by decide+kernel
theorem zgs:uj 2000 zn0=some 3:=by decide+kernel
theorem zil:ic 2000=some true:=by
 unfold ic
 refine(qf zo8).trans ?_
 refine(qf zo7).trans ?_
 have c:=zmm
 have a:=zj5
 have b:=zir
 generalize grK=m at a b⊢
 generalize gwK=w at a c⊢
 refine(qf (show bf 2000 ⟨m.inputs,m.outputs,m.rows⟩ 60 w=some (60,0) from a)).trans ?_
 refine(qf (show uj 2000 ⟨m.inputs,m.outputs,m.rows⟩=some 0 from b)).trans ?_
 refine(qf (x:=some zma) ((z5q rfl).trans (by rw [zme];rfl))).trans ?_
 refine(qf (x:=some 3) ((z5q rfl).trans (by show (uj 2000 zma).map some=_;rw [zgm];rfl))).trans ?_
 refine(qf (x:=some zn0) ((z5q rfl).trans (by rw [zm6];rfl))).trans ?_
 refine(qf (x:=some 3) ((z5q rfl).trans (by show (uj 2000 zn0).map some=_;rw [zgs];rfl))).trans ?_
 refine(qf (x:=some true) ((z5q rfl).trans (by rw [zao];rfl))).trans ?_
 refine(zu (fun _=>⟨by simp only [List.length_singleton];omega,by simp only [List.length_singleton];omega⟩)).trans ?_
 refine(qf (x:=some true) ((z5q rfl).trans (by rw [zao];rfl))).trans ?_
 refine(qf (x:=some true) ((z5q rfl).trans (by rw [zao];rfl))).trans ?_
 refine(cf rfl).trans ?_
 obtain⟨r,d,rfl⟩:=zkb
 refine(qf d).trans ?_
 rw [zcn,qf z2a]
end GV
end Go.Proofs.Ytohjnbajgbdhhaa
