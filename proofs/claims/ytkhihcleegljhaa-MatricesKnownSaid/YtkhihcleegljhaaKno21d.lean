
import Derived.Test.YtkhihcleegljhaaShPlain
import Derived.Test.YtkhihcleegljhaaShPl
set_option linter.unusedVariables false
set_option linter.unusedSimpArgs false
set_option linter.unusedSectionVars false
namespace Go.Proofs.Ytkhihcleegljhaa
namespace GV
set_option maxRecDepth 100000
theorem z7y{x:Int}(h: -4611686018427387904≤x∧x≤4611686018427387904):IntKind.i64.wrap x=x:=by
 simp [IntKind.wrap,IntKind.signed,IntKind.bits];omega
theorem z3h{σ ρ:Type}(L:Nat→Nat→σ→Option ρ)(n:Nat)(st:Nat→σ)(r:ρ)(step: ∀ F k,k<n→L (F+1) k (st k)=L F (k+1) (st (k+1)))(fin: ∀ F,L (F+1) n (st n)=some r){F:Nat}(c:n<F):L F 0 (st 0)=some r:=
 zj0 L n (fun k s=>s=st k) r (fun F k s b a=> .inr ⟨st (k+1),rfl,by rw [a];exact step F k b⟩) (fun F s a=>by rw [a];exact fin F) F 0 (st 0) (Nat.zero_le _) (by omega) rfl
/-! ### Rows that are all the same-/
theorem z0a{α:Type}[Inhabited α]{n k:Nat}{r:α}(a:k<n):(List.replicate n r).getD k default=r:=by
 rw [List.getD_eq_getElem?_getD,List.getElem?_replicate,if_pos a];rfl
theorem zjn{n:Nat}{r:List Int}(c:n≤4999)(d:r.length≤100000):uy 5000 ⟨List.replicate n r⟩=some (if n=0 then 0 else(r.length:Int)):=by
 have b:uo 5000 ⟨List.replicate n r⟩ 5000 0 0=some (if n=0 then 0 else(r.length:Int)):=by
  refine z3h (fun F k s=>uo 5000 ⟨List.replicate n r⟩ F s (k:Int)) n (fun k=>if k=0 then 0 else(r.length:Int)) _ (fun F k a=>?_) (fun F=>?_) (by omega)
  ·simp only [uo]
   rw [z8d (by rw [List.length_replicate];omega),yz (z0x (by rw [List.length_replicate];exact a)),yz (z0w (by omega)),z14,z0a a]
   rw [show max (if k=0 then(0:Int) else(r.length:Int)) (r.length:Int)=if k+1=0 then 0 else(r.length:Int) from by
    rw [if_neg (Nat.succ_ne_zero k)]
    split<;>omega]
   rfl
  ·simp only [uo]
   rw [z1i (by rw [List.length_replicate];omega)]
 unfold uy
 rw [wh b]
theorem zli{n:Nat}{r:List Int}(d:n≤4999)(b:r.length≤100000):pg 5000 ⟨List.replicate n r⟩ 5000 0 0=some ((r.length*n:Nat):Int):=by
 refine z3h (fun F k s=>pg 5000 ⟨List.replicate n r⟩ F s (k:Int)) n (fun k=>((r.length*k:Nat):Int)) _ (fun F k a=>?_) (fun F=>?_) (by omega)
 ·have e:r.length*k≤100000*4999:=Nat.mul_le_mul b (by omega)
  have c:r.length*(k+1)=r.length*k+r.length:=Nat.mul_succ _ _
  simp only [pg]
  rw [z8d (by rw [List.length_replicate];omega),yz (z0x (by rw [List.length_replicate];exact a)),z14,z0a a,z7y (by omega),z7y (by omega),c]
  rfl
 ·simp only [pg]
  rw [z1i (by rw [List.length_replicate];omega)]
theorem zmo{n k:Nat}{r:List Int}(a:k<n)(d:r.length≤4999)(c: ∀ j,j<r.length→ -1≤r.getD j default∧r.getD j default≤255):dh 5000 ⟨List.replicate n r⟩ (k:Int) 5000 0=some (Ex.go ()):=by
 refine z3h (fun F j (_:Unit)=>dh 5000 ⟨List.replicate n r⟩ (k:Int) F (j:Int)) r.length (fun _=>()) _ (fun F j b=>?_) (fun F=>?_) (by omega)
 ·have h:=c j b
  simp only [dh]
  rw [z8d (by rw [z14,z0a a];omega),yz (z0x (by rw [z14,z0a a];exact b)),z14,z14,z0a a,z1i (by omega),z1i (by omega),z7y (by omega)]
  rfl
 ·simp only [dh]
  rw [z1i (by rw [z14,z0a a];omega)]
theorem z9r{n:Nat}{r:List Int}(f:0<n)(b:n≤4999)(c:r.length≤4999)(d: ∀ j,j<r.length→ -1≤r.getD j default∧r.getD j default≤255):ku 5000 ⟨List.replicate n r⟩=some (if(4096<n∨4096<r.length)∨262144<r.length*n then 3 else 0):=by
 unfold ku
 rw [wh (zjn b (by omega)),wh (zli b (by omega)),if_neg (by omega)]
 dsimp only
 rw [List.length_replicate]
 by_cases h:(4096<n∨4096<r.length)∨262144<r.length*n
 ·rw [if_pos h,ct (by
   rw [Bool.or_eq_true,Bool.or_eq_true,decide_eq_true_iff,decide_eq_true_iff,decide_eq_true_iff];omega)]
 ·rw [if_neg h,cf (by
   rw [Bool.or_eq_false_iff,Bool.or_eq_false_iff,decide_eq_false_iff_not,decide_eq_false_iff_not,decide_eq_false_iff_not];omega)]
  have e:di 5000 ⟨List.replicate n r⟩ (r.length:Int) 5000 0=some (Ex.go ()):=by
   refine z3h (fun F j (_:Unit)=>di 5000 ⟨List.replicate n r⟩ (r.length:Int) F (j:Int)) n (fun _=>()) _ (fun F k a=>?_) (fun F=>?_) (by omega)
   ·simp only [di]
    rw [z8d (by rw [List.length_replicate];omega),yz (z0x (by rw [List.length_replicate];exact a)),z1i (by rw [z14,z0a a];exact fun h=>h rfl),wh (zmo a c d),zi2,z7y (by omega)]
    rfl
   ·simp only [di]
    rw [z1i (by rw [List.length_replicate];omega)]
  rw [wh e,zi2]
/-! ### No row is killed-/
theorem zkn{n k w:Nat}(a:k<n)(e:w≤4999):ui 5000 ⟨List.replicate n (List.replicate w (-1))⟩ (k:Int)=some false:=by
 have d:uk 5000 ⟨List.replicate n (List.replicate w (-1))⟩ (k:Int) 5000 [] 0=some []:=by
  refine z3h (fun F j s=>uk 5000 ⟨List.replicate n (List.replicate w (-1))⟩ (k:Int) F s (j:Int)) w (fun _=>[]) _ (fun F j c=>?_) (fun F=>?_) (by omega)
  ·simp only [uk]
   have b:p8 5000 ⟨List.replicate n (List.replicate w (-1))⟩ (k:Int) (j:Int)=some false:=by
    unfold p8
    rw [yz (z0x (by rw [List.length_replicate];exact a)),yz (z0x (by rw [z14,z0a a,List.length_replicate];exact c)),z14,z14,z0a a,z0a c];rfl
   rw [z8d (by rw [z14,z0a a,List.length_replicate];omega)]
   refine Eq.trans (wh (x:=[]) ?_) ?_
   ·rw [wh b];rfl
   ·rw [yz (z0w (by omega))];rfl
  ·simp only [uk]
   rw [z1i (by rw [z14,z0a a,List.length_replicate];omega)]
 unfold ui vk
 rw [yz (z0x (by rw [List.length_replicate];exact a)),wh d];rfl
theorem zl2{n w:Nat}(e:n≤4999)(b:w≤4999):ib 5000 ⟨List.replicate n (List.replicate w (-1))⟩ (fun a=>ui 5000 ⟨List.replicate n (List.replicate w (-1))⟩ a)=some []:=by
 have c:uz 5000 ⟨List.replicate n (List.replicate w (-1))⟩ (fun a=>ui 5000 ⟨List.replicate n (List.replicate w (-1))⟩ a) 5000 [] 0=some []:=by
  refine z3h (fun F j s=>uz 5000 ⟨List.replicate n (List.replicate w (-1))⟩ (fun a=>ui 5000 ⟨List.replicate n (List.replicate w (-1))⟩ a) F s (j:Int)) n (fun _=>[]) _ (fun F j d=>?_) (fun F=>?_) (by omega)
  ·simp only [uz]
   rw [z8d (by rw [List.length_replicate];omega)]
   refine Eq.trans (wh (x:=[]) ?_) ?_
   ·rw [wh (zkn d b)];rfl
   ·rw [yz (z0w (by omega))];rfl
  ·simp only [uz]
   rw [z1i (by rw [List.length_replicate];omega)]
 unfold ib
 rw [wh c]
theorem zgx:z3l 5000 (List.replicate 256 0)=some (0,false):=by decide+kernel
theorem zj7{n:Nat}(f:0<n)(k:n≤1024):uu 5000 ⟨List.replicate n (List.replicate 256 (-1))⟩=some ([],0):=by
 have a:(List.replicate 256 (-1:Int)).length=256:=List.length_replicate ..
 have d:=z9r (n:=n) (r:=List.replicate 256 (-1)) f (by omega) (by rw [a];omega) (fun j e=>by rw [a] at e;rw [z0a e];omega)
 rw [a,if_neg (by omega)] at d
 have b:o5 5000 ⟨List.replicate n (List.replicate 256 (-1))⟩ []=some (List.replicate 256 0):=by
  unfold o5
  rw [wh (zjn (by omega) (by rw [a];omega)),if_neg (by omega),a,yz ⟨by decide,by decide,by decide⟩]
  rfl
 have g: ∀ F,aa 5000 ⟨List.replicate n (List.replicate 256 (-1))⟩ (F+1) [] []=some []:=fun F=>by
  simp only [aa]
  rw [wh b,wh zgx];rfl
 have i:slices_Sort_int 5000 []=some []:=by decide+kernel
 have c:z19 5000 []=some []:=by decide+kernel
 unfold uu
 rw [wh d,z1i (fun h=>h rfl),wh (zl2 (by omega) (by omega)),wh (g 4999),wh i,wh c]
end GV
end Go.Proofs.Ytkhihcleegljhaa

namespace Go.Proofs.Ytkhihcleegljhaa
namespace GV
set_option maxRecDepth 1000000
def mK:Mach:=⟨16,1,[List.replicate 16 ⟨0,0⟩]⟩
def LK:List (List Int):=(List.range 256).map fun k=>[((k/16:Nat):Int),((k%16:Nat):Int)]
theorem zj2:lh 5000 16 2=some LK:=by decide+kernel
theorem zgn:z0i 5000 mK=some 0:=by decide+kernel
theorem zka: ∀ k,k<256→z3j 5000 mK mK (LK.getD k default)=some (-1):=by decide+kernel
theorem zil:z5g 5000 LK 16=some 0:=by decide+kernel
theorem ze5:LK.length=256:=by decide+kernel
theorem zd2{α:Type}{n k:Nat}{a b:α}(c:k<n):(List.replicate k a++List.replicate (n-k) b).set k a=List.replicate (k+1) a++List.replicate (n-(k+1)) b:=by
 apply List.ext_getElem
 ·simp;omega
 ·intro i d f
  simp only [List.getElem_set,List.getElem_append,List.length_replicate,List.getElem_replicate]
  by_cases e:k=i
  ·subst e;simp
  ·rw [if_neg e]
   by_cases h:i<k
   ·rw [dif_pos h,dif_pos (by omega)]
   ·rw [dif_neg h,dif_neg (by omega)]
theorem zd6{α:Type}{n:Nat}{a b:α}:List.replicate n a++List.replicate (n-n) b=List.replicate n a:=by simp
theorem zkm{n:Nat}(c:n≤4999)(z:Mach):kg 5000 5000 0 mK.rows (List.replicate n z)=some (mK.rows,List.replicate n mK):=by
 have h:=z3h (fun F k s=>kg 5000 F (k:Int) mK.rows s) n (fun k=>List.replicate k mK++List.replicate (n-k) z) (some (mK.rows,List.replicate n mK)).get! (F:=5000) (fun F k a=>?_) (fun F=>?_) (by omega)
 ·exact h
 ·have b:(List.replicate k mK++List.replicate (n-k) z).length=n:=by simp;omega
  simp only [kg]
  rw [z8d (by rw [b];omega),yz (z0x (by rw [b];exact a)),yz (z0w (by omega)),zcl,show (⟨16,1,mK.rows⟩:Mach)=mK from rfl,zd2 a];rfl
 ·simp only [kg]
  rw [zd6,z1i (by rw [List.length_replicate];omega)];rfl
theorem zk7{n:Nat}(b:n≤4999):cz 5000 mK (List.replicate n mK) 5000 0=some (Ex.go ()):=by
 refine z3h (fun F k (_:Unit)=>cz 5000 mK (List.replicate n mK) F (k:Int)) n (fun _=>()) _ (fun F k a=>?_) (fun F=>?_) (by omega)
 ·simp only [cz]
  rw [z8d (by rw [List.length_replicate];omega),yz (z0x (by rw [List.length_replicate];exact a)),z14,z0a a,show (⟨mK.inputs,mK.outputs,mK.rows⟩:Mach)=mK from rfl,wh zgn,z1i (fun h=>h rfl),z1i (fun h=>h rfl),yz (z0w (by omega))];rfl
 ·simp only [cz]
  rw [z1i (by rw [List.length_replicate];omega)]
theorem zk2{Y:List (List Int)}{i:Nat}{A B:List Int}(hi:i<Y.length):(Y.set i A).set i B=Y.set i B:=List.set_set ..
theorem zk8{n i:Nat}{Y:List (List Int)}(e:n≤4999)(hi:i<n)(f:Y.length=n):cu 5000 mK (List.replicate n mK) LK (i:Int) 5000 0 (Y.set i (List.replicate 256 0))=some (Y.set i (List.replicate 256 (-1))):=by
 have b:=ze5
 have h:=z3h (fun F k s=>cu 5000 mK (List.replicate n mK) LK (i:Int) F (k:Int) s) 256 (fun k=>Y.set i (List.replicate k (-1)++List.replicate (256-k) 0)) (Y.set i (List.replicate 256 (-1))) (F:=5000) (fun F k a=>?_) (fun F=>?_) (by omega)
 ·exact h
 ·have c: ∀ A:List Int,(Y.set i A).getD i default=A:=fun A=>by
   rw [List.getD_eq_getElem?_getD,List.getElem?_set_self (by omega)];rfl
  have d:(List.replicate k (-1:Int)++List.replicate (256-k) 0).length=256:=by simp;omega
  simp only [cu]
  rw [z8d (by rw [b];omega),yz (z0x (by rw [b];exact a)),yz (z0x (by rw [List.length_set];omega)),z14,z14,z14,z0a hi,c,show (⟨mK.inputs,mK.outputs,mK.rows⟩:Mach)=mK from rfl,wh (zka k a),yz (z0x (by rw [d];exact a)),yz (z0w (by omega)),zcl,zcl,zk2 (by omega),zd2 a];rfl
 ·simp only [cu]
  rw [zd6,z1i (by rw [b];omega)]
theorem zk5{n:Nat}(c:n≤4999):ng 5000 mK (List.replicate n mK) LK 5000 0 (List.replicate n [])=some (List.replicate n (List.replicate 256 (-1))):=by
 have h:=z3h (fun F k s=>ng 5000 mK (List.replicate n mK) LK F (k:Int) s) n (fun k=>List.replicate k (List.replicate 256 (-1))++List.replicate (n-k) []) (List.replicate n (List.replicate 256 (-1))) (F:=5000) (fun F k a=>?_) (fun F=>?_) (by omega)
 ·exact h
 ·have b:(List.replicate k (List.replicate 256 (-1:Int))++List.replicate (n-k) []).length=n:=by simp;omega
  simp only [ng]
  rw [z8d (by rw [List.length_replicate];omega)]
  refine Eq.trans (wh (x:=List.replicate (k+1) (List.replicate 256 (-1))++List.replicate (n-(k+1)) []) ?_) ?_
  ·rw [yz (z0x (by rw [List.length_replicate];exact a)),ze5,yz ⟨by decide,by decide,by decide⟩,yz (z0x (by rw [b];exact a)),zcl,zhi,zk8 c a b,zd2 a]
  ·rw [yz (z0w (by omega))];rfl
 ·simp only [ng]
  rw [zd6,z1i (by rw [List.length_replicate];omega)]
theorem zhp{n:Nat}(b:n≤4096):bv 5000 mK (List.replicate n mK) LK=some (if 262144<n*256 then(⟨[]⟩,3) else(⟨List.replicate n (List.replicate 256 (-1))⟩,0)):=by
 have a:(n:Int)*((256:Nat):Int)=((n*256:Nat):Int):=(Int.natCast_mul _ _).symm
 unfold bv
 rw [wh zgn,z1i (fun h=>h rfl),z1i (by rw [List.length_replicate];omega),wh (zk7 (by omega)),zi2,show mK.inputs=16 from rfl,wh zil,z1i (fun h=>h rfl),ze5,List.length_replicate,a,yz (z0w (by omega))]
 by_cases h:262144<n*256
 ·rw [z8d (by omega),if_pos h]
 ·rw [z1i (by omega),if_neg h,yz ⟨by omega,by omega,by omega⟩,zhi,wh (zk5 (by omega))]
theorem zg0{z:Mach}:bv 5000 mK (List.replicate 4097 z) []=some (⟨[]⟩,3):=by
 unfold bv
 rw [wh zgn,z1i (fun h=>h rfl),z8d (by rw [List.length_replicate];decide)]
end GV
end Go.Proofs.Ytkhihcleegljhaa

namespace Go.Proofs.Ytkhihcleegljhaa
namespace GV
set_option maxRecDepth 1000000
def zci:List (List Int):=(List.range 17).map fun i=>(List.range 17).map fun k=>if k=i then 255 else-1
def lessM:List (List Int):=(List.range 17).map fun i=>(List.range 16).map fun k=>if k=i then 255 else-1
def zbj:List (List Int):=[[0,1,-1],[0,1,-1],[0,-1,2],[0,-1,2],[-1,1,-1],[-1,-1,2]]
theorem ziy:w9 5000 5000 0 []=some zci:=by decide+kernel
theorem zjb:wm 5000 zci 5000 0 []=some lessM:=by decide+kernel
theorem zfu:xw 5000 ⟨zbj⟩=some ([1,2],0):=by decide+kernel
theorem zi3:uu 5000 ⟨zbj⟩=some ([0,1,2],0):=by decide+kernel
theorem zhn:xw 5000 ⟨zci⟩=some ([],3):=by decide+kernel
theorem zin:(uu 5000 ⟨zci⟩).map (fun y=>(y.1.length,y.2))=some (17,0):=by decide+kernel
theorem zij:ll 5000=some true:=by decide+kernel
theorem zie:u6 5000 [1,2] [1,2]=some true:=by decide+kernel
theorem zgo:u6 5000 [0,1,2] [0,1,2]=some true:=by decide+kernel
theorem zii:ku 5000 ⟨[mk 4097 (0:Int),[]]⟩=some 3:=by decide+kernel
/-! ### The least cover-/
def ms16:List Int:=(List.range 16).map fun i=>((2^i:Nat):Int)
theorem zia:ku 5000 ⟨lessM⟩=some 0:=by decide+kernel
theorem zgb:uy 5000 ⟨lessM⟩=some 16:=by decide+kernel
theorem zeg:z09 5000 ⟨lessM⟩=some ms16:=by decide+kernel
def l16:List Int:=(List.range 16).map fun(i:Nat)=>((i:Nat):Int)
theorem zj4:l6 5000 16 (65535,true) 5000 [] 0=some l16:=by decide+kernel
theorem zgg:z10 5000 l16=some l16:=by decide+kernel
theorem zk6:ms16.length=16:=by decide+kernel
theorem zjr: ∀ i,i<16→ms16.getD i default=((2^i:Nat):Int):=by decide+kernel
theorem zhu: ∀ c:Nat,c<17→ah .u64 1 (c:Int)=((2^c:Nat):Int):=by decide+kernel
theorem zhr: ∀ i:Nat,i<17→2^i≤65536:=by decide+kernel
theorem zge{s:Nat}(a:s<65536)(h: ∀ i,i<16→s.testBit i=true):s=65535:=by
 apply Nat.eq_of_testBit_eq
 intro i
 by_cases hi:i<16
 ·rw [h i hi,show (65535:Nat)=2^16-1 from rfl,Nat.testBit_two_pow_sub_one,decide_eq_true hi]
 ·rw [Nat.testBit_lt_two_pow (Nat.lt_of_lt_of_le a (Nat.pow_le_pow_right (n:=2) (i:=16) (by decide) (by omega))),show (65535:Nat)=2^16-1 from rfl,Nat.testBit_two_pow_sub_one,decide_eq_false hi]
theorem zdl{s i:Nat}:z6l ((2^i:Nat):Int) (s:Int)=0↔s.testBit i=false:=by
 unfold z6l
 rw [Int.toNat_natCast,Int.toNat_natCast]
 have e:2^i&&&s=if s.testBit i=true then 2^i else 0:=by
  apply Nat.eq_of_testBit_eq
  intro j
  rw [Nat.testBit_and,Nat.testBit_two_pow]
  by_cases h:i=j
  ·subst h
   cases hb:s.testBit i
   ·rw [if_neg (by simp)];simp
   ·rw [if_pos rfl,Nat.testBit_two_pow];simp
  ·rw [decide_eq_false h,Bool.false_and]
   split
   ·rw [Nat.testBit_two_pow,decide_eq_false h]
   ·rw [Nat.zero_testBit]
 rw [e]
 cases s.testBit i
 ·simp
 ·rw [if_pos rfl]
  have:=Nat.two_pow_pos i
  constructor
  ·intro h;omega
  ·intro h;cases h
theorem zkb{s:Nat}(d:s<65536):o8 5000 ms16 (fun a=>dz 5000 a (s:Int))=some (decide (s≠65535)):=by
 have c:=zk6
 obtain⟨r,f,h⟩: ∃ r,ww 5000 ms16 (fun a=>dz 5000 a (s:Int)) 5000 0=some r∧((∃ i:Nat,r=Ex.rt (i:Int)∧s≠65535)∨(r=Ex.go ()∧s=65535)):=by
  refine z9o (σ:=Unit) (fun F i _=>ww 5000 ms16 (fun a=>dz 5000 a (s:Int)) F (i:Int)) 16 (fun i _=> ∀ j,j<i→s.testBit j=true) _ (fun F i u hi b=>?_) (fun F u b=>?_) 5000 0 () (Nat.zero_le _) (by omega) (fun j b=>absurd b (by omega))
  ·have k:=zhr i (by omega)
   simp only [ww]
   have g:dz 5000 ((2^i:Nat):Int) (s:Int)=some (decide (z6l ((2^i:Nat):Int) (s:Int)=0)):=by
    unfold dz
    rw [yz ⟨⟨Int.natCast_nonneg _,by show ((2^i:Nat):Int)≤18446744073709551615;omega⟩,by omega,by show (s:Int)≤18446744073709551615;omega⟩]
   rw [z8d (by rw [c];omega),yz (z0x (by rw [c];exact hi)),z14,zjr i hi,wh g]
   cases hb:s.testBit i
   ·left
    refine⟨_,by rw [decide_eq_true (zdl.2 hb),cond_true],.inl ⟨i,rfl,fun e=>?_⟩⟩
    rw [e,show (65535:Nat)=2^16-1 from rfl,Nat.testBit_two_pow_sub_one,decide_eq_true hi] at hb
    cases hb
   ·right
    refine⟨(),fun j hj'=>?_,?_⟩
    ·by_cases e:j=i
     ·subst e;exact hb
     ·exact b j (by omega)
    ·rw [decide_eq_false (fun h=>by have:=zdl.1 h;rw [hb] at this;cases this),cond_false,yz (z0w (by omega))];rfl
  ·simp only [ww]
   rw [z1i (by rw [c];omega)]
   exact⟨_,rfl,.inr ⟨rfl,zge d b⟩⟩
 unfold o8 z0b
 rw [wh f]
 rcases h with⟨i,rfl,h⟩|⟨rfl,h⟩
 ·rw [zjt,zkv,decide_eq_true h,decide_eq_true (by omega)]
 ·rw [zi2,zkv,h];rfl
theorem zdm: ∀ (G s f left:Nat),s<2^f→f≤16→left≤17→left<G→ ∃ y,xq 5000 G (s:Int) (f:Int) (left:Int) ms16 16=some y∧(s+1=2^f∧left+f=16→y=(65535,true))∧(¬(s+1=2^f∧left+f=16)→y.2=false)
 |0,s,f,left,_,_,_,h=>by omega
 |G+1,s,f,left,A,B,l,C=>by
  have D:=zhr f (by omega)
  simp only [xq]
  cases left with
  |zero=>
   rw [z8d (by omega),wh (zkb (by omega))]
   refine⟨_,rfl,fun⟨a,m⟩=>?_,fun h=>?_⟩
   ·obtain rfl:f=16:=by omega
    obtain rfl:s=65535:=by omega
    rfl
   ·by_cases e:s=65535
    ·refine absurd ⟨?_,?_⟩ h
     ·have:f=16:=by
       rcases Nat.lt_or_ge f 16 with b|b
       ·have:2^f≤2^15:=Nat.pow_le_pow_right (by decide) (by omega)
        omega
       ·omega
      subst this;omega
     ·rcases Nat.lt_or_ge f 16 with b|b
      ·have:2^f≤2^15:=Nat.pow_le_pow_right (by decide) (by omega)
       omega
      ·omega
    ·show (!decide (s≠65535))=false
     rw [decide_eq_true e];rfl
  |succ left=>
   rw [z1i (by omega)]
   have n: ∀ (F c:Nat),f≤c→c≤17→17-c<F→ ∃ q,mi 5000 (xq 5000 G) (s:Int) ((left+1:Nat):Int) ms16 16 F (c:Int)=some q∧((s+1=2^f∧left+1+f=16)∧c=f→q=Ex.rt (65535,true))∧(¬((s+1=2^f∧left+1+f=16)∧c=f)→q=Ex.go ()):=by
    intro F
    induction F with
    |zero=>intro c _ _ h;omega
    |succ F ih=>
     intro c o E H
     simp only [mi]
     rw [yz (z0w (by omega))]
     by_cases hc:c+left+1≤16
     ·have p:=zhr c (by omega)
      have hmono:2^f≤2^c:=Nat.pow_le_pow_right (by decide) o
      have d:s<2^c:=by omega
      have r:2^(c+1)=2^c+2^c:=by rw [Nat.pow_succ];omega
      have g:ior (s:Int) (ah .u64 1 (c:Int))=((s+2^c:Nat):Int):=by
       have a:=Nat.two_pow_add_eq_or_of_lt d 1
       rw [Nat.mul_one] at a
       rw [zhu c (by omega)]
       unfold ior
       rw [Int.toNat_natCast,Int.toNat_natCast,Nat.or_comm,←a,Nat.add_comm]
      obtain⟨y,t,u,v⟩:=zdm G (s+2^c) (c+1) left (by omega) (by omega) (by omega) (by omega)
      rw [z8d (by omega),yz ⟨by omega,by show (c:Int)≤64;omega⟩,yz ⟨⟨by omega,by show (s:Int)≤18446744073709551615;omega⟩,by rw [zhu c (by omega)];omega,by rw [zhu c (by omega)];show ((2^c:Nat):Int)≤18446744073709551615;omega⟩,yz (z0w (by omega)),yz (z0w (by omega)),g,show (((left+1:Nat):Int)-1)=(left:Int) by omega,wh (show xq 5000 G ((s+2^c:Nat):Int) ((c:Int)+1) (left:Int) ms16 16=_ from t)]
      by_cases hP:(s+1=2^f∧left+1+f=16)∧c=f
      ·obtain⟨⟨w,x⟩,rfl⟩:=hP
       rw [u ⟨by omega,by omega⟩,cond_true]
       exact⟨_,rfl,fun _=>rfl,fun h=>absurd ⟨⟨w,x⟩,rfl⟩ h⟩
      ·have z: ¬(s+2^c+1=2^(c+1)∧left+(c+1)=16):=by
        rintro⟨a,m⟩
        by_cases e:c=f
        ·subst e;exact hP ⟨⟨by omega,by omega⟩,rfl⟩
        ·have:2^(f+1)≤2^c:=Nat.pow_le_pow_right (by decide) (by omega)
         rw [Nat.pow_succ] at this
         have:=Nat.two_pow_pos f
         omega
       rw [v z,cond_false,yz (z0w (by omega))]
       obtain⟨q,i,k,j⟩:=ih (c+1) (by omega) (by omega) (by omega)
       exact⟨q,i,fun h=>absurd h hP,fun _=>j fun h=>by omega⟩
     ·rw [z1i (by omega)]
      exact⟨_,rfl,fun h=>by omega,fun _=>rfl⟩
   obtain⟨q,i,k,j⟩:=n 5000 f (Nat.le_refl _) (by omega) (by omega)
   rw [wh i]
   by_cases hP:s+1=2^f∧left+1+f=16
   ·rw [k ⟨hP,rfl⟩,zjt]
    exact⟨_,rfl,fun _=>rfl,fun h=>absurd hP h⟩
   ·rw [j fun h=>hP h.1,zi2]
    exact⟨_,rfl,fun h=>absurd h hP,fun _=>rfl⟩
theorem zh7:xw 5000 ⟨lessM⟩=some (l16,0):=by
 have a:dm 5000 16 ms16 5000 0=some (Ex.rt (l16,0)):=by
  obtain⟨r,b,c⟩: ∃ r,dm 5000 16 ms16 5000 0=some r∧r=Ex.rt (l16,0):=by
   refine z9o (σ:=Unit) (fun F k _=>dm 5000 16 ms16 F (k:Int)) 17 (fun k _=>k≤16) _ (fun F k _ j d=>?_) (fun F _ d=>by omega) 5000 0 () (Nat.zero_le _) (by omega) (by omega)
   obtain⟨y,f,g,i⟩:=zdm 5000 0 0 k (by decide) (by omega) (by omega) (by omega)
   simp only [dm]
   rw [z8d (by omega),wh (show xq 5000 5000 0 0 (k:Int) ms16 16=_ from f)]
   by_cases e:k=16
   ·left
    rw [g ⟨by decide,by omega⟩]
    refine⟨_,?_,rfl⟩
    rw [ct rfl,wh zj4,wh zgg]
   ·right
    refine⟨(),by omega,?_⟩
    rw [i (by omega),cf rfl,yz (z0w (by omega))];rfl
  rw [b,c]
 unfold xw
 rw [wh zia,z1i (fun h=>h rfl),wh zgb,z1i (by decide),wh zeg]
 refine Eq.trans (wh (x:=Ex.rt (l16,0)) ?_) ?_
 ·rw [yz (z0w (by decide))];exact a
 ·rw [zjt]
end GV
end Go.Proofs.Ytkhihcleegljhaa

namespace Go.Proofs.Ytkhihcleegljhaa
namespace GV
set_option maxRecDepth 1000000
theorem zg9{L:List (List Int)}{m z:Mach}{X u:List (List Int)}{W:List (List Int)}{gw:List Int×Int}{lw:List Int}(c:m=⟨16,1,[mk 16 (⟨0,0⟩:Edge)]⟩)(d:z=⟨0,0,[]⟩)
 (k:lh 5000 16 2=some L) (l:kg 5000 5000 0 m.rows (List.replicate 1025 z)=some (m.rows,List.replicate 1025 m)) (n:bv 5000 m (List.replicate 1025 m) L=some (⟨[]⟩,3)) (o:bv 5000 m (List.replicate 1024 m) L=some (⟨X⟩,0))
 (p:bv 5000 m (List.replicate 4097 z) []=some (⟨[]⟩,3)) (q:uu 5000 ⟨X⟩=some ([],0)) (a:X.length=1024) (r:ku 5000 ⟨X⟩=some 0) (s:ku 5000 ⟨X++[ix X 0]⟩=some 3)
 (t:ku 5000 ⟨mk 4096 ([]:List Int)⟩=some 0) (v:ku 5000 ⟨mk 4097 ([]:List Int)⟩=some 3) (w:ku 5000 ⟨[mk 4096 (0:Int)]⟩=some 0) (x:ku 5000 ⟨[mk 4097 (0:Int),[]]⟩=some 3)
 (e:xw 5000 ⟨zbj⟩=some ([1,2],0)) (f:uu 5000 ⟨zbj⟩=some ([0,1,2],0)) (y:w9 5000 5000 0 []=some W) (A:xw 5000 ⟨W⟩=some ([],3)) (B:uu 5000 ⟨W⟩=some gw) (g:gw.1.length=17) (i:gw.2=0)
 (l0:wm 5000 W 5000 0 []=some u) (C:xw 5000 ⟨u⟩=some (lw,0)) (D:lw.length=16) (E:u6 5000 [1,2] [1,2]=some true) (F:u6 5000 [0,1,2] [0,1,2]=some true) (lv:ll 5000=some true):pq 5000=some true:=by
 have j:m.rows=[mk 16 (⟨0,0⟩:Edge)]:=by rw [c]
 have b:(⟨16,1,m.rows⟩:Mach)=m:=by rw [j,←c]
 unfold zbj at e f
 obtain⟨I,J⟩:=gw
 dsimp only at g i
 subst i
 have hcut:cut (List.replicate 1025 m) 0 1024=List.replicate 1024 m:=by
  unfold cut
  rw [show (0:Int).toNat=0 from rfl,List.drop_zero,show (1024:Int).toNat-0=1024 from rfl,List.take_replicate];rfl
 have G:mk 1025 (⟨0,0,[]⟩:Mach)=List.replicate 1025 z:=by rw [d];rfl
 have H:mk 4097 (⟨0,0,[]⟩:Mach)=List.replicate 4097 z:=by rw [d];rfl
 unfold pq
 rw [yz ⟨by decide,by decide,by decide⟩,wh k,yz ⟨by decide,by decide,by decide⟩,G,←j,wh l,H]
 dsimp only
 rw [b,wh n,yz ⟨by decide,by decide,by rw [List.length_replicate];decide⟩,hcut,wh o,yz ⟨by decide,by decide,by decide⟩,wh p,wh q]
 dsimp only
 rw [z1i (fun h=>h rfl),z1i (fun h=>h rfl),z1i (fun h=>h rfl),z1i (fun h=>h rfl),z1i (fun h=>h rfl),z1i (by rw [a];exact fun h=>h rfl),wh r,z1i (fun h=>h rfl)]
 rw [yz ⟨by rw [List.length_nil,a];decide,by rw [List.length_nil,a];decide⟩,yz ⟨by decide,by rw [a];decide⟩,yz ⟨by rw [List.nil_append,a,List.length_singleton];decide,by rw [List.nil_append,a,List.length_singleton];decide⟩,List.nil_append,wh s,z1i (fun h=>h rfl)]
 rw [yz ⟨by decide,by decide,by decide⟩,wh t,yz (fun _=>⟨by decide,by decide,by decide⟩),z9y (fun _=>v),yz (fun _=>⟨by decide,by decide,by decide⟩),z9y (fun _=>w),yz (fun _=>⟨by decide,by decide,by decide⟩),z9y (fun _=>x),cf (by rfl)]
 rw [wh e,wh f,wh y,wh A,wh B,wh l0,wh C]
 dsimp only
 rw [g,D]
 rw [z9y (fun _=>E),z9y (fun _=>F),z9y (fun _=>lv)];rfl
theorem zfo:pq 5000=some true:=by
 have b:(List.replicate 256 (-1:Int)).length=256:=List.length_replicate ..
 have hcell: ∀ j,j<(List.replicate 256 (-1:Int)).length→ -1≤(List.replicate 256 (-1:Int)).getD j default∧(List.replicate 256 (-1:Int)).getD j default≤255:=fun j a=>by rw [b] at a;rw [z0a a];omega
 have d:=zhp (n:=1025) (by decide)
 rw [if_pos (by decide)] at d
 have e:=zhp (n:=1024) (by decide)
 rw [if_neg (by decide)] at e
 have f:=z9r (n:=1024) (r:=List.replicate 256 (-1)) (by decide) (by decide) (by rw [b];decide) hcell
 rw [b,if_neg (by decide)] at f
 have g:=z9r (n:=1025) (r:=List.replicate 256 (-1)) (by decide) (by decide) (by rw [b];decide) hcell
 rw [b,if_pos (by decide)] at g
 have i:=z9r (n:=4096) (r:=[]) (by decide) (by decide) (by decide) (fun j a=>by simp at a)
 rw [List.length_nil,if_neg (by decide)] at i
 have l:=z9r (n:=4097) (r:=[]) (by decide) (by decide) (by decide) (fun j a=>by simp at a)
 rw [List.length_nil,if_pos (by decide)] at l
 have c:(List.replicate 4096 (0:Int)).length=4096:=List.length_replicate ..
 have o:=z9r (n:=1) (r:=List.replicate 4096 0) (by decide) (by decide) (by rw [c];decide) (fun j a=>by rw [c] at a;rw [z0a a];omega)
 rw [c,if_neg (by decide)] at o
 have hlast:List.replicate 1024 (List.replicate 256 (-1:Int))++[ix (List.replicate 1024 (List.replicate 256 (-1:Int))) 0]=List.replicate 1025 (List.replicate 256 (-1)):=by
  rw [show ix (List.replicate 1024 (List.replicate 256 (-1:Int))) 0=List.replicate 256 (-1) from z0a (k:=0) (by decide),←List.replicate_succ' (n:=1024)]
 obtain⟨gw,p,q,s⟩: ∃ gw,uu 5000 ⟨zci⟩=some gw∧gw.1.length=17∧gw.2=0:=by
  have h:=zin
  generalize uu 5000 ⟨zci⟩=y at h⊢
  cases y with
  |none=>cases h
  |some y=>have h:=Option.some.inj h;exact⟨y,rfl,congrArg Prod.fst h,congrArg Prod.snd h⟩
 exact zg9 (m:=mK) (z:=⟨0,0,[]⟩) (X:=List.replicate 1024 (List.replicate 256 (-1))) rfl rfl zj2 (zkm (by decide) _) d e zg0 (zj7 (by decide) (by decide)) (List.length_replicate ..) f (by rw [hlast];exact g) i l o zii zfu zi3 ziy zhn p q s zjb zh7 (by decide) zie zgo zij
end GV
end Go.Proofs.Ytkhihcleegljhaa
