import Derived.Test.YtkkcidhcfkmbjaaGreatDoorDsep
set_option linter.unusedVariables false
set_option linter.unusedSimpArgs false
set_option linter.unusedSectionVars false
namespace Go.Proofs.YtkkcidhcfkmbjaaGreatDoor
namespace GV
def pE(a b:Mach)(s t i:Nat):Edge:=if ed a s i= -1∨ed b t i= -1 then⟨-1,-1⟩ else⟨ed a s i*(b.rows.length:Int)+ed b t i,0⟩
def jg(a b:Mach):Mach:=⟨a.inputs,1,(List.range (a.rows.length*b.rows.length)).map fun q=>(List.range a.inputs.toNat).map fun i=>pE a b (q/b.rows.length) (q%b.rows.length) i⟩
def prI(b:Mach)(x y:Int):Int:=if x= -1∨y= -1 then-1 else x*(b.rows.length:Int)+y
section
variable {a b : Mach}
theorem z10:(jg a b).rows.length=a.rows.length*b.rows.length:=by simp [jg]
theorem zpa{s t n k:Nat}(a:s<n)(b:t<k):s*k+t<n*k:=by
 have:=Nat.mul_le_mul_right k (show s+1≤n from a)
 rw [Nat.add_mul,Nat.one_mul] at this;omega
theorem z7d{s t k:Nat}(a:t<k):(s*k+t)/k=s∧(s*k+t)%k=t:=by
 have b:0<k:=by omega
 refine⟨?_,?_⟩
 ·rw [Nat.add_comm,Nat.add_mul_div_right _ _ b,Nat.div_eq_of_lt a,Nat.zero_add]
 ·rw [Nat.add_comm,Nat.add_mul_mod_self_right,Nat.mod_eq_of_lt a]
theorem zk9{q n k:Nat}(h:q<n*k):q/k<n∧q%k<k:=by
 have a:0<k:=by
  rcases Nat.eq_zero_or_pos k with e|e
  ·rw [e] at h;omega
  ·exact e
 exact⟨(Nat.div_lt_iff_lt_mul a).2 h,Nat.mod_lt _ a⟩
theorem zgi{q:Nat}(c:q<a.rows.length*b.rows.length):(jg a b).rows.getD q default=(List.range a.inputs.toNat).map fun i=>pE a b (q/b.rows.length) (q%b.rows.length) i:=by
 simp [jg,List.getD_eq_getElem?_getD,c]
theorem zi8{q i:Nat}(c:q<a.rows.length*b.rows.length)(hi:i<a.inputs.toNat):((jg a b).rows.getD q default).getD i default=pE a b (q/b.rows.length) (q%b.rows.length) i:=by
 rw [zgi c];simp [List.getD_eq_getElem?_getD,hi]
theorem zyo(s t i:Nat):(pE a b s t i).to=prI b (ed a s i) (ed b t i):=by
 unfold pE prI
 by_cases h:ed a s i= -1∨ed b t i= -1
 ·rw [if_pos h,if_pos h]
 ·rw [if_neg h,if_neg h]
theorem zk2{q i:Nat}(c:q<a.rows.length*b.rows.length)(hi:i<a.inputs.toNat):ed (jg a b) q i=prI b (ed a (q/b.rows.length) i) (ed b (q%b.rows.length) i):=by
 unfold ed
 rw [zi8 c hi,zyo]
 rfl
theorem zoy{x y:Int}(c:SOk a x)(d:SOk b y):prI b x y= -1∨(0≤prI b x y∧prI b x y<((a.rows.length*b.rows.length:Nat):Int)):=by
 unfold prI
 by_cases h:x= -1∨y= -1
 ·rw [if_pos h];exact .inl rfl
 ·rw [if_neg h]
  have hx':=c.resolve_left (fun e=>h (.inl e))
  have hy':=d.resolve_left (fun e=>h (.inr e))
  obtain⟨s,rfl⟩:=Int.eq_ofNat_of_zero_le hx'.1
  obtain⟨t,rfl⟩:=Int.eq_ofNat_of_zero_le hy'.1
  have:=zpa (s:=s) (t:=t) (n:=a.rows.length) (k:=b.rows.length) (by omega) (by omega)
  have e:(s:Int)*(b.rows.length:Int)+(t:Int)=((s*b.rows.length+t:Nat):Int):=by rw [Int.natCast_add,Int.natCast_mul]
  rw [e]
  exact .inr ⟨by omega,by omega⟩
theorem zcm{x y:Int}{q:Nat}(c:SOk a x)(d:SOk b y)(h:prI b x y=(q:Int)):x=((q/b.rows.length:Nat):Int)∧y=((q%b.rows.length:Nat):Int)∧q<a.rows.length*b.rows.length:=by
 unfold prI at h
 by_cases hn:x= -1∨y= -1
 ·rw [if_pos hn] at h;omega
 ·rw [if_neg hn] at h
  have hx':=c.resolve_left (fun e=>hn (.inl e))
  have hy':=d.resolve_left (fun e=>hn (.inr e))
  obtain⟨s,rfl⟩:=Int.eq_ofNat_of_zero_le hx'.1
  obtain⟨t,rfl⟩:=Int.eq_ofNat_of_zero_le hy'.1
  have e:(s:Int)*(b.rows.length:Int)+(t:Int)=((s*b.rows.length+t:Nat):Int):=by rw [Int.natCast_add,Int.natCast_mul]
  rw [e] at h
  obtain rfl:s*b.rows.length+t=q:=by omega
  have:=z7d (s:=s) (t:=t) (k:=b.rows.length) (by omega)
  rw [this.1,this.2]
  exact⟨rfl,rfl,zpa (by omega) (by omega)⟩
theorem zjh{m:Mach}(a:MOk m){s i:Nat}(b:s<m.rows.length)(hi:i<m.inputs.toNat):SOk m (ed m s i):=z2a a b hi
theorem zbr(ha:MOk a)(hb:MOk b)(hi:a.inputs=b.inputs)(h64:a.rows.length*b.rows.length≤64):MOk (jg a b):=by
 have f:=ha.r1;have g:=hb.r1;have j:=ha.i1
 refine⟨ha.i1,ha.i2,by show (1:Int)≤1;omega,by show (1:Int)≤16;omega,?_,by rw [z10];exact h64,fun s c=>?_,fun s i c hi'=>?_⟩
 ·rw [z10];exact Nat.mul_pos f g
 ·rw [z10] at c
  rw [zgi c,List.length_map,List.length_range]
  show (a.inputs.toNat:Int)=a.inputs
  omega
 ·rw [z10] at c
  rw [zgi c,List.length_map,List.length_range] at hi'
  rw [zi8 c hi']
  have d:=zk9 c
  unfold pE
  by_cases h:ed a (s/b.rows.length) i= -1∨ed b (s%b.rows.length) i= -1
  ·rw [if_pos h];exact .inl ⟨rfl,rfl⟩
  ·rw [if_neg h]
   have:=(zoy (a:=a) (b:=b) (zjh ha d.1 hi') (zjh hb d.2 (by rw [←hi];exact hi'))).resolve_left (by unfold prI;rw [if_neg h];have:=(z2a ha d.1 hi').resolve_left (fun e=>h (.inl e));have:=(z2a hb d.2 (by rw [←hi];exact hi')).resolve_left (fun e=>h (.inr e));have:=Int.mul_nonneg (show 0≤ed a (s/b.rows.length) i by omega) (Int.natCast_nonneg b.rows.length);omega)
   unfold prI at this
   rw [if_neg h] at this
   exact .inr ⟨this.1,by rw [z10];exact this.2,by show (0:Int)≤0;omega,by show (0:Int)<1;omega⟩
theorem zqg(ha:MOk a)(hb:MOk b)(hi:a.inputs=b.inputs){x y:Int}(c:SOk a x)(d:SOk b y){i:Nat}(hi':i<a.inputs.toNat):(vk (jg a b) (prI b x y) (i:Int)).to=prI b (vk a x (i:Int)).to (vk b y (i:Int)).to:=by
 rcases zoy c d with h|⟨k,n⟩
 ·rw [h]
  have h':x= -1∨y= -1:=by
   unfold prI at h
   refine Classical.byContradiction fun f=>?_
   rw [if_neg f] at h
   have:=c.resolve_left (fun e=>f (.inl e))
   have:=d.resolve_left (fun e=>f (.inr e))
   have:=Int.mul_nonneg (show 0≤x by omega) (Int.natCast_nonneg b.rows.length)
   omega
  show (-1:Int)=_
  rcases h' with rfl|rfl
  ·unfold prI;rw [if_pos (.inl rfl)]
  ·unfold prI;rw [if_pos (.inr rfl)]
 ·obtain⟨q,j⟩:=Int.eq_ofNat_of_zero_le k
  obtain⟨l,m,g⟩:=zcm c d j
  have:(vk (jg a b) (prI b x y) (i:Int)).to=ed (jg a b) q i:=by
   rw [j];unfold vk;rw [if_neg (by omega)];rfl
  rw [this,zk2 g hi']
  have ea:(vk a x (i:Int)).to=ed a (q/b.rows.length) i:=by
   rw [l];unfold vk;rw [if_neg (Int.not_lt.2 (Int.natCast_nonneg _))];rfl
  have eb:(vk b y (i:Int)).to=ed b (q%b.rows.length) i:=by
   rw [m];unfold vk;rw [if_neg (Int.not_lt.2 (Int.natCast_nonneg _))];rfl
  rw [ea,eb]
theorem zci(ha:MOk a)(hb:MOk b)(hi:a.inputs=b.inputs): ∀ (w:List Int) {x y:Int},SOk a x→SOk b y→WOk a.inputs w→aftL (jg a b) (prI b x y) w=prI b (aftL a x w) (aftL b y w)
 | [],_,_,_,_,_=>rfl
 |c::w,x,y,d,e,f=>by
  obtain⟨i,rfl,hi',hw'⟩:=zka f
  show aftL (jg a b) (vk (jg a b) (prI b x y) (i:Int)).to w=prI b (aftL a (vk a x (i:Int)).to w) (aftL b (vk b y (i:Int)).to w)
  rw [zqg ha hb hi d e hi']
  exact zci ha hb hi w (zcv a ha x _ d ⟨by omega,by have:=ha.i1;omega⟩).1 (zcv b hb y _ e ⟨by omega,by have:=hb.i1;omega⟩).1 hw'
theorem zfl(ha:MOk a)(hb:MOk b)(hi:a.inputs=b.inputs): ∀ (w:List Int) {x y:Int},SOk a x→SOk b y→(x= -1↔y= -1)→WOk a.inputs w→z0f a x w≠z0f b y w→
 ∃ (u:List Int) (j:Nat) (v:List Int),w=u++(j:Int)::v∧j<a.inputs.toNat∧WOk a.inputs u∧aftL a x u≠ -1∧aftL b y u≠ -1∧(vk a (aftL a x u) ((j:Nat):Int)).out≠(vk b (aftL b y u) ((j:Nat):Int)).out
 | [],_,_,_,_,_,_,h=>absurd rfl h
 |c::w,x,y,l,m,d,n,h=>by
  obtain⟨i,rfl,hi',hw'⟩:=zka n
  by_cases e:x= -1
  ·have f:=d.1 e
   subst e;subst f
   exact absurd (by rw [z9h,z9h]) h
  ·have f:y≠ -1:=fun h=>e (d.2 h)
   by_cases g:(vk a x (i:Int)).out=(vk b y (i:Int)).out
   ·have hx':=l.resolve_left e
    have hy':=m.resolve_left f
    obtain⟨s,rfl⟩:=Int.eq_ofNat_of_zero_le hx'.1
    obtain⟨t,rfl⟩:=Int.eq_ofNat_of_zero_le hy'.1
    have oa:=(z9k ha (s:=s) (by omega) hi').1
    have ob:=(z9k hb (s:=t) (i:=i) (by omega) (by rw [←hi];exact hi')).1
    have ea:vk a (s:Int) (i:Int)=⟨ed a s i,ou a s i⟩:=by unfold vk;rw [if_neg (by omega)];rfl
    have eb:vk b (t:Int) (i:Int)=⟨ed b t i,ou b t i⟩:=by unfold vk;rw [if_neg (by omega)];rfl
    rw [ea,eb] at g
    have ho':ou a s i=ou b t i:=g
    have o:z0f a (ed a s i) w≠z0f b (ed b t i) w:=fun p=>h (by rw [lv,lv,ho',p])
    obtain⟨u,j,v,q,r,z,A,B,C⟩:=zfl ha hb hi w (zjh ha (s:=s) (by omega) hi') (zjh hb (s:=t) (i:=i) (by omega) (by rw [←hi];exact hi')) (by rw [oa,ob,ho']) hw' o
    refine⟨(i:Int)::u,j,v,by rw [q];rfl,r,zpu hi' z,?_,?_,?_⟩
    ·rw [z5k];exact A
    ·rw [z5k];exact B
    ·rw [z5k,z5k];exact C
   ·exact⟨[],i,w,rfl,hi',fun k D=>by simp at D,e,f,g⟩
def zfj(a b:Mach)(q j:Nat):Prop:=ou a (q/b.rows.length) j=ou b (q%b.rows.length) j
theorem z2k{m:Mach}(a:MOk m):SOk m 0:= .inr ⟨by omega,by have:=a.r1;omega⟩
theorem zc4:prI b 0 0=((0:Nat):Int):=by unfold prI;rw [if_neg (by omega)];simp
section least
variable (ha : MOk a) (hb : MOk b) (hi : a.inputs = b.inputs) (h64 : a.rows.length * b.rows.length ≤ 64) {R : List BE} (hR : Rch (jg a b) 0 R)
include ha hb hi h64 hR
theorem zwj{p:Nat}(d:p<R.length):aftL a 0 (R.getD p default).wd=(((R.getD p default).st/b.rows.length:Nat):Int)∧aftL b 0 (R.getD p default).wd=(((R.getD p default).st%b.rows.length:Nat):Int):=by
 have c:=(hR.wok p d).1
 have h:=hR.aft p d
 rw [←zc4 (b:=b),zci ha hb hi _ (z2k ha) (z2k hb) c] at h
 have:=zcm (z3d a ha 0 _ (z2k ha) c) (z3d b hb 0 _ (z2k hb) (by rw [←hi];exact c)) h
 exact⟨this.1,this.2.1⟩
theorem zm4{v:List Int}(h:zmw a b v): ∃ (q j:Nat) (u:List Int),q<R.length∧j<a.inputs.toNat∧ ¬zfj a b (R.getD q default).st j∧lle (R.getD q default).wd u∧lle (u++[(j:Int)]) v:=by
 have i:(0:Int)= -1↔(0:Int)= -1:=Iff.rfl
 obtain⟨u,j,v',rfl,k,e,l,m,n⟩:=zfl ha hb hi v (z2k ha) (z2k hb) i h.1 h.2
 have o:=zbr ha hb hi h64
 have c:=zci ha hb hi u (z2k ha) (z2k hb) e
 have sa:=z3d a ha 0 u (z2k ha) e
 have sb:=z3d b hb 0 u (z2k hb) (by rw [←hi];exact e)
 have f:aftL (jg a b) ((0:Nat):Int) u≠ -1:=by
  rw [←zc4 (b:=b),c]
  have hx':=sa.resolve_left l
  have hy':=sb.resolve_left m
  unfold prI
  rw [if_neg (by omega)]
  have:=Int.mul_nonneg hx'.1 (Int.natCast_nonneg b.rows.length)
  omega
 obtain⟨q,p,d,g⟩:=hR.least o _ u rfl e f
 rw [←zc4 (b:=b),c] at d
 obtain⟨r,s,_⟩:=zcm sa sb d.symm
 refine⟨q,j,u,p,k,fun t=>n ?_,g,?_⟩
 ·rw [r,s]
  unfold vk
  rw [if_neg (Int.not_lt.2 (Int.natCast_nonneg _)),if_neg (Int.not_lt.2 (Int.natCast_nonneg _))]
  exact t
 ·cases v' with
  |nil=>exact .inl rfl
  |cons x v'=>exact zrt (by simp)
theorem zu4(h: ∀ q j,q<R.length→j<a.inputs.toNat→zfj a b (R.getD q default).st j)(v:List Int): ¬zmw a b v:=fun c=>by
 obtain⟨q,j,u,d,e,f,_⟩:=zm4 ha hb hi h64 hR c
 exact f (h q j d e)
theorem zqr{p i:Nat}(e:p<R.length)(hi':i<a.inputs.toNat)(h: ∀ q j,q<p→j<a.inputs.toNat→zfj a b (R.getD q default).st j)(l: ∀ j,j<i→zfj a b (R.getD p default).st j)(m: ¬zfj a b (R.getD p default).st i):
 zlx a b ((R.getD p default).wd++[(i:Int)]):=by
 obtain⟨n,o⟩:=zwj ha hb hi h64 hR e
 refine⟨⟨?_,fun f=>m ?_⟩,fun v r=>?_⟩
 ·exact fun k s=>by
   have t:=(hR.wok p e).1
   have:WOk a.inputs (R.getD p default).wd:=t
   by_cases hk':k<(R.getD p default).wd.length
   ·rw [List.getD_eq_getElem?_getD,List.getElem?_append_left hk',←List.getD_eq_getElem?_getD];exact this k hk'
   ·have d:k=(R.getD p default).wd.length:=by rw [List.length_append,List.length_singleton] at s;omega
    subst d
    rw [List.getD_eq_getElem?_getD,List.getElem?_concat_length]
    exact⟨by simp,by simp only [Option.getD_some];omega⟩
 ·rw [r9,r9] at f
  have:=List.append_inj_right f (by rw [z00,z00])
  rw [n,o] at this
  rw [lv,lv] at this
  exact(List.cons.inj this).1
 ·obtain⟨q,j,u,w,x,g,y,z⟩:=zm4 ha hb hi h64 hR r
  refine za7 ?_ (za7 (zlt (j:Int) y) z)
  rcases Nat.lt_trichotomy q p with c|c|c
  ·exact absurd (h q j c x) g
  ·subst c
   by_cases hj:j<i
   ·exact absurd (l j hj) g
   ·by_cases hji:j=i
    ·subst hji;exact .inl rfl
    ·exact .inr (zll _ (by omega))
  ·exact .inr (zd6 _ _ (hR.inc p q c w))
end least
end
end GV
end Go.Proofs.YtkkcidhcfkmbjaaGreatDoor
