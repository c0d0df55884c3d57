
import Derived.Test.YtplgbkaollfmkaaGreatLaw39w
import Derived.Test.YtplgbkaollfmkaaGreatLaw39n
import Derived.Test.YtplgbkaollfmkaaGreatLaw39s
import Derived.Test.YtplgbkaollfmkaaGreatSpec09b
import Derived.Test.YtplgbkaollfmkaaGreatSpec09e
set_option linter.unusedVariables false
set_option linter.unusedSimpArgs false
namespace Go.Proofs.YtplgbkaollfmkaaGreat
namespace GV
set_option maxRecDepth 100000
section build
variable {N : Nat} {m : Mach} {d : List Int}
theorem Bd.pre1(h:Bd m d){k:Nat}(a:k≤m.rows.length):wd1 m d k<+:zna m d:=
 (zry m.rows.length a).trans (zms (m:=m) (d:=d) (x:=(wd1 m d m.rows.length,0)) (s:=0) m.rows.length (Nat.zero_le _))
theorem Bd.pre2(h:Bd m d){s i:Nat}(a:s<m.rows.length)(hi:i≤m.inputs.toNat):(zfw m d s i (all2 m d s (wd1 m d m.rows.length,0))).1<+:zna m d:=
 (zqz (i:=i) m.inputs.toNat hi).trans (zms (s:=s+1) m.rows.length a)
theorem q7s{α:Type}[Inhabited α]{X:List α}{s:Nat}{y:α}(a:s<X.length):ix (up X (s:Int) y) (s:Int)=y:=by
 rw [z4g,ak,List.getD_eq_getElem?_getD,List.getElem?_set_self a];rfl
theorem zvn{X Y:List Int}(h:X.length+Y.length≤100000):fits 8 X Y:=⟨by omega,by omega⟩
theorem zu8(h:Bd m d)(a:1100≤N){w:List Int}{f:Int}(b:WOk m.inputs w)(c:w.length≤1024):sw N (⟨(⟨m.inputs,m.outputs,m.rows⟩:Mach),d,w,f⟩:Sm)=some (w9 m 0 w):=by
 have e:(atL m w).length=w.length+1:=zhn
 unfold sw
 refine(qc (show z0o N m w=_ from ztw h.hm h.hc b c a)).trans ?_
 refine(zk (qm (by omega))).trans ?_
 refine(zk (show okI _ _ from⟨by omega,by omega⟩)).trans ?_
 rw [show ((atL m w).length:Int)-1=(w.length:Int) by omega,ak,zl8 (by omega),List.take_length]
theorem zil{w v:List Int}{f:Int}{a b:Int}{c:List (List Edge)}{e:List Int}(d:w.length+v.length≤100000):bn N v a b c e w f=some (w++v):=by
 unfold bn
 exact zk (zvn d)
theorem zl4(h:Bd m d)(a:1100≤N){w:List Int}{f:Int}(b:WOk m.inputs w)(c:w.length+d.length≤1024):oh N m.inputs m.outputs m.rows d w f=some (w++d,w9 m 0 w):=by
 unfold oh
 refine(qc (zu8 h a b (by omega))).trans ?_
 exact(qc (zil (by omega)))
def Brs{α:Type}[Inhabited α](m:Mach)(g:Nat→α)(k:Nat)(X:List α):Prop:=X.length=m.rows.length∧ ∀ q,q<k→q<m.rows.length→X.getD ((q+1)%m.rows.length) default=g ((q+1)%m.rows.length)
theorem Brs.up{α:Type}[Inhabited α]{g:Nat→α}{k:Nat}{X:List α}(a:Brs m g k X)(d:k<m.rows.length):Brs m g (k+1) (X.set ((k+1)%m.rows.length) (g ((k+1)%m.rows.length))):=by
 refine⟨by rw [List.length_set];exact a.1,fun q f b=>?_⟩
 have c:(k+1)%m.rows.length<m.rows.length:=Nat.mod_lt _ (by omega)
 rw [z9k (by rw [a.1];exact c)]
 by_cases e:(q+1)%m.rows.length=(k+1)%m.rows.length
 ·rw [if_pos e,e]
 ·rw [if_neg e]
  exact a.2 q (by
   by_cases e2:q=k
   ·subst e2;exact absurd rfl e
   ·omega) b
theorem Brs.get{α:Type}[Inhabited α]{g:Nat→α}{X:List α}(b:Brs m g m.rows.length X){s:Nat}(c:s<m.rows.length):X.getD s default=g s:=by
 have a:frm m.rows.length s<m.rows.length:=by unfold frm;split<;>omega
 have e:(frm m.rows.length s+1)%m.rows.length=s:=by
  unfold frm
  by_cases h0:s=0
  ·rw [if_pos h0,show m.rows.length-1+1=m.rows.length by omega,Nat.mod_self,h0]
  ·rw [if_neg h0,show s-1+1=s by omega,Nat.mod_eq_of_lt c]
 have:=b.2 _ a a
 rwa [e] at this
theorem zxl(h:Bd m d)(E:(zna m d).length≤1000)(v:1100≤N): ∃ r,dm N m d N 1 0 d (mk (m.rows.length:Int) (0:Int)) (mk (m.rows.length:Int) ([]:List Int))=some r∧
 r.1=0∧r.2.1=wd1 m d m.rows.length∧Brs m (fun s=>(frm m.rows.length s:Int)) m.rows.length r.2.2.1∧Brs m (brw m d) m.rows.length r.2.2.2:=by
 have z:=h.hm.r1;have A:=h.hm.r2
 refine fo (σ:=Int×List Int×List Int×List (List Int)) (fun F j x=>dm N m d F ((j+1:Nat):Int) x.1 x.2.1 x.2.2.1 x.2.2.2) m.rows.length
  (fun j x=>x.1=((j%m.rows.length:Nat):Int)∧x.2.1=wd1 m d j∧Brs m (fun s=>(frm m.rows.length s:Int)) j x.2.2.1∧Brs m (brw m d) j x.2.2.2)
  _ (fun F j x c p=> .inr ?_) (fun F x p=>?_) N 0 (0,d,mk (m.rows.length:Int) (0:Int),mk (m.rows.length:Int) ([]:List Int)) (Nat.zero_le _) (by omega) ⟨by rw [Nat.zero_mod];rfl,rfl,⟨List.length_replicate (n:=m.rows.length) (a:=(0:Int)),fun q B=>by omega⟩,⟨List.length_replicate (n:=m.rows.length) (a:=([]:List Int)),fun q B=>by omega⟩⟩
 ·obtain⟨f,w,X,Y⟩:=x
  obtain⟨l,o,e,g⟩:=p
  dsimp only at l o e g
  subst l;subst o
  have i:(j+1)%m.rows.length<m.rows.length:=Nat.mod_lt _ (by omega)
  have b:=h.wf1 j (by omega)
  have C:=(h.pre1 (k:=j+1) c).length_le
  have y:=h.brw_ok i
  rw [show wd1 m d (j+1)=wd1 m d j++(brw m d ((j+1)%m.rows.length)++d) from rfl,List.length_append,List.length_append] at C
  refine⟨((((j+1)%m.rows.length:Nat):Int),wd1 m d (j+1),X.set ((j+1)%m.rows.length) ((frm m.rows.length ((j+1)%m.rows.length):Nat):Int),Y.set ((j+1)%m.rows.length) (brw m d ((j+1)%m.rows.length))),⟨rfl,rfl,e.up c,g.up c⟩,?_⟩
  have D:((j+1:Nat):Int)%(m.rows.length:Int)=(((j+1)%m.rows.length:Nat):Int):=rfl
  have G:(X.length:Int)=m.rows.length:=by have:=e.1;omega
  have H:(Y.length:Int)=m.rows.length:=by have:=g.1;omega
  have t:su N m ((dst m d (j%m.rows.length):Nat):Int) (((j+1)%m.rows.length:Nat):Int)=some (brw m d ((j+1)%m.rows.length)):=by
   rw [q2r h.hm h.hc h.hk (by omega) (h.dst_ok b.lt).1 i]
   unfold brw
   rw [zid c]
  simp only [dm]
  rw [uy (by omega),zk ⟨by omega,by omega⟩,D,zk (qo (by omega))]
  refine(qc (zu8 h v b.ok (by omega))).trans ?_
  rw [b.aft h]
  refine(qc t).trans ?_
  rw [zk (qo (by omega)),zk (show okI _ _ from qo (by rw [z4g,List.length_set];omega)),q7s (by omega)]
  refine(qc (zil (by omega))).trans ?_
  refine(qc (zl4 h v (zaw b.ok y.1) (by rw [List.length_append];omega))).trans ?_
  refine(zk (qm (by omega))).trans ?_
  have u:w9 m 0 (wd1 m d j++brw m d ((j+1)%m.rows.length))=(((j+1)%m.rows.length:Nat):Int):=by
   rw [z3l,b.aft h]
   have:=y.2.1
   rwa [zid c] at this
  dsimp only
  rw [u,z4g,z4g,List.append_assoc,zid c];rfl
 ·obtain⟨f,w,X,Y⟩:=x
  obtain⟨l,o,e,g⟩:=p
  simp only [dm]
  rw [uo (by omega)]
  exact⟨_,rfl,by rw [l,Nat.mod_self];rfl,o,e,g⟩
theorem zze(h:Bd m d)(I:(zna m d).length≤1000)(j:1100≤N){o:Int×List Int×List Int×List (List Int)}(r:Brs m (fun s=>(frm m.rows.length s:Int)) m.rows.length o.2.2.1)(t:Brs m (brw m d) m.rows.length o.2.2.2){s:Nat}(b:s<m.rows.length):
 cu N m d o (s:Int) N 0 ((all2 m d s (wd1 m d m.rows.length,0)).2:Int) (all2 m d s (wd1 m d m.rows.length,0)).1=some (((all2 m d (s+1) (wd1 m d m.rows.length,0)).2:Int),(all2 m d (s+1) (wd1 m d m.rows.length,0)).1):=by
 have z:=h.hm.r1;have A:=h.hm.r2;have B:=h.hm.i1;have C:=h.hm.i2
 refine uk (σ:=Int×List Int) (fun F i x=>cu N m d o (s:Int) F (i:Int) x.1 x.2) m.inputs.toNat
  (fun i x=>x=(((zfw m d s i (all2 m d s (wd1 m d m.rows.length,0))).2:Int),(zfw m d s i (all2 m d s (wd1 m d m.rows.length,0))).1))
  _ (fun F i x hi k=> .inr ?_) (fun F x k=>?_) N 0 (_,_) (Nat.zero_le _) (by omega) rfl
 ·subst k
  refine⟨_,rfl,?_⟩
  have a:=h.wf_row b (h.wf_all h.wf10 s (by omega)) i (by omega)
  have c:=(h.pre2 b (i:=i+1) hi).length_le
  have l:=h.wf_go b a
  have u:=h.brw_ok b
  have D:=h.edn b hi
  rw [show zfw m d s (i+1) (all2 m d s (wd1 m d m.rows.length,0))=st2 m d s i (zfw m d s i (all2 m d s (wd1 m d m.rows.length,0))) from rfl] at c⊢
  generalize zfw m d s i (all2 m d s (wd1 m d m.rows.length,0))=x at a c l⊢
  obtain⟨w,f⟩:=x
  have n:ix o.2.2.1 (s:Int)=((frm m.rows.length s:Nat):Int):=r.get b
  have p:ix o.2.2.2 (s:Int)=brw m d s:=t.get b
  have v:okI o.2.2.1 (s:Int):=qo (by rw [r.1];exact b)
  have E:okI o.2.2.2 (s:Int):=qo (by rw [t.1];exact b)
  unfold st2 at c⊢
  dsimp only at a c⊢
  have G:=(go_pre (m:=m) (d:=d) (s:=s) (x:=(w,f))).length_le
  simp only [List.length_append,List.length_singleton] at c
  simp only [cu]
  rw [uy (by omega)]
  refine(qc (x:=(((frm m.rows.length s:Nat):Int),go2 m d s (w,f))) ?_).trans ?_
  ·rw [zk v,n]
   by_cases e:f=frm m.rows.length s
   ·rw [uo (by omega)]
    unfold go2
    rw [if_pos e,e]
   ·have g:go2 m d s (w,f)=w++(LD m (dst m d f) (frm m.rows.length s)++d):=by unfold go2;rw [if_neg e]
    have y:=zw6 h.hm h.hk (h.dst_ok a.lt).1 (h.frm_lt b)
    rw [g,List.length_append,List.length_append] at c
    rw [uy (by omega)]
    refine(qc (zu8 h j a.ok (by omega))).trans ?_
    rw [a.aft h,zk v]
    refine(qc (show su N m _ _=_ from q2r h.hm h.hc h.hk (by omega) (h.dst_ok a.lt).1 (h.frm_lt b))).trans ?_
    refine(qc (zil (by omega))).trans ?_
    refine(qc (zl4 h j (zaw a.ok y.1) (by rw [List.length_append];omega))).trans ?_
    rw [g,z3l,a.aft h,y.2.1,List.append_assoc]
  ·dsimp only
   rw [zk E,p]
   refine(qc (zil (by omega))).trans ?_
   refine(qc (zil (by rw [List.length_append,List.length_singleton];omega))).trans ?_
   have q:WOk m.inputs (go2 m d s (w,f)++brw m d s++[(i:Int)]):=zaw (zaw l.ok u.1) (zvf ⟨by omega,by omega⟩)
   refine(qc (zl4 h j q (by simp only [List.length_append,List.length_singleton];omega))).trans ?_
   refine(zk (qm (by omega))).trans ?_
   have H:w9 m 0 (go2 m d s (w,f)++brw m d s++[(i:Int)])=((ed m s i).toNat:Int):=by
    rw [zim,z3l,l.aft h,u.2.1,D.2]
   dsimp only
   rw [H]
   simp only [List.append_assoc];rfl
 ·subst k
  simp only [cu]
  rw [uo (by omega)];rfl
theorem zyi(h:Bd m d)(c:(zna m d).length≤1000)(a:1100≤N):z2s N m d=some (zna m d):=by
 have l:=h.hm.r1;have n:=h.hm.r2
 have p:=(h.pre1 (k:=0) (Nat.zero_le _)).length_le
 have q:d.length≤(zna m d).length:=p
 unfold z2s
 refine(qc (zl4 h a (w:=[]) (fun k r=>absurd r (by simp)) (by simp only [List.length_nil];omega))).trans ?_
 refine(zk ⟨by omega,by omega,by omega⟩).trans ?_
 refine(zk ⟨by omega,by omega,by omega⟩).trans ?_
 obtain⟨⟨f,w,X,Y⟩,t,e,g,i,j⟩:=zxl h c a
 refine(qc t).trans ?_
 dsimp only at e g i j
 subst e;subst g
 refine(qc (x:=(((all2 m d m.rows.length (wd1 m d m.rows.length,0)).2:Int),(all2 m d m.rows.length (wd1 m d m.rows.length,0)).1)) ?_).trans rfl
 refine uk (σ:=Int×List Int) (fun F s x=>ai N m d (0,wd1 m d m.rows.length,X,Y) F (s:Int) x.1 x.2) m.rows.length
  (fun s x=>x=(((all2 m d s (wd1 m d m.rows.length,0)).2:Int),(all2 m d s (wd1 m d m.rows.length,0)).1)) _ (fun F s x u b=> .inr ?_) (fun F x b=>?_) N 0 (_,_) (Nat.zero_le _) (by omega) rfl
 ·subst b
  refine⟨_,rfl,?_⟩
  simp only [ai]
  rw [uy (by omega)]
  refine(qc (zze (o:=(0,wd1 m d m.rows.length,X,Y)) h c a i j u)).trans ?_
  exact zk (qm (by omega))
 ·subst b
  simp only [ai]
  rw [uo (by omega)]
end build
end GV
end Go.Proofs.YtplgbkaollfmkaaGreat

namespace Go.Proofs.YtplgbkaollfmkaaGreat
namespace GV
set_option maxRecDepth 100000
section build
variable {N : Nat} {m : Mach} {d : List Int}
theorem q1q(b:MOk m)(e:d.length≤256)(a:canI m d=0):Bd m d:=by
 unfold canI at a
 by_cases h:properM m=0
 ·obtain⟨_,c,_,_⟩:=zm2 h
  rw [if_neg (by omega),if_neg (by omega)] at a
  cases h2:d.any (zck m)
  ·rw [h2,if_neg Bool.false_ne_true] at a
   by_cases h3:1<(knotsL m).length
   ·rw [if_pos h3] at a;omega
   ·exact⟨b,c,by omega,zqg h2⟩
  ·rw [h2,if_pos rfl] at a;omega
 ·rw [if_pos h] at a;exact absurd a h
end build
end GV
end Go.Proofs.YtplgbkaollfmkaaGreat

namespace Go.Proofs.YtplgbkaollfmkaaGreat
namespace GV
set_option maxRecDepth 100000
theorem q2a{m:Mach}(a:MOk m):(zmx m).rows.length≤m.rows.length∧(zmx m).inputs=m.inputs:=by
 refine⟨?_,rfl⟩
 have b:=zme a
 have c:=(zpo b).le
 have d:(zcv m).rows.length≤m.rows.length:=by rw [zhk];exact zc7 _ _
 unfold zmx q73
 rw [zyn,zrd];omega
theorem q7k{x:Sk}(e:CDOk x.fAi.fAb)(g: ∀ k,k<x.fAg.length→0≤x.fAg.getD k default∧x.fAg.getD k default≤255):
 ∃ m d,z3v 2000 x=some (m,d)∧MOk m∧WOk m.inputs d∧d.length≤6∧m.rows.length≤6∧m.inputs≤3:=by
 have h:=e.st
 have hx':CDOk ⟨x.fAi.fAb.fB%5,x.fAi.fAb.fA,x.fAi.fAb.fC,x.fAi.fAb.fI,x.fAi.fAb.fE⟩:=⟨⟨by dsimp only;omega,by dsimp only;omega⟩,e.ins,e.outs,e.tr,e.ed⟩
 obtain⟨c,i,a,l⟩:=zwl (N:=2000) hx' (by decide)
 have f:=a.ok
 have j:z3y 2000 x.fAi=some (zmx c):=by
  unfold z3y
  rw [zk ⟨by omega,by omega⟩,qc i,qc (q40 f (by decide) a.rows a.ins)]
 have b:=q72 f
 have n:=q2a f
 have o:=a.rows;have p:=a.ins
 have hi:=b.i1;have q:=b.i2
 refine⟨zmx c,wdL (x.fAg.take 6) (zmx c).inputs,?_,b,zzw (by omega),q8h,by omega,by omega⟩
 unfold z3v
 refine(qc j).trans ?_
 exact qc (show z0n 2000 x.fAg (zmx c).inputs ((6:Nat):Int)=_ from zvt g (by omega) (by omega) (by decide) (by decide))
theorem zyr{m:Mach}{d:List Int}(a:MOk m)(b:m.rows.length≤6)(hi:m.inputs≤3)(c:d.length≤6):
 (m.rows.length*m.inputs.toNat≤18∧(m.rows.length:Int)*m.inputs=((m.rows.length*m.inputs.toNat:Nat):Int))∧(m.rows.length*m.inputs.toNat+m.rows.length+1)*cap2 m d≤600:=by
 have e:=a.i1
 have f:m.rows.length*m.inputs.toNat≤6*3:=Nat.mul_le_mul b (by omega)
 refine⟨⟨by omega,a.mul.2⟩,?_⟩
 exact Nat.le_trans (Nat.mul_le_mul (show m.rows.length*m.inputs.toNat+m.rows.length+1≤25 by omega) (show cap2 m d≤24 by unfold cap2;omega)) (by decide)
end GV
end Go.Proofs.YtplgbkaollfmkaaGreat

namespace Go.Proofs.YtplgbkaollfmkaaGreat
namespace GV
set_option maxRecDepth 100000
theorem zw7(M:Mach){d w:List Int}{k:Nat}(h:idB d w k=true):((vv M 0 w).drop k).take d.length=vv M (w9 M 0 (w.take k)) d:=by
 unfold idB at h
 rw [Bool.and_eq_true,decide_eq_true_iff,decide_eq_true_iff] at h
 obtain⟨g,a⟩:=h
 have e:w=w.take k++(d++w.drop (k+d.length)):=by
  rw [←a]
  have:(w.drop k).take ((w.drop k).take d.length).length++w.drop (k+((w.drop k).take d.length).length)=w.drop k:=by
   rw [←List.drop_drop,List.take_append_drop]
  have b:((w.drop k).take d.length).length=d.length:=by rw [a]
  rw [b,←List.drop_drop,List.take_append_drop,List.take_append_drop]
 have c:vv M 0 w=vv M 0 (w.take k)++(vv M (w9 M 0 (w.take k)) d++vv M (w9 M (w9 M 0 (w.take k)) d) (w.drop (k+d.length))):=by
  rw [←zc4,←zc4,←e]
 have i:(vv M 0 (w.take k)).length=k:=by rw [z2j,List.length_take];omega
 rw [c,List.drop_append_of_le_length (by omega),List.drop_of_length_le (by omega),List.nil_append]
 have f:d.length=(vv M (w9 M 0 (w.take k)) d).length:=(z2j _ _ _).symm
 rw [List.take_append_of_le_length (by omega),f,List.take_length]
theorem zl1(M:Mach){w:List Int}{i c:Nat}:w9 M 0 (w.take (i+c))=w9 M (w9 M 0 (w.take i)) ((w.drop i).take c):=by
 rw [List.take_add,z3l]
theorem q6j{w:List Int}{i j c:Nat}(h: ∀ t,t<c→i+t<w.length∧j+t<w.length∧w.getD (i+t) default=w.getD (j+t) default):(w.drop i).take c=(w.drop j).take c:=by
 by_cases h0:c=0
 ·subst h0;rw [List.take_zero,List.take_zero]
 have b:=h (c-1) (by omega)
 refine q27 (by rw [List.length_take,List.length_take,List.length_drop,List.length_drop];omega) fun t a=>?_
 rw [List.length_take,List.length_drop] at a
 have:=(h t (by omega)).2.2
 rw [List.getD_eq_getElem?_getD,List.getD_eq_getElem?_getD,List.getElem?_take,List.getElem?_take,if_pos (by omega),if_pos (by omega),List.getElem?_drop,List.getElem?_drop,←List.getD_eq_getElem?_getD,←List.getD_eq_getElem?_getD]
 exact this
theorem zyg{m:Mach}{d w:List Int}{k s:Nat}(h:missS m d w k=[])(c:s<k):zhw m d w (s:Int):=by
 induction k with
 |zero=>omega
 |succ k ih=>
  rw [zlx] at h
  obtain⟨b,a⟩:=List.append_eq_nil_iff.1 h
  by_cases e:s=k
  ·subst e
   by_cases hf:zhw m d w (s:Int)
   ·exact hf
   ·rw [if_neg hf] at a;exact absurd a (by simp)
  ·exact ih b (by omega)
theorem zxk{m:Mach}{d w:List Int}{s k i:Nat}(h:missR m d w s k=[])(hi:i<k):zel m d w (s:Int) (i:Int):=by
 induction k with
 |zero=>omega
 |succ k ih=>
  rw [znn] at h
  obtain⟨b,a⟩:=List.append_eq_nil_iff.1 h
  by_cases e:i=k
  ·subst e
   by_cases hf:zel m d w (s:Int) (i:Int)
   ·exact hf
   ·rw [if_neg hf] at a;exact absurd a (by simp)
  ·exact ih b (by omega)
theorem zyh{m:Mach}{d w:List Int}{k s i:Nat}(h:missE m d w k=[])(c:s<k)(hi:i<m.inputs.toNat):zel m d w (s:Int) (i:Int):=by
 induction k with
 |zero=>omega
 |succ k ih=>
  rw [zh2] at h
  obtain⟨a,b⟩:=List.append_eq_nil_iff.1 h
  by_cases e:s=k
  ·subst e;exact zxk b hi
  ·exact ih a (by omega)
theorem zjq(M:Mach): ∀ (w:List Int) (s:Int) (k:Nat),vv M s (w.take k)=(vv M s w).take k
 |w,s,0=>by rw [List.take_zero,List.take_zero];rfl
 | [],s,k+1=>rfl
 |i::w,s,k+1=>by simp only [List.take_succ_cons,vv,zjq M w]
section sound
variable {m o : Mach} {d w : List Int}
theorem q1k(E:o.rows.length≤m.rows.length)(hdis: ∀ s t:Nat,s<m.rows.length→t<m.rows.length→vv m (s:Int) d=vv m (t:Int) d→s=t)
 (j: ∀ s:Nat,s<m.rows.length→ ∃ t:Nat,t<o.rows.length∧vv o (t:Int) d=vv m (s:Int) d) {s t u:Nat} (w:s<m.rows.length) (y:t<o.rows.length) (z:u<o.rows.length)
 (et:vv o (t:Int) d=vv m (s:Int) d) (eu:vv o (u:Int) d=vv m (s:Int) d):t=u:=by
 by_cases e:t=u
 ·exact e
 exfalso
 obtain⟨f,A⟩: ∃ f:Nat→Nat,∀ q,q<m.rows.length→f q<o.rows.length∧vv o (f q:Int) d=vv m (q:Int) d:=by
  have h: ∀ q,∃ t:Nat,q<m.rows.length→t<o.rows.length∧vv o (t:Int) d=vv m (q:Int) d:=fun q=>by
   by_cases c:q<m.rows.length
   ·obtain⟨t,h⟩:=j q c;exact⟨t,fun _=>h⟩
   ·exact⟨0,fun h=>absurd h c⟩
  exact⟨fun q=>Classical.choose (h q),fun q=>Classical.choose_spec (h q)⟩
 have i: ∀ q,q<m.rows.length→(if q=s then u else f q)<o.rows.length∧vv o ((if q=s then u else f q:Nat):Int) d=vv m (q:Int) d:=fun q c=>by
  by_cases e:q=s
  ·subst e;rw [if_pos rfl];exact⟨z,eu⟩
  ·rw [if_neg e];exact A q c
 have k:(t::(List.range m.rows.length).map fun q=>if q=s then u else f q).Nodup:=by
  refine List.nodup_cons.2 ⟨fun hm'=>?_,?_⟩
  ·obtain⟨q,c,l⟩:=List.mem_map.1 hm'
   have hq':=List.mem_range.1 c
   have g:=(i q hq').2
   rw [l,et] at g
   have B:=hdis s q w hq' g
   subst B
   rw [if_pos rfl] at l
   exact e l.symm
  ·refine List.pairwise_map.2 (List.Pairwise.imp_of_mem (fun {a b} C D n p=>?_) List.nodup_range)
   have ha':=List.mem_range.1 C;have hb':=List.mem_range.1 D
   have g:=(i a ha').2
   rw [p,(i b hb').2] at g
   exact n (hdis b a hb' ha' g).symm
 have r:=List.Nodup.length_le_of_subset k (l₂:=List.range o.rows.length) (fun x v=>by
  rcases List.mem_cons.1 v with rfl|v
  ·exact List.mem_range.2 y
  ·obtain⟨q,c,rfl⟩:=List.mem_map.1 v
   exact List.mem_range.2 (i q (List.mem_range.1 c)).1)
 simp only [List.length_cons,List.length_map,List.length_range] at r
 omega
open Classical in
theorem zta(B:MOk m)(M:oo m=true)(C:MOk o)(n:oo o=true)(hi:o.inputs=m.inputs)(S:o.rows.length≤m.rows.length)(hdup:zju m d=false)(N:WOk m.inputs w)(T:WOk m.inputs d)
 (x:verR m d w=⟨true,[],[]⟩) (hrun:vv m 0 w=vv o 0 w) {v:List Int} (D:WOk m.inputs v):vv m 0 v=vv o 0 v:=by
 have U:=B.r1;have V:=C.r1
 have E:WOk o.inputs w:=by rw [hi];exact N
 have W:WOk o.inputs d:=by rw [hi];exact T
 have hdis: ∀ s t:Nat,s<m.rows.length→t<m.rows.length→vv m (s:Int) d=vv m (t:Int) d→s=t:=by
  have key: ∀ s t:Nat,s<t→t<m.rows.length→vv m (s:Int) d≠vv m (t:Int) d:=fun s t b c e=>by
   have:zju m d=true:=zm9 c (zm9 b (decide_eq_true e))
   rw [hdup] at this;exact absurd this (by decide)
  intro s t a c e
  rcases Nat.lt_trichotomy s t with h|h|h
  ·exact absurd e (key s t h c)
  ·exact h
  ·exact absurd e.symm (key t s h a)
 unfold verR at x
 have F:zg7 m d w 0:=by
  by_cases h:zg7 m d w 0
  ·exact h
  ·have:=congrArg Sc.fF x
   dsimp only at this
   rw [decide_eq_false h] at this;exact absurd this (by decide)
 have G:missS m d w m.rows.length=[]:=congrArg Sc.fB x
 have H:missE m d w m.rows.length=[]:=congrArg Sc.fE x
 have aM:=fun k=>zq2 B M N k
 have aO:=fun k=>zq2 C n E k
 have hidn: ∀ k,idB d w k=true→vv o (w9 o 0 (w.take k)) d=vv m (w9 m 0 (w.take k)) d:=fun k p=>by rw [←zw7 o p,←zw7 m p,hrun]
 have I: ∀ s:Nat,s<m.rows.length→ ∃ t:Nat,t<o.rows.length∧vv o (t:Int) d=vv m (s:Int) d:=fun s a=>by
  obtain⟨k,p,J,K⟩:=zyg G a
  have X:=hidn k K
  have Y:=aO k
  refine⟨(w9 o 0 (w.take k)).toNat,by omega,?_⟩
  rw [Int.toNat_of_nonneg Y.1,X,J]
 have uniq: ∀ {s t u:Int},(0≤s∧s<m.rows.length)→(0≤t∧t<o.rows.length)→(0≤u∧u<o.rows.length)→vv o t d=vv m s d→vv o u d=vv m s d→t=u:=fun {s t u} a c Z et eu=>by
  have:=q1k (s:=s.toNat) (t:=t.toNat) (u:=u.toNat) S hdis I (by omega) (by omega) (by omega) (by rw [Int.toNat_of_nonneg a.1,Int.toNat_of_nonneg c.1];exact et) (by rw [Int.toNat_of_nonneg a.1,Int.toNat_of_nonneg Z.1];exact eu)
  omega
 have g: ∀ k,zg7 m d w k→vv o (w9 o 0 (w.take k)) d=vv m (w9 m 0 (w.take k)) d:=by
  rintro k (h|⟨j,hj,i,hi',⟨p1,p2,p3,O⟩,l,P,q2,q3⟩)
  ·exact hidn k h
  ·have y:w9 o 0 (w.take i)=w9 o 0 (w.take j):=uniq (aM i) (aO i) (aO j) (hidn i p2) (by rw [hidn j p3,O])
   have q:(w.drop i).take (l+1)=(w.drop j).take (l+1):=q6j fun t c=>q2 t (by omega)
   have e3:w9 o 0 (w.take (i+l+1))=w9 o 0 (w.take k):=by rw [←P,Nat.add_assoc,Nat.add_assoc,zl1,zl1,y,q]
   have e4:w9 m 0 (w.take (i+l+1))=w9 m 0 (w.take k):=by rw [←P,Nat.add_assoc,Nat.add_assoc,zl1,zl1,O,q]
   rw [←e3,←e4]
   exact hidn _ q3
 have hstep: ∀ {s t:Int} (i:Int),(0≤s∧s<m.rows.length)→(0≤t∧t<o.rows.length)→vv o t d=vv m s d→(0≤i∧i<m.inputs)→(ry m s i).out=(ry o t i).out∧vv o (ry o t i).to d=vv m (ry m s i).to d:=fun {s t} i a c b f=>by
  obtain⟨k,z,A,L,k4,k5⟩:=zyh (s:=s.toNat) (i:=i.toNat) H (by omega) (by omega)
  rw [Int.toNat_of_nonneg a.1] at A
  rw [Int.toNat_of_nonneg f.1] at L
  have y:t=w9 o 0 (w.take k):=uniq a c (aO k) b (by rw [g k k4,A])
  have q:=g (k+1) k5
  rw [zb6 m 0 w k z,zb6 o 0 w k z,A,L,←y] at q
  refine⟨?_,q⟩
  have Q:=zd0 m 0 w k z
  have r2:=zd0 o 0 w k z
  rw [zjq,hrun,←zjq,r2] at Q
  have R:=List.append_inj_right' Q rfl
  rw [A,L,←y] at R
  exact((List.cons.inj R).1).symm
 have key: ∀ (v:List Int) {s t:Int},(0≤s∧s<m.rows.length)→(0≤t∧t<o.rows.length)→vv o t d=vv m s d→WOk m.inputs v→vv m s v=vv o t v:=by
  intro v
  induction v with
  |nil=>intro s t _ _ _ _;rfl
  |cons i v ih=>
   intro s t a c b r
   have f:0≤i∧i<m.inputs:=by simpa using r 0 (by simp)
   obtain⟨J,K⟩:=hstep i a c b f
   simp only [vv]
   rw [J,ih (z9i B M a f).1 (z9i C n c (by rw [hi];exact f)).1 K (fun k p=>by simpa using r (k+1) (by simpa using p))]
 exact key v ⟨by omega,by omega⟩ ⟨by omega,by omega⟩ (g 0 F) D
end sound
end GV
end Go.Proofs.YtplgbkaollfmkaaGreat

namespace Go.Proofs.YtplgbkaollfmkaaGreat
namespace GV
set_option maxRecDepth 100000
def shE(n:Nat)(e:Edge):Edge:=⟨if 0≤e.to then e.to+(n:Int) else e.to,e.out⟩
def zat(a b:Mach):Mach:=⟨a.inputs,max a.outputs b.outputs,a.rows++b.rows.map fun r=>r.map (shE a.rows.length)⟩
section beside
variable {N : Nat} {a b : Mach}
theorem zbv:(zat a b).rows.length=a.rows.length+b.rows.length:=by simp [zat]
theorem zi4{s:Nat}(c:s<a.rows.length):(zat a b).rows.getD s default=a.rows.getD s default:=by
 unfold zat
 rw [List.getD_eq_getElem?_getD,List.getElem?_append_left c,←List.getD_eq_getElem?_getD]
theorem ziz{t:Nat}(c:t<b.rows.length):(zat a b).rows.getD (a.rows.length+t) default=(b.rows.getD t default).map (shE a.rows.length):=by
 unfold zat
 rw [List.getD_eq_getElem?_getD,List.getElem?_append_right (by omega),Nat.add_sub_cancel_left,List.getElem?_map,List.getElem?_eq_getElem c,List.getD_eq_getElem?_getD,List.getElem?_eq_getElem c];rfl
theorem znd{n i:Nat}{l:List Edge}(hi:i<l.length):(l.map (shE n)).getD i default=shE n (l.getD i default):=by
 rw [List.getD_eq_getElem?_getD,List.getElem?_map,List.getElem?_eq_getElem hi,List.getD_eq_getElem?_getD,List.getElem?_eq_getElem hi];rfl
theorem q5x(c:MOk a)(e:MOk b)(hi:b.inputs=a.inputs)(l:a.rows.length+b.rows.length≤64):MOk (zat a b):=by
 have m:=c.r1;have n:=c.o1;have o:=c.o2;have p:=e.o1;have r:=e.o2
 have hout:(zat a b).outputs=max a.outputs b.outputs:=rfl
 refine⟨c.i1,c.i2,by rw [hout];omega,by rw [hout];omega,by rw [zbv];omega,by rw [zbv];omega,fun s f=>?_,fun s i f hi'=>?_⟩
 ·rw [zbv] at f
  by_cases h:s<a.rows.length
  ·rw [zi4 h];exact c.row s h
  ·obtain⟨t,rfl⟩: ∃ t,s=a.rows.length+t:=⟨s-a.rows.length,by omega⟩
   rw [ziz (by omega),List.length_map,e.row t (by omega),hi];rfl
 ·rw [zbv] at f
  by_cases h:s<a.rows.length
  ·rw [zi4 h] at hi'⊢
   rcases c.edge s i h hi' with q|⟨d,g,j,k⟩
   ·exact .inl q
   ·exact .inr ⟨d,by rw [zbv];omega,j,by rw [hout];omega⟩
  ·obtain⟨t,rfl⟩: ∃ t,s=a.rows.length+t:=⟨s-a.rows.length,by omega⟩
   rw [ziz (by omega)] at hi'⊢
   rw [List.length_map] at hi'
   rw [znd hi']
   rcases e.edge t i (by omega) hi' with⟨d,g⟩|⟨d,g,j,k⟩
   ·refine .inl ⟨?_,g⟩
    unfold shE;dsimp only
    rw [if_neg (by omega)];exact d
   ·refine .inr ⟨?_,?_,j,by rw [hout];show ((b.rows.getD t default).getD i default).out<_;omega⟩
    ·unfold shE;dsimp only;rw [if_pos d];omega
    ·unfold shE;dsimp only;rw [if_pos d,zbv];omega
theorem zz6{s i:Int}(c:0≤s∧s<a.rows.length):ry (zat a b) s i=ry a s i:=by
 unfold ry
 rw [if_neg (by omega),if_neg (by omega),zi4 (by omega)]
theorem zxu(d:MOk b)(e:oo b=true){t i:Int}(f:0≤t∧t<b.rows.length)(hi:0≤i∧i<b.inputs):ry (zat a b) (a.rows.length+t) i=⟨(a.rows.length:Int)+(ry b t i).to,(ry b t i).out⟩:=by
 have c:=(z9i d e f hi).1
 have hrow:=d.row t.toNat (by omega)
 unfold ry at c⊢
 rw [if_neg (by omega)] at c
 rw [if_neg (by omega),if_neg (by omega),show ((a.rows.length:Int)+t).toNat=a.rows.length+t.toNat by omega,ziz (by omega),znd (by omega)]
 unfold shE
 rw [if_pos c.1,Int.add_comm]
theorem zt3(d:MOk a)(e:oo a=true): ∀ (v:List Int) {s:Int},(0≤s∧s<a.rows.length)→WOk a.inputs v→vv (zat a b) s v=vv a s v
 | [],_,_,_=>rfl
 |i::v,s,f,g=>by
  have c:0≤i∧i<a.inputs:=by simpa using g 0 (by simp)
  simp only [vv]
  rw [zz6 f,zt3 d e v (z9i d e f c).1 (fun k h=>by simpa using g (k+1) (by simpa using h))]
theorem zri(d:MOk b)(e:oo b=true): ∀ (v:List Int) {t:Int},(0≤t∧t<b.rows.length)→WOk b.inputs v→vv (zat a b) (a.rows.length+t) v=vv b t v
 | [],_,_,_=>rfl
 |i::v,t,f,g=>by
  have c:0≤i∧i<b.inputs:=by simpa using g 0 (by simp)
  simp only [vv]
  rw [zxu d e f c,zri d e v (z9i d e f c).1 (fun k h=>by simpa using g (k+1) (by simpa using h))]
theorem q15(g:MOk a)(d:MOk b)(e:oo a=true)(f:oo b=true)(hi:b.inputs=a.inputs){s i:Nat}(j:s<(zat a b).rows.length)(c:i<a.inputs.toNat):0≤ed (zat a b) s i:=by
 rw [zbv] at j
 unfold ed
 by_cases h:s<a.rows.length
 ·rw [zi4 h]
  have:=d.i1
  exact(zlw g e h c).1
 ·obtain⟨t,rfl⟩: ∃ t,s=a.rows.length+t:=⟨s-a.rows.length,by omega⟩
  have k:=zlw d f (s:=t) (i:=i) (by omega) (by rw [hi];exact c)
  have hrow:=d.row t (by omega)
  rw [ziz (by omega),znd (by omega)]
  unfold shE ed at*
  rw [if_pos k.1];dsimp only;omega
theorem zza(d:MOk b)(r:200≤N)(s:a.rows.length≤1000){t:Nat}(g:t<b.rows.length):gy N a b (t:Int) N [] 0=some ((b.rows.getD t default).map (shE a.rows.length)):=by
 have l:=d.i1;have m:=d.i2;have n:=d.r2
 have hrow:=d.row t g
 refine uk (σ:=List Edge) (fun F i X=>gy N a b (t:Int) F X (i:Int)) b.inputs.toNat (fun i X=>X=((b.rows.getD t default).take i).map (shE a.rows.length)) _ (fun F i X hi h=> .inr ?_) (fun F X h=>?_) N 0 [] (Nat.zero_le _) (by omega) rfl
 ·subst h
  refine⟨_,rfl,?_⟩
  have c:i<(b.rows.getD t default).length:=by omega
  have j:ix b.rows (t:Int)=b.rows.getD t default:=rfl
  have k:ix (b.rows.getD t default) (i:Int)=(b.rows.getD t default).getD i default:=rfl
  have o:((b.rows.getD t default).getD i default).to≤64:=by
   rcases d.edge t i g c with q|q<;>omega
  have htake:(b.rows.getD t default).take (i+1)=(b.rows.getD t default).take i++[(b.rows.getD t default).getD i default]:=z7x _ i c
  have f:(((b.rows.getD t default).take i).map (shE a.rows.length)).length=i:=by rw [List.length_map,List.length_take];omega
  have p: ∀ e:Edge,fits 16 (((b.rows.getD t default).take i).map (shE a.rows.length)) ([e]:List Edge):=fun e=>⟨by rw [f,List.length_singleton];omega,by rw [f,List.length_singleton];omega⟩
  simp only [gy]
  rw [uy (by omega),zk (qo g),j,zk (qo c),k]
  refine(qc (x:=(shE a.rows.length ((b.rows.getD t default).getD i default)).to) ?_).trans ?_
  ·unfold shE
   by_cases q:0≤((b.rows.getD t default).getD i default).to
   ·rw [uy q,zk (qm (by omega)),if_pos q]
   ·rw [uo q,if_neg q]
  ·rw [zk (p _),zk (qm (by omega)),htake,List.map_append];rfl
 ·subst h
  simp only [gy]
  rw [uo (by omega),List.take_of_length_le (by omega)]
theorem zp3(h:MOk a)(g:MOk b)(i:200≤N):z2e N a b=some (zat a b):=by
 have l:=h.r2;have m:=g.r2
 unfold z2e
 refine(qc (x:=a.rows) ?_).trans ?_
 ·refine uk (σ:=List (List Edge)) (fun F k X=>tq N a F (k:Int) X) a.rows.length (fun k X=>X=a.rows.take k) _ (fun F k X d c=> .inr ?_) (fun F X c=>?_) N 0 [] (Nat.zero_le _) (by omega) rfl
  ·subst c
   refine⟨_,rfl,?_⟩
   have f: ∀ e:List Edge,fits 24 (a.rows.take k) ([e]:List (List Edge)):=fun e=>⟨by rw [List.length_take,List.length_singleton];omega,by rw [List.length_take,List.length_singleton];omega⟩
   simp only [tq]
   rw [uy (by omega),zk (qo d),zk (f _),zk (qm (by omega)),z7x _ k d];rfl
  ·subst c
   simp only [tq]
   rw [uo (by omega),List.take_length]
 refine(qc (x:=(zat a b).rows) ?_).trans rfl
 refine uk (σ:=List (List Edge)) (fun F k X=>o8 N a b F (k:Int) X) b.rows.length (fun k X=>X=a.rows++(b.rows.take k).map fun r=>r.map (shE a.rows.length)) _ (fun F k X d c=> .inr ?_) (fun F X c=>?_) N 0 a.rows (Nat.zero_le _) (by omega) (by simp)
 ·subst c
  refine⟨_,rfl,?_⟩
  have j:(a.rows++(b.rows.take k).map fun r=>r.map (shE a.rows.length)).length≤128:=by rw [List.length_append,List.length_map,List.length_take];omega
  have f: ∀ e:List Edge,fits 24 (a.rows++(b.rows.take k).map fun r=>r.map (shE a.rows.length)) ([e]:List (List Edge)):=fun e=>⟨by rw [List.length_singleton];omega,by rw [List.length_singleton];omega⟩
  simp only [o8]
  rw [uy (by omega)]
  refine(qc (zza g i (by omega) d)).trans ?_
  rw [zk (f _),zk (qm (by omega)),z7x _ k d,List.map_append,←List.append_assoc];rfl
 ·subst c
  simp only [o8]
  rw [uo (by omega),List.take_length];rfl
end beside
section differ
variable {N : Nat} {a y : Mach}
theorem q1o{k s t:Nat}(a:s<y.rows.length)(b:t<y.rows.length):ix (ix (z4f y k) (s:Int)) (t:Int)=decide (pkc y k s≠pkc y k t)∧okI (z4f y k) (s:Int)∧okI (ix (z4f y k) (s:Int)) (t:Int):=by
 have e:ix (z4f y k) (s:Int)=z8o y k s:=zet a
 refine⟨?_,qo (by rw [zcp];exact a),by rw [e];exact qo (by rw [zbh];exact b)⟩
 rw [e,ak]
 unfold z8o
 exact z0i _ b
theorem zyl(f:MOk y)(o:200≤N){n:Nat}(c:a.rows.length=n)(d:n<y.rows.length): ∃ r,bg N a y N 0=some r∧((r=(y.rows.length:Int)∧ ∀ k,k<y.rows.length→pkc y k 0=pkc y k n)∨ ∃ k:Nat,r=(k:Int)∧k<y.rows.length∧pkc y k 0≠pkc y k n):=by
 have p:=f.r2
 refine fo (σ:=Unit) (fun F k _=>bg N a y F (k:Int)) y.rows.length (fun k _=> ∀ j,j<k→pkc y j 0=pkc y j n) _ (fun F k _ u hi=>?_) (fun F _ hi=>?_) N 0 () (Nat.zero_le _) (by omega) (fun j v=>by omega)
 ·obtain⟨g,i,l⟩:=q1o (y:=y) (k:=k) (s:=0) (t:=n) (by omega) d
  have m:ni N (⟨y.inputs,y.outputs,y.rows⟩:Mach) (k:Int)=some (z4f y k):=zjw f o (by omega)
  simp only [bg]
  have b:decide ((k:Int)<(y.rows.length:Int))=true:=decide_eq_true (by omega)
  rw [b]
  by_cases h:pkc y k 0=pkc y k n
  ·right
   refine⟨(),fun j v=>?_,?_⟩
   ·by_cases e:j=k
    ·subst e;exact h
    ·exact hi j (by omega)
   ·refine(zq6 rfl m).trans ?_
    refine(zk (fun _=>i)).trans ?_
    refine(zk (fun _=>by rw [c];exact l)).trans ?_
    rw [c]
    refine(ct (by rw [Option.getD_some,show ix (ix (z4f y k) 0) (n:Int)=_ from g,decide_eq_false (fun q=>q h)];rfl)).trans ?_
    exact zk (qm (by omega))
  ·left
   refine⟨(k:Int),?_,.inr ⟨k,rfl,u,h⟩⟩
   refine(zq6 rfl m).trans ?_
   refine(zk (fun _=>i)).trans ?_
   refine(zk (fun _=>by rw [c];exact l)).trans ?_
   rw [c]
   exact cf (by rw [Option.getD_some,show ix (ix (z4f y k) 0) (n:Int)=_ from g,decide_eq_true h];rfl)
 ·simp only [bg]
  have b:decide ((y.rows.length:Int)<(y.rows.length:Int))=false:=decide_eq_false (by omega)
  rw [b]
  refine⟨(y.rows.length:Int),?_,.inl ⟨rfl,hi⟩⟩
  refine(qc (x:=none) rfl).trans ?_
  refine(zk (fun e=>absurd e (by decide))).trans ?_
  refine(zk (fun e=>absurd e (by decide))).trans ?_
  exact cf rfl
theorem zxw(a:MOk y)(z:200≤N)(g: ∀ s i,s<y.rows.length→i<y.inputs.toNat→0≤ed y s i){k s t:Nat}{w:List Int}(b:s<y.rows.length)(d:t<y.rows.length)(A:w.length≤10000):
 ∃ r,bu N y (s:Int) (t:Int) w (z4f y k) N 0=some r∧ ∃ s' t':Nat,∃ w',r=Ex.go ((s':Int),(t':Int),w')∧s'<y.rows.length∧t'<y.rows.length∧w'.length≤w.length+1:=by
 have h:=a.i1;have j:=a.i2
 have l:=a.row s b;have m:=a.row t d
 refine fo (σ:=Unit) (fun F i _=>bu N y (s:Int) (t:Int) w (z4f y k) F (i:Int)) y.inputs.toNat (fun i _=>True) _ (fun F i _ hi _=>?_) (fun F _ _=>?_) N 0 () (Nat.zero_le _) (by omega) trivial
 ·have n:=g s i b hi;have o:=g t i d hi
  have B:ed y s i<y.rows.length:=by rcases z94 a b hi with q|q<;>omega
  have C:ed y t i<y.rows.length:=by rcases z94 a d hi with q|q<;>omega
  have e:ix y.rows (s:Int)=y.rows.getD s default:=rfl
  have f:ix y.rows (t:Int)=y.rows.getD t default:=rfl
  have p:(ix (y.rows.getD s default) (i:Int)).to=(((ed y s i).toNat:Nat):Int):=by rw [Int.toNat_of_nonneg n];rfl
  have u:(ix (y.rows.getD t default) (i:Int)).to=(((ed y t i).toNat:Nat):Int):=by rw [Int.toNat_of_nonneg o];rfl
  obtain⟨D,v,x⟩:=q1o (y:=y) (k:=k) (s:=(ed y s i).toNat) (t:=(ed y t i).toNat) (by omega) (by omega)
  have hfit:fits 8 w ([(i:Int)]:List Int):=zvn (by rw [List.length_singleton];omega)
  simp only [bu]
  rw [uy (by omega),zk (qo b),e,zk (qo (by omega)),zk (qo d),f,zk (qo (by omega)),p,u,zk (fun _=>v),zk (fun _=>x)]
  generalize ((decide (((ix (y.rows.getD s default) (i:Int)).out)≠((ix (y.rows.getD t default) (i:Int)).out)))||(((decide (0≤(((ed y s i).toNat:Nat):Int)))&&(decide (0≤(((ed y t i).toNat:Nat):Int))))&&(ix (ix (z4f y k) (((ed y s i).toNat:Nat):Int)) (((ed y t i).toNat:Nat):Int))))=c
  cases c
  ·right
   exact⟨(),trivial,(cf rfl).trans (zk (qm (by omega)))⟩
  ·left
   refine⟨_,(ct rfl).trans (zk hfit),(ed y s i).toNat,(ed y t i).toNat,w++[(i:Int)],rfl,by omega,by omega,by rw [List.length_append,List.length_singleton];omega⟩
 ·simp only [bu]
  rw [uo (by omega)]
  exact⟨_,rfl,s,t,w,rfl,b,d,by omega⟩
theorem zoj(a:MOk y)(b:200≤N)(c: ∀ s i,s<y.rows.length→i<y.inputs.toNat→0≤ed y s i): ∀ (n F s t:Nat) (w:List Int),n≤64→n<F→s<y.rows.length→t<y.rows.length→w.length+n≤10000→ ∃ v,o5 N y F (s:Int) (t:Int) (n:Int) w=some v
 |n,0,s,t,w,_,h,_,_,_=>by omega
 |0,F+1,s,t,w,_,_,_,_,_=>by
  simp only [o5]
  refine⟨w,(qc (x:=Ex.rt w) ?_).trans rfl⟩
  exact uo (by omega)
 |n+1,F+1,s,t,w,m,o,e,f,p=>by
  obtain⟨r,g,s',t',w',rfl,hs',ht',hw'⟩:=zxw (k:=n) (N:=N) a b c e f (w:=w) (by omega)
  obtain⟨v,j⟩:=zoj a b c n F s' t' w' (by omega) (by omega) hs' ht' (by omega)
  have d:((n+1:Nat):Int)-1=(n:Int):=by omega
  have l:ni N (⟨y.inputs,y.outputs,y.rows⟩:Mach) (n:Int)=some (z4f y n):=zjw a b (by omega)
  simp only [o5]
  refine⟨v,(qc (x:=Ex.go ((s':Int),(t':Int),w')) ?_).trans ?_⟩
  ·rw [uy (by omega),d,zk (qm (by omega)),qc l,zk (qm (by omega))]
   exact g
  ·refine Eq.trans zkt ?_
   rw [d];exact j
end differ
theorem zyd{N:Nat}{a b:Mach}(g:MOk a)(j:MOk b)(l:oo a=true)(m:oo b=true)(hi:b.inputs=a.inputs)(B:a.rows.length+b.rows.length≤64)(x:200≤N):
 ∃ v c,z2i N a b=some (v,c)∧(c=false↔ ∀ u,WOk a.inputs u→vv a 0 u=vv b 0 u):=by
 have f:=q5x g j hi B
 have H:=g.r1;have I:=j.r1
 have hlen:=zbv (a:=a) (b:=b)
 have C: ∀ s i,s<(zat a b).rows.length→i<(zat a b).inputs.toNat→0≤ed (zat a b) s i:=fun s i D z=>q15 g j l m hi D z
 have n: ∀ u,WOk a.inputs u→vv (zat a b) ((0:Nat):Int) u=vv a 0 u:=fun u d=>zt3 g l u (s:=0) ⟨by omega,by omega⟩ d
 have o: ∀ u,WOk a.inputs u→vv (zat a b) ((a.rows.length:Nat):Int) u=vv b 0 u:=fun u d=>by
  have:=zri (a:=a) j m u (t:=0) ⟨by omega,by omega⟩ (by rw [hi];exact d)
  rwa [Int.add_zero] at this
 unfold z2i
 obtain⟨r,A,p⟩:=zyl (N:=N) (a:=a) (y:=zat a b) f x rfl (by omega)
 rcases p with⟨rfl,p⟩|⟨k,rfl,J,p⟩
 ·refine⟨[],false,?_,iff_of_true rfl fun u d=>?_⟩
  ·refine(qc (zp3 g j x)).trans ?_
   refine(qc A).trans ?_
   exact uy rfl
  ·obtain⟨q,E,w,_⟩:=zqc f
   have e:=p q E
   have ec:cls (zat a b) 0=cls (zat a b) a.rows.length:=by
    unfold cls
    rw [z8a f w _ (by omega) 0 (by omega),z8a f w _ (by omega) a.rows.length (by omega),e]
   have:=(q4e f (by omega) (by omega)).1 ec u d
   rw [←n u d,←o u d];exact this
 ·have F:=f.r2
  obtain⟨v,G⟩:=zoj (N:=N) f x C k N 0 a.rows.length [] (by omega) (by omega) (by omega) (by omega) (by simp only [List.length_nil];omega)
  refine⟨v,true,?_,iff_of_false (by decide) fun h=>p ?_⟩
  ·refine(qc (zp3 g j x)).trans ?_
   refine(qc A).trans ?_
   refine(uo (by omega)).trans ?_
   exact qc G
  ·refine(zfp f k (by omega) (by omega)).2 fun u d _=>?_
   rw [n u d,o u d];exact h u d
end GV
end Go.Proofs.YtplgbkaollfmkaaGreat

namespace Go.Proofs.YtplgbkaollfmkaaGreat
namespace GV
set_option maxRecDepth 100000
structure ChOk (c:Sd):Prop where
 a:0≤c.fO∧c.fO≤255
 t:0≤c.fAd∧c.fAd≤255
 o:0≤c.fZ∧c.fZ≤255
structure Chg (m:Mach) (X:List (List Edge)):Prop where
 len:X.length=m.rows.length
 row: ∀ s,s<m.rows.length→((X.getD s default).length:Int)=m.inputs
 edge: ∀ s i,s<m.rows.length→i<m.inputs.toNat→0≤((X.getD s default).getD i default).to∧((X.getD s default).getD i default).to<m.rows.length∧0≤((X.getD s default).getD i default).out∧((X.getD s default).getD i default).out<m.outputs
section changed
variable {N : Nat} {m : Mach}
theorem q1y(a:MOk m)(c:oo m=true):Chg m m.rows:=by
 refine⟨rfl,a.row,fun s i b hi=>?_⟩
 have hrow:=a.row s b
 have d:=zjk a c b (i:=i) (by omega)
 rcases a.edge s i b (by omega) with h|h<;>omega
theorem Chg.up{X:List (List Edge)}(c:MOk m)(h:Chg m X){s i:Nat}{e:Edge}(k:s<m.rows.length)(hi:i<m.inputs.toNat)(d:0≤e.to∧e.to<m.rows.length∧0≤e.out∧e.out<m.outputs):Chg m (X.set s ((X.getD s default).set i e)):=by
 have f:=h.len
 have g:=c.i1
 refine⟨by rw [List.length_set];exact f,fun t a=>?_,fun t j a b=>?_⟩
 ·rw [z9k (by omega)]
  by_cases q:t=s
  ·subst q;rw [if_pos rfl,List.length_set];exact h.row t a
  ·rw [if_neg q];exact h.row t a
 ·rw [z9k (by omega)]
  by_cases q:t=s
  ·subst q
   have hrow:=h.row t a
   rw [if_pos rfl,z9k (by omega)]
   by_cases q2:j=i
   ·rw [if_pos q2];exact d
   ·rw [if_neg q2];exact h.edge t j a b
  ·rw [if_neg q];exact h.edge t j a b
theorem Chg.ok{X:List (List Edge)}(a:MOk m)(h:Chg m X):MOk (⟨m.inputs,m.outputs,X⟩:Mach)∧oo (⟨m.inputs,m.outputs,X⟩:Mach)=true:=by
 have e:=a.i1;have f:=a.r1;have g:=a.r2
 have j:=h.len
 have b:MOk (⟨m.inputs,m.outputs,X⟩:Mach):=⟨a.i1,a.i2,a.o1,a.o2,by dsimp only;omega,by dsimp only;omega,fun s c=>h.row s (by dsimp only at c;omega),fun s i c hi=>by
  dsimp only at c hi
  have hrow:=h.row s (by omega)
  have d:=h.edge s i (by omega) (by omega)
  exact .inr ⟨d.1,by dsimp only;omega,d.2.2.1,d.2.2.2⟩⟩
 refine⟨b,zus b fun s i c hi=>(h.edge s i (by dsimp only at c;omega) hi).1⟩
theorem zua(d:MOk m)(z:oo m=true)(U:200≤N){l:List Sd}(A: ∀ k,k<l.length→ChOk (l.getD k default)):
 ∃ o,z1l N m l=some o∧MOk o∧oo o=true∧o.inputs=m.inputs∧o.rows.length=m.rows.length:=by
 have B:=d.i1;have C:=d.i2;have D:=d.r1;have E:=d.r2;have G:=d.o1;have H:=d.o2
 obtain⟨hmul,b⟩:=d.mul
 have I:xq N m N 0 []=some m.rows:=by
  refine uk (σ:=List (List Edge)) (fun F k X=>xq N m F (k:Int) X) m.rows.length (fun k X=>X=m.rows.take k) _ (fun F k X i f=> .inr ?_) (fun F X f=>?_) N 0 [] (Nat.zero_le _) (by omega) rfl
  ·subst f
   refine⟨_,rfl,?_⟩
   have hrow:=d.row k i
   have g:ix m.rows (k:Int)=m.rows.getD k default:=rfl
   have j:fits 16 ([]:List Edge) (m.rows.getD k default):=⟨by rw [List.length_nil];omega,by rw [List.length_nil];omega⟩
   have n: ∀ e:List Edge,fits 24 (m.rows.take k) ([e]:List (List Edge)):=fun e=>⟨by rw [List.length_take,List.length_singleton];omega,by rw [List.length_take,List.length_singleton];omega⟩
   simp only [xq]
   rw [uy (by omega),zk (qo i),g,zk j,zk (n _),zk (qm (by omega)),List.nil_append,z7x _ k i];rfl
  ·subst f
   simp only [xq]
   rw [uo (by omega),List.take_length]
 obtain⟨X,J,y⟩: ∃ X,xw N m l N 0 m.rows=some X∧Chg m X:=by
  refine fo (σ:=List (List Edge)) (fun F k X=>xw N m l F (k:Int) X) (min l.length 4) (fun k X=>Chg m X) _ (fun F k X i f=> .inr ?_) (fun F X f=>?_) N 0 m.rows (Nat.zero_le _) (by omega) (q1y d z)
  ·have h:k<l.length:=by omega
   obtain⟨ca,ct',co⟩:=A k h
   have g:ix l (k:Int)=l.getD k default:=rfl
   generalize l.getD k default=c at ca ct' co g
   have K:0<m.rows.length*m.inputs.toNat:=Nat.mul_pos (by omega) (by omega)
   obtain⟨a,p⟩: ∃ q:Nat,c.fO=(q:Int):=⟨c.fO.toNat,by omega⟩
   have hatp:a%(m.rows.length*m.inputs.toNat)<m.rows.length*m.inputs.toNat:=Nat.mod_lt _ K
   have hI:m.inputs=((m.inputs.toNat:Nat):Int):=(Int.toNat_of_nonneg (by omega)).symm
   have L:c.fO%((m.rows.length:Int)*m.inputs)=((a%(m.rows.length*m.inputs.toNat):Nat):Int):=by rw [p,b];rfl
   have M:((a%(m.rows.length*m.inputs.toNat):Nat):Int)/m.inputs=(((a%(m.rows.length*m.inputs.toNat))/m.inputs.toNat:Nat):Int):=by
    conv=>lhs;rw [hI]
    rfl
   have O:((a%(m.rows.length*m.inputs.toNat):Nat):Int)%m.inputs=(((a%(m.rows.length*m.inputs.toNat))%m.inputs.toNat:Nat):Int):=by
    conv=>lhs;rw [hI]
    rfl
   have r:(a%(m.rows.length*m.inputs.toNat))/m.inputs.toNat<m.rows.length:=(Nat.div_lt_iff_lt_mul (by omega)).2 hatp
   have hi:(a%(m.rows.length*m.inputs.toNat))%m.inputs.toNat<m.inputs.toNat:=Nat.mod_lt _ (by omega)
   have s:=Int.emod_nonneg c.fAd (show (m.rows.length:Int)≠0 by omega)
   have t:=Int.emod_lt_of_pos c.fAd (show 0<(m.rows.length:Int) by omega)
   have u:=Int.emod_nonneg c.fZ (show m.outputs≠0 by omega)
   have v:=Int.emod_lt_of_pos c.fZ (show 0<m.outputs by omega)
   have hrow:=f.row _ r
   refine⟨_,f.up d r hi (e:=⟨c.fAd%(m.rows.length:Int),c.fZ%m.outputs⟩) ⟨s,t,u,v⟩,?_⟩
   have w:ix X (((a%(m.rows.length*m.inputs.toNat))/m.inputs.toNat:Nat):Int)=X.getD ((a%(m.rows.length*m.inputs.toNat))/m.inputs.toNat) default:=rfl
   have x:okI l (k:Int):=qo h
   have P:okI X (((a%(m.rows.length*m.inputs.toNat))/m.inputs.toNat:Nat):Int):=qo (by rw [f.len];exact r)
   have Q:okI (X.getD ((a%(m.rows.length*m.inputs.toNat))/m.inputs.toNat) default) (((a%(m.rows.length*m.inputs.toNat))%m.inputs.toNat:Nat):Int):=qo (by omega)
   simp only [xw]
   refine(ct (by rw [Bool.and_eq_true,decide_eq_true_iff,decide_eq_true_iff];omega)).trans ?_
   have R:in64 ((m.rows.length:Int)*m.inputs):=qm (by rw [b];omega)
   rw [zk x,g,zk (qm (by omega)),zk R,zk ⟨by omega,by rw [b];omega⟩,L,zk ⟨by omega,by omega⟩,M,zk P,zk ⟨by omega,by omega⟩,zk x,zk (qm (by omega)),zk ⟨by omega,by omega⟩,zk x,zk (qm (by omega)),zk ⟨by omega,by omega⟩,O,w,zk Q,zk (qm (by omega))]
   rfl
  ·simp only [xw]
   refine⟨X,cf (by rw [←Bool.not_eq_true,Bool.and_eq_true,decide_eq_true_iff,decide_eq_true_iff];omega),f⟩
 obtain⟨S,T⟩:=y.ok d
 refine⟨⟨m.inputs,m.outputs,X⟩,?_,S,T,rfl,y.len⟩
 unfold z1l
 refine(qc I).trans ?_
 exact qc J
end changed
theorem zmw{m o:Mach}{d w:List Int}(f:MOk m)(q:MOk o)(k:oo o=true)(M:d.length≤6)(C:m.rows.length≤6)(e:canI m d=0)(l:WOk m.inputs w)(r:w.length≤1024):z0d 2000 m o d w=some true:=by
 have n:=q1q f (by omega) e
 have D:=zzv l r
 have E:=zrx (N:=2000) f n.hc e (by omega) D (by decide)
 have hdup:zju m d=false:=by
  unfold canI at e
  by_cases h:properM m=0
  ·rw [if_neg (by omega),if_neg (by omega)] at e
   cases h2:d.any (zck m)
   ·rw [h2,if_neg Bool.false_ne_true,if_neg (by have:=n.hk;omega)] at e
    cases h3:zju m d
    ·rfl
    ·rw [h3,if_pos rfl] at e;omega
   ·rw [h2,if_pos rfl] at e;omega
  ·rw [if_pos h] at e;exact absurd e h
 have F:=f.i1;have G:=f.i2
 have z:(verR m d w).fB.length≤64:=Nat.le_trans zox (by omega)
 have A:(verR m d w).fE.length≤1024:=Nat.le_trans (zjf _) (Nat.le_trans (Nat.mul_le_mul (show m.rows.length≤64 by omega) (show m.inputs.toNat≤16 by omega)) (by decide))
 unfold z0d
 refine(qc E).trans ?_
 generalize hR:verR m d w=R at z A
 obtain⟨g,i,j⟩:=R
 dsimp only at z A
 have H:z1a 2000 ⟨g,i,j⟩=some (g&&decide ((i.length:Int)+(j.length:Int)=0)):=by
  unfold z1a
  exact zk (fun _=>qm (by dsimp only;omega))
 refine(zq6 rfl H).trans ?_
 by_cases hchk:(g&&decide ((i.length:Int)+(j.length:Int)=0))=true∧o.inputs=m.inputs∧o.rows.length≤m.rows.length
 ·obtain⟨s,p,I⟩:=hchk
  have c1':=s
  rw [Bool.and_eq_true,decide_eq_true_iff] at s
  have t:g=true:=s.1
  have x:i=[]:=List.length_eq_zero_iff.1 (by omega)
  have y:j=[]:=List.length_eq_zero_iff.1 (by omega)
  subst t;subst x;subst y
  have f1:decide (o.inputs≠m.inputs)=false:=decide_eq_false (fun h=>h p)
  have J:decide ((m.rows.length:Int)<(o.rows.length:Int))=false:=decide_eq_false (by omega)
  rw [f1,J]
  refine(cf rfl).trans ?_
  obtain⟨v,c,K,B⟩:=zyd (N:=2000) f q n.hc k p (by omega) (by decide)
  refine(qc K).trans ?_
  refine(qc (zrf (N:=2000) f l r (by decide))).trans ?_
  refine(qc (zrf (N:=2000) q (by rw [p];exact l) r (by decide))).trans ?_
  refine(qc (zt2 (N:=2000) (a:=vv m 0 w) (b:=vv o 0 w) (by rw [z2j];omega) (by rw [z2j];omega))).trans ?_
  refine congrArg some (decide_eq_true ?_)
  dsimp only
  cases c
  ·have:=B.1 rfl w l
   rw [decide_eq_true this];decide
  ·by_cases hs:vv m 0 w=vv o 0 w
   ·have:=B.2 fun u L=>zta f n.hc q k p I hdup l n.hd hR hs L
    exact absurd this (by decide)
   ·rw [decide_eq_false hs];decide
 ·have hcond:((((decide ((0:Int)≠0))||(!((some (g&&decide ((i.length:Int)+(j.length:Int)=0))).getD default)))||(decide (o.inputs≠m.inputs)))||(decide ((m.rows.length:Int)<(o.rows.length:Int))))=true:=by
   rw [Bool.or_eq_true,Bool.or_eq_true,Bool.or_eq_true,Option.getD_some]
   by_cases a1:(g&&decide ((i.length:Int)+(j.length:Int)=0))=true
   ·by_cases a2:o.inputs=m.inputs
    ·by_cases a3:o.rows.length≤m.rows.length
     ·exact absurd ⟨a1,a2,a3⟩ hchk
     ·exact .inr (decide_eq_true (by omega))
    ·exact .inl (.inr (decide_eq_true a2))
   ·rw [Bool.not_eq_true] at a1
    rw [a1];exact .inl (.inl (.inr rfl))
  refine(ct hcond).trans ?_
  rfl
theorem zsj{x:Sk}{y:Sa}{z:Sn}(E:CDOk x.fAi.fAb)(t: ∀ k,k<x.fAg.length→0≤x.fAg.getD k default∧x.fAg.getD k default≤255)
 (F:CDOk y) (G: ∀ k,k<z.fBg.length→ChOk (z.fBg.getD k default)) (hLess:0≤z.fK∧z.fK≤255) (H: ∀ k,k<z.fAh.length→0≤z.fAh.getD k default∧z.fAh.getD k default≤255):z0b 2000 x y z=some true:=by
 obtain⟨m,d,I,a,S,u,e,A⟩:=q7k E t
 have hi:=a.i1;have J:=a.i2;have T:=a.r2
 unfold z0b
 refine(qc I).trans ?_
 have K:=q3n (N:=2000) (d:=d) a.small (by omega) (by decide)
 refine(qc K).trans ?_
 by_cases h0:canI m d=0
 ·refine(uo (fun h=>h h0)).trans ?_
  have j:=q1q a (by omega) h0
  obtain⟨⟨U,V⟩,W⟩:=zyr a e A u
  have L:=j.lenW
  obtain⟨f,B⟩:=j.wfW
  have o:=zyi (N:=2000) j (by omega) (by decide)
  have p:=B.ok
  generalize zna m d=b at L o p
  refine(qc o).trans ?_
  have M:b.length≤600:=by omega
  refine(zk (qm (by omega))).trans ?_
  refine(zk (qm (by omega))).trans ?_
  refine(zk ⟨by omega,by omega,by omega⟩).trans ?_
  have hcut:cut b 0 ((b.length:Int)-(min z.fK (b.length:Int)))=b.take ((b.length:Int)-(min z.fK (b.length:Int))).toNat:=by unfold cut;rfl
  rw [hcut]
  have q:=zeg p ((b.length:Int)-(min z.fK (b.length:Int))).toNat
  have C:(b.take ((b.length:Int)-(min z.fK (b.length:Int))).toNat).length≤600:=by rw [List.length_take];omega
  generalize b.take ((b.length:Int)-(min z.fK (b.length:Int))).toNat=c at q C
  refine(zk (zvn (by simp only [List.length_nil];omega))).trans ?_
  have hword:=zvt (N:=2000) (most:=30) H hi J (by decide) (by decide)
  have r:=zzw (w:=z.fAh.take 30) hi
  have D:=q8h (l:=z.fAh) (n:=m.inputs) (k:=30)
  generalize wdL (z.fAh.take 30) m.inputs=v at hword r D
  refine(qc hword).trans ?_
  refine(zk (zvn (by simp only [List.nil_append];omega))).trans ?_
  have g:WOk m.inputs ((([]:List Int)++c)++v):=zaw (by rw [List.nil_append];exact q) r
  have i:((([]:List Int)++c)++v).length≤1024:=by simp only [List.nil_append,List.length_append];omega
  generalize (([]:List Int)++c)++v=w at g i
  obtain⟨X,O,s⟩:=q60 (N:=2000) F (by decide)
  refine(qc O).trans ?_
  refine(qc (zmw a s.ok s.compl (by omega) e h0 g i)).trans ?_
  obtain⟨Y,P,Q,R,Z,k4⟩:=zua (N:=2000) a j.hc (by decide) G
  refine(zq6 rfl P).trans ?_
  refine(zq6 rfl (zmw a Q R (by omega) e h0 g i)).trans ?_
  refine(zq6 rfl (zmw a a j.hc (by omega) e h0 g i)).trans ?_
  refine(zq6 rfl zn2).trans ?_
  rfl
 ·refine(uy h0).trans ?_
  exact qc zn2
end GV
end Go.Proofs.YtplgbkaollfmkaaGreat
