
import Derived.Test.YtkcccdcloealfaaGreatSpec09e
import Derived.Test.YtkcccdcloealfaaGreatLives09
import Derived.Test.YtkcccdcloealfaaGreatSpec06m
set_option linter.unusedVariables false
set_option linter.unusedSimpArgs false
namespace Go.Proofs.YtkcccdcloealfaaGreat
namespace GV
set_option maxRecDepth 100000
theorem zq2{x:MDat}{y:WDat}(d:MDOk x)(f:WDOk y):su 2000 x y=some true:=by
 have a:=zj0 d
 obtain⟨g,h⟩:=q1c d
 obtain⟨b,i⟩:=zt8 (x:=y) (n:=(mOf x).inputs) a.i1
 unfold su
 rw [zx (zj3 d (by decide)),zx (ztz f a.i1 (by decide))]
 generalize wOf y (mOf x).inputs=w at*
 generalize mOf x=m at*
 have c:=zav a
 have j:z2x (l7 m) 0 w=z2x m 0 w:=(zrd a).2.2 w b
 refine(zx (show wz 2000 m=_ from zam a (by decide))).trans ?_
 refine(zx (show o9 2000 m=_ from zpg a (by decide) g h)).trans ?_
 refine(zx (show xq 2000 (l7 m) 0 (l7 m)=_ from zgg c.small (by decide))).trans ?_
 refine(zbd rfl (show yg 2000 (l7 m) 0 w=_ from zfb c (zx4 c) b (by omega) (by omega))).trans ?_
 refine(zbd rfl (show yg 2000 m 0 w=_ from zfb a (zx4 a) b (by omega) (by omega))).trans ?_
 have e:(z2x (l7 m) 0 w).length=w.length:=z4m _ _ _
 refine(zbd rfl (show ay 2000 (z2x (l7 m) 0 w) (z2x m 0 w)=_ from zhp (by rw [e];omega) (by rw [e];omega))).trans ?_
 refine(cf (by rw [j,decide_eq_true rfl];rfl)).trans ?_
 refine(zx (show wz 2000 (l7 m)=_ from zam c (by decide))).trans ?_
 refine(zx (show xy 2000 (l7 m)=_ from zlm c (by decide))).trans ?_
 rw [zvj a,zyh a]
 refine(zx (show xq 2000 (l7 m) 0 (l7 m)=_ from zgg c.small (by decide))).trans ?_
 refine(zbd rfl z6h).trans ?_
 rfl
theorem q5u{m:Mach}(b:MOk m)(o:m.rows.length≤6){w:List Int}(a:WOk m.inputs w)(h:w.length≤12):vo 2000 m w (z7t m,0) (l7 m) 2000 0=some (Ex.go ()):=by
 have i:=zc7 (m:=m)
 have j:=zav b
 refine ui (σ:=Unit) (fun F k _=>vo 2000 m w (z7t m,0) (l7 m) F (k:Int)) m.rows.length (fun k _=>True) _ (fun F k _ e _=> .inr ⟨(),trivial,?_⟩) (fun F _ _=>?_) 2000 0 () (Nat.zero_le _) (by omega) trivial
 ·simp only [vo]
  have l:ix (z7t m) (k:Int)=z9x m k:=z8c e
  rw [l]
  refine(yf (by omega)).trans ?_
  refine(zk (qo (by omega))).trans ?_
  refine(zk (fun _=>qo (by omega))).trans ?_
  cases ho:occ (rch m 0) k
  ·have c:=zvf ho
   rw [c]
   refine(zx (zvd rfl)).trans ?_
   refine(zx (zvd rfl)).trans ?_
   refine(zx (zvd rfl)).trans ?_
   refine(cf rfl).trans ?_
   exact zk (qy (by omega))
  ·obtain⟨f,n⟩:=zv2 b ho
   have hrun:=q07 b e ho a
   have d:(true&&(decide (0≤z9x m k)==true))=true:=by rw [decide_eq_true f];rfl
   have g:(z2x (l7 m) (z9x m k) w).length=w.length:=z4m _ _ _
   refine(zbd d (show yg 2000 (l7 m) (z9x m k) w=_ from zfb j (.inr ⟨f,n⟩) a (by omega) (by omega))).trans ?_
   refine(zbd d (show yg 2000 m (k:Int) w=_ from zfb b (.inr ⟨by omega,by omega⟩) a (by omega) (by omega))).trans ?_
   refine(zbd d (show ay 2000 (z2x (l7 m) (z9x m k) w) (z2x m (k:Int) w)=_ from zhp (by rw [g];omega) (by rw [g];omega))).trans ?_
   refine(cf (by rw [hrun,decide_eq_true rfl];simp)).trans ?_
   exact zk (qy (by omega))
 ·simp only [vo]
  exact uw (by omega)
theorem q2u{x:MDat}{y:WDat}(b:MDOk x)(j:WDOk y):z08 2000 x y=some true:=by
 have a:=zj0 b
 obtain⟨c,i⟩:=q1c b
 obtain⟨d,e⟩:=zt8 (x:=y) (n:=(mOf x).inputs) a.i1
 unfold z08
 rw [zx (zj3 b (by decide)),zx (ztz j a.i1 (by decide))]
 generalize wOf y (mOf x).inputs=w at*
 generalize mOf x=m at*
 have f:=zc7 (m:=m)
 have k:=a.r1
 have g:ix (z7t m) 0=0:=(z8c (s:=0) (by omega)).trans (zn3 a)
 refine(zx (show z1a 2000 m=_ from q2f a (by decide))).trans ?_
 refine(zx (show o9 2000 m=_ from zpg a (by decide) c i)).trans ?_
 refine(zx (show z1d 2000 m=_ from zux a (by decide) c i)).trans ?_
 refine(zx (show z0t 2000 (z7t m) 0 (z7t m) 0=some true from(q2a (by omega) (by omega)).trans (by rw [decide_eq_true rfl,decide_eq_true rfl];rfl))).trans ?_
 refine(zk (fun _=>⟨by omega,by dsimp only;omega⟩)).trans ?_
 refine(cf (by dsimp only;rw [g];rfl)).trans ?_
 refine(zx (q5u a c d e)).trans ?_
 rw [zir]
 have hconn:dx 2000 m=some (connB m):=zkj a (by decide)
 cases hc:connB m
 ·obtain⟨t,l,o⟩:=zz5 a hc
  have hbad:uj 2000 m (l7 m) (z7t m)=some (false,1):=by
   refine zvo a (zav a) (by decide) (by omega) ?_ (by decide)
   rw [if_neg (fun h=>h rfl),if_neg (fun h=>h f),if_pos]
   refine List.any_eq_true.2 ⟨-1,?_,by simp⟩
   have:(z7t m).getD t default= -1:=by rw [z8c l,zvf o]
   rw [←this]
   exact z1t (by omega)
  refine(zx hbad).trans ?_
  rw [hc] at hconn
  refine(zx hconn).trans ?_
  refine(cf rfl).trans ?_
  refine(zbd rfl z6h).trans ?_
  rfl
 ·have hgood:uj 2000 m (l7 m) (z7t m)=some (true,0):=by
   rw [zsp (zvm a hc) (by decide),q3w a hc]
  refine(zx hgood).trans ?_
  rw [hc] at hconn
  refine(zx hconn).trans ?_
  refine(ct rfl).trans ?_
  refine(zbd rfl z6h).trans ?_
  rfl
/-! ### Proper-/
theorem zsy{m:Mach}(h:CMach m):connB m=true:=zk1 (fun t a=>z1m.2 (h.all t a)) h.ok
theorem zyj{m:Mach}(h:CMach m):properM m≠9∧properM m≠11:=by
 unfold properM
 rw [if_neg (by rw [(z2y m).2 h.ok];simp),h.compl,if_neg (by decide),zsy h,if_neg (by decide)]
 split<;>decide
theorem zzn{m:Mach}(k:Nat):max (cntF (cls m) k:Int) ((cls m k:Int)+1)=(cntF (cls m) (k+1):Int):=by
 by_cases hk:1≤k
 ·have:=zuz (m:=m) hk
  omega
 ·obtain rfl:k=0:=by omega
  rw [ze2,zuu];rfl
theorem zwt{m:Mach}(c:MOk m):uo 2000 (z1k m) 2000 0 0=some (cntF (cls m) m.rows.length:Int):=by
 have d:(z1k m).length=m.rows.length:=z6v
 have e:=c.r2
 refine ui (σ:=Int) (fun F k st=>uo 2000 (z1k m) F st (k:Int)) m.rows.length (fun k st=>st=(cntF (cls m) k:Int)) _ (fun F k st b a=> .inr ?_) (fun F st a=>?_) 2000 0 0 (Nat.zero_le _) (by omega) rfl
 ·subst a
  refine⟨_,rfl,?_⟩
  simp only [uo]
  have f:ix (z1k m) (k:Int)=((cls m k:Nat):Int):=z6t b
  have g:=zcx (m:=m) b
  have h:=z9d (cls m) m.rows.length
  rw [yf (by omega),zk (qo (by omega)),f,zk (qy (by omega)),zk (qy (by omega)),zzn]
  rfl
 ·subst a
  simp only [uo]
  rw [uw (by omega)]
theorem ztj{x:MDat}{y:Sc}(g:MDOk x)(i:CDOk y):fe 2000 x y=some true:=by
 have b:=zj0 g
 unfold fe
 rw [zx (zj3 g (by decide))]
 obtain⟨c,j,a⟩:=q6f (N:=2000) i (by decide)
 rw [zx j]
 generalize mOf x=m at*
 have d:(z1k m).length=m.rows.length:=z6v
 obtain⟨k,e⟩:=zyj a
 refine(zx (show o8 2000 m=_ from zbg b (by decide))).trans ?_
 refine(zx (zwt b)).trans ?_
 refine(zx (show xy 2000 m=_ from zlm b (by decide))).trans ?_
 refine(zx (show yx 2000 m=_ from zce b.small (by decide))).trans ?_
 refine(zx (show mg 2000 m=_ from zgi b.small (by decide))).trans ?_
 have l:decide (properM m=properM m)=true:=decide_eq_true rfl
 have q:decide (properM c=properM c)=true:=decide_eq_true rfl
 rw [l]
 refine(zbd rfl (show yx 2000 c=_ from zce a.ok.small (by decide))).trans ?_
 refine(zbd rfl (show mg 2000 c=_ from zgi a.ok.small (by decide))).trans ?_
 have n:decide (((some (properM c)).getD default)=((some (properM c)).getD default))=true:=decide_eq_true rfl
 have o:decide (((some (properM c)).getD default)≠9)=true:=decide_eq_true k
 have f:decide (((some (properM c)).getD default)≠11)=true:=decide_eq_true e
 rw [n]
 refine(zbd rfl (show yx 2000 c=_ from zce a.ok.small (by decide))).trans ?_
 rw [o]
 refine(zbd rfl (show yx 2000 c=_ from zce a.ok.small (by decide))).trans ?_
 rw [f]
 refine(zbd rfl (show dx 2000 m=_ from zkj b (by decide))).trans ?_
 have p:decide ((minB m,(0:Int)).1=(((some (connB m)).getD default)&&decide ((cntF (cls m) m.rows.length:Int)=((z1k m).length:Int))))=true:=by
  refine decide_eq_true ?_
  rw [d]
  show (connB m&&zhw m)=(connB m&&_)
  congr 1
  unfold zhw
  by_cases h:cntF (cls m) m.rows.length=m.rows.length
  ·rw [decide_eq_true h,decide_eq_true (by omega)]
  ·rw [decide_eq_false h,decide_eq_false (by omega)]
 rw [p]
 refine(zbd rfl z6h).trans ?_
 rfl
/-! ### K-/
theorem q74{x:Sd}(e:CDOk x.fJ):z0q 2000 x=some true:=by
 have j:=e.st
 have hx':CDOk ⟨x.fJ.fD%5,x.fJ.fA,x.fJ.fB,x.fJ.fE,x.fJ.fG⟩:=⟨⟨by dsimp only;omega,by dsimp only;omega⟩,e.ins,e.outs,e.tr,e.ed⟩
 obtain⟨c,k,a,l⟩:=zvp (N:=2000) hx' (by decide)
 dsimp only at l
 have b:=a.ok
 have m:=q02 b
 have n:z3y 2000 x=some (l7 c):=by
  unfold z3y
  rw [zk ⟨by omega,by omega⟩,zx k,zx (zpg b (by decide) a.rows a.ins)]
 have d:=zav b
 have g:properM (l7 c)=0:=by
  unfold properM
  have f:z8z (l7 c)=true:=zxk b fun s i h hi=>a.full s i h (by have:=b.row s h;omega)
  rw [if_neg (by rw [(z2y _).2 d];simp),f,if_neg (by decide),zrw b,if_neg (by decide),zqn d (zv8 b),if_neg (by decide)]
 unfold z0q
 rw [zx n]
 refine(zx (show wz 2000 (l7 c)=_ from zam d (by decide))).trans ?_
 refine(zx (show yx 2000 (l7 c)=_ from zce d.small (by decide))).trans ?_
 rw [g,zvj b]
 refine(zbd rfl (show mg 2000 (l7 c)=some 0 from(zgi d.small (by decide)).trans (by rw [g]))).trans ?_
 have o:decide (((l7 c).rows.length:Int)≤5)=true:=decide_eq_true (by omega)
 rw [o]
 refine(zbd rfl (show xq 2000 (l7 c) 0 (l7 c)=_ from zgg d.small (by decide))).trans ?_
 refine(zbd rfl z6h).trans ?_
 rfl
end GV
end Go.Proofs.YtkcccdcloealfaaGreat

namespace Go.Proofs.YtkcccdcloealfaaGreat
namespace GV
set_option maxRecDepth 100000
/-! ### Homomorphic-/
theorem q63{a b:Mach}{f:List Int}(h:HOk a b f)(g:zhm a b f=true):Hom a b fun s=>(f.getD s default).toNat:=by
 have r:=h.hl
 obtain⟨_,d⟩:=zy6 h g
 refine⟨h.ha,h.hb,h.hi.symm,fun s c=>?_,fun s i c hi=>(d s i c hi).1.symm,fun s i c hi=>?_⟩
 ·have:=h.hr s (by omega)
  omega
 ·have j:=h.hi
  have k:=h.hr s (by omega)
  have l:=(ze7 h.ha c hi).1
  have m:=(ze7 h.hb (s:=(f.getD s default).toNat) (i:=i) (by omega) (by omega)).1
  obtain⟨n,o⟩:=d s i c hi
  unfold hI
  rcases z4r h.ha c hi with e|⟨p,t⟩
  ·rw [if_pos e];exact m.2 (by rw [←n];exact l.1 e)
  ·have q:=h.hr (ed a s i).toNat (by omega)
   rw [if_neg (by omega),←o p]
   exact(Int.toNat_of_nonneg q.1).symm
def zi7(b:Mach)(t:Int):Bool:=decide (t<0)||decide ((b.rows.length:Int)≤t)
theorem zng{b:Mach}{f:List Int}(g:f.length≤80){e:Int}:kg 2000 f b 2000 e 0=some (if e≠0 then e else if f.any (zi7 b)=true then 1 else 0):=by
 by_cases he:e≠0
 ·rw [if_pos he]
  have hgen: ∀ F,kg 2000 f b (F+1) e 0=some e:=fun F=>by
   simp only [kg]
   exact cf (by rw [decide_eq_false he,Bool.and_false])
  exact hgen 1999
 ·rw [if_neg he]
  obtain rfl:e=0:=by omega
  refine ui (σ:=Int) (fun F k st=>kg 2000 f b F st (k:Int)) f.length (fun k st=>st=if(f.take k).any (zi7 b)=true then 1 else 0) _ (fun F k st a c=>?_) (fun F st c=>?_) 2000 0 0 (Nat.zero_le _) (by omega) (by simp)
  ·subst c
   simp only [kg]
   cases hb:(f.take k).any (zi7 b)
   ·right
    refine⟨_,rfl,?_⟩
    rw [if_neg (by decide)]
    refine(ct (by rw [decide_eq_true (show (k:Int)<f.length by omega)];rfl)).trans ?_
    refine(zx (x:=if(f.take (k+1)).any (zi7 b)=true then 1 else 0) ?_).trans ?_
    ·rw [zk (qo a),zk (fun _=>qo a),z9o (zi7 b) f k a,hb,Bool.false_or]
     have:ix f (k:Int)=f.getD k default:=rfl
     rw [this]
     show (bif zi7 b (f.getD k default) then some 1 else some 0)=_
     cases zi7 b (f.getD k default)<;>rfl
    ·exact zk (qy (by omega))
   ·left
    rw [if_pos rfl]
    refine(cf (by rw [show decide ((1:Int)=0)=false from rfl,Bool.and_false])).trans ?_
    rw [if_pos]
    obtain⟨z,d,hb'⟩:=List.any_eq_true.1 hb
    exact List.any_eq_true.2 ⟨z,List.mem_of_mem_take d,hb'⟩
  ·subst c
   simp only [kg]
   rw [List.take_length]
   exact cf (by rw [decide_eq_false (by omega)];rfl)
theorem zjs{x:MDat×MDat}{f:List Int}{y:WDat}(u:MDOk x.1)(v:MDOk x.2)(A:WDOk y):mr 2000 x f y=some true:=by
 unfold mr
 by_cases h80:(80:Int)<f.length
 ·exact yf h80
 refine(uw h80).trans ?_
 have o:=zj0 u
 have p:=zj0 v
 rw [zx (zj3 u (by decide)),zx (zj3 v (by decide))]
 obtain⟨l,B⟩:=zt8 (x:=y) (n:=(mOf x.1).inputs) o.i1
 have hwof:=ztz (N:=2000) A o.i1 (by decide)
 generalize wOf y (mOf x.1).inputs=w at*
 generalize mOf x.1=a at*
 generalize mOf x.2=b at*
 have j:(bif decide (a.inputs≠b.inputs) then some (5:Int) else bif decide ((f.length:Int)≠(a.rows.length:Int)) then some 16 else some 0)=some (if a.inputs≠b.inputs then 5 else if f.length≠a.rows.length then 16 else 0):=by
  by_cases d:a.inputs≠b.inputs
  ·rw [yf d,if_pos d]
  ·rw [uw d,if_neg d]
   by_cases g:f.length≠a.rows.length
   ·rw [yf (by omega),if_pos g]
   ·rw [uw (by omega),if_neg g]
 by_cases he:(if(if a.inputs≠b.inputs then(5:Int) else if f.length≠a.rows.length then 16 else 0)≠0 then(if a.inputs≠b.inputs then(5:Int) else if f.length≠a.rows.length then 16 else 0) else if f.any (zi7 b)=true then 1 else 0)≠0
 ·have hbad:uj 2000 a b f=some (false,_):=zvo o p (by decide) (by omega) (e:=if(if a.inputs≠b.inputs then(5:Int) else if f.length≠a.rows.length then 16 else 0)≠0 then(if a.inputs≠b.inputs then(5:Int) else if f.length≠a.rows.length then 16 else 0) else if f.any (zi7 b)=true then 1 else 0) (by
   by_cases d:a.inputs≠b.inputs
   ·rw [if_pos d,if_pos d,if_pos (by decide)]
   ·rw [if_neg d,if_neg d]
    by_cases g:f.length≠a.rows.length
    ·rw [if_pos g,if_pos g,if_pos (by decide)]
    ·rw [if_neg g,if_neg g,if_neg (by decide)];rfl) he
  refine(zx hbad).trans ?_
  refine(zx j).trans ?_
  refine(zx (zng (by omega))).trans ?_
  refine(yf he).trans ?_
  refine(zbd (by simp) z6h).trans ?_
  simp
 ·have hi:a.inputs=b.inputs:=Decidable.byContradiction fun d=>he (by rw [if_pos (c:=a.inputs≠b.inputs) d,if_pos (by decide)];decide)
  have z:f.length=a.rows.length:=Decidable.byContradiction fun g=>he (by rw [if_neg (c:=a.inputs≠b.inputs) (fun h=>h hi),if_pos (c:=f.length≠a.rows.length) g,if_pos (by decide)];decide)
  have hany:f.any (zi7 b)=false:=by
   cases m:f.any (zi7 b)
   ·rfl
   ·exact absurd (by rw [if_neg (c:=a.inputs≠b.inputs) (fun h=>h hi),if_neg (c:=f.length≠a.rows.length) (fun h=>h z),if_neg (c:=(0:Int)≠0) (by decide),if_pos (c:=f.any (zi7 b)=true) m];decide) he
  have i:HOk a b f:=⟨o,p,hi,z,fun k m=>by
   have:=(ze0 _ _).1 hany k m
   unfold zi7 at this
   rw [Bool.or_eq_false_iff] at this
   have E:=of_decide_eq_false this.1
   have G:=of_decide_eq_false this.2
   omega⟩
  refine(zx (zsp (N:=2000) i (by decide))).trans ?_
  refine(zx j).trans ?_
  refine(zx (zng (by omega))).trans ?_
  refine(uw he).trans ?_
  refine(zbd rfl (q2n (N:=2000) i (by decide))).trans ?_
  refine(cf (by cases zhm a b f<;>rfl)).trans ?_
  refine(zx hwof).trans ?_
  have q:ko 2000 f a b (zhm a b f,0) w 2000 0=some (Ex.go ()):=by
   cases hB:zhm a b f
   ·have hgen: ∀ F,ko 2000 f a b (false,0) w (F+1) 0=some (Ex.go ()):=fun F=>by
     simp only [ko]
     exact cf (by rw [Bool.and_false])
    exact hgen 1999
   ·have C:=q63 i hB
    refine ui (σ:=Unit) (fun F k _=>ko 2000 f a b (true,0) w F (k:Int)) f.length (fun k _=>True) _ (fun F k _ m _=> .inr ⟨(),trivial,?_⟩) (fun F _ _=>?_) 2000 0 () (Nat.zero_le _) (by omega) trivial
    ·simp only [ko]
     have r:ix f (k:Int)=f.getD k default:=rfl
     have t:=i.hr k m
     refine(ct (by rw [decide_eq_true (show (k:Int)<f.length by omega)];rfl)).trans ?_
     refine(zx (show yg 2000 a (k:Int) w=_ from zfb o (.inr ⟨by omega,by omega⟩) l (by omega) (by omega))).trans ?_
     refine(zk (qo m)).trans ?_
     rw [r]
     refine(zx (show yg 2000 b (f.getD k default) w=_ from zfb p (.inr ⟨t.1,by omega⟩) (by rw [←hi];exact l) (by omega) (by omega))).trans ?_
     have hlen:(z2x a (k:Int) w).length=w.length:=z4m _ _ _
     refine(zx (zhp (N:=2000) (by rw [hlen];omega) (by rw [hlen];omega))).trans ?_
     have hrun:=(C.run w (s:=k) (by omega) l).1
     have D:(((f.getD k default).toNat:Nat):Int)=f.getD k default:=by omega
     rw [D] at hrun
     refine(cf (by rw [hrun,decide_eq_true rfl];rfl)).trans ?_
     exact zk (qy (by omega))
    ·simp only [ko]
     exact cf (by rw [decide_eq_false (by omega)];rfl)
  refine(zx q).trans ?_
  rw [zir,zx z6h]
end GV
end Go.Proofs.YtkcccdcloealfaaGreat

namespace Go.Proofs.YtkcccdcloealfaaGreat
namespace GV
set_option maxRecDepth 100000
def zgt(m:Mach)(l:List Int)(s i:Nat):Int:=if(0≤ed m (s%m.rows.length) i∧s*m.inputs.toNat+i<l.length)∧l.getD (s*m.inputs.toNat+i) default%2=1 then ed m (s%m.rows.length) i+(m.rows.length:Int) else ed m (s%m.rows.length) i
def zm3(m:Mach)(l:List Int)(s:Nat):List Edge:=(List.range m.inputs.toNat).map fun i=>⟨zgt m l s i,ou m (s%m.rows.length) i⟩
def twM(m:Mach)(l:List Int):Mach:=⟨m.inputs,m.outputs,(List.range (2*m.rows.length)).map (zm3 m l)⟩
section
variable {m : Mach} {l : List Int}
theorem zpf:(twM m l).rows.length=2*m.rows.length:=by simp [twM]
theorem ztg{s:Nat}(a:s<2*m.rows.length):(twM m l).rows.getD s default=zm3 m l s:=ae _ a
theorem zyo{s i:Nat}(a:s<2*m.rows.length)(hi:i<m.inputs.toNat):((twM m l).rows.getD s default).getD i default=⟨zgt m l s i,ou m (s%m.rows.length) i⟩:=by
 rw [ztg a];exact ae _ hi
theorem q4q(a:MOk m){s i:Nat}(hi:i<m.inputs.toNat):zgt m l s i= -1∧ed m (s%m.rows.length) i= -1∨ ∃ t:Nat,ed m (s%m.rows.length) i=t∧t<m.rows.length∧(zgt m l s i=(t:Int)∨zgt m l s i=((t+m.rows.length:Nat):Int)):=by
 have c:=a.r1
 rcases z4r a (Nat.mod_lt s (show 0<m.rows.length by omega)) hi with e|⟨d,f⟩
 ·left
  refine⟨?_,e⟩
  unfold zgt
  rw [if_neg (fun h=>by omega)];exact e
 ·right
  obtain⟨t,b⟩:=Int.eq_ofNat_of_zero_le d
  refine⟨t,b,by omega,?_⟩
  unfold zgt
  by_cases h:(0≤ed m (s%m.rows.length) i∧s*m.inputs.toNat+i<l.length)∧l.getD (s*m.inputs.toNat+i) default%2=1
  ·rw [if_pos h];right;omega
  ·rw [if_neg h];left;exact b
theorem zvc(a:MOk m)(k:m.rows.length≤6):MOk (twM m l):=by
 have h:=a.r1
 have f:=zpf (m:=m) (l:=l)
 refine⟨a.i1,a.i2,a.o1,a.o2,by omega,by omega,fun s b=>?_,fun s i b hi=>?_⟩
 ·rw [f] at b
  rw [ztg b]
  have:=a.i1
  show ((zm3 m l s).length:Int)=m.inputs
  unfold zm3
  rw [List.length_map,List.length_range];omega
 ·rw [f] at b
  have hi':i<m.inputs.toNat:=by rw [ztg b] at hi;unfold zm3 at hi;simpa using hi
  rw [zyo b hi']
  have e:=Nat.mod_lt s (show 0<m.rows.length by omega)
  have hrow:=a.row _ e
  have c:=a.edge _ i e (by omega)
  have n:ou m (s%m.rows.length) i=((m.rows.getD (s%m.rows.length) default).getD i default).out:=rfl
  have o:ed m (s%m.rows.length) i=((m.rows.getD (s%m.rows.length) default).getD i default).to:=rfl
  rcases q4q (l:=l) a (s:=s) hi' with⟨g,j⟩|⟨t,g,j,d⟩
  ·left
   rcases c with c|c
   ·exact⟨g,by show ou m (s%m.rows.length) i= -1;omega⟩
   ·omega
  ·right
   rcases c with c|c
   ·omega
   ·refine⟨?_,?_,by show 0≤ou m (s%m.rows.length) i;omega,by show ou m (s%m.rows.length) i<m.outputs;omega⟩
    ·show 0≤zgt m l s i;rcases d with d|d<;>omega
    ·show zgt m l s i<((twM m l).rows.length:Int);rw [f];rcases d with d|d<;>omega
theorem q4i{s i:Nat}(a:s<2*m.rows.length)(hi:i<m.inputs.toNat):ed (twM m l) s i=zgt m l s i∧ou (twM m l) s i=ou m (s%m.rows.length) i:=by
 have h:=zyo (l:=l) a hi
 constructor
 ·show (((twM m l).rows.getD s default).getD i default).to=_;rw [h]
 ·show (((twM m l).rows.getD s default).getD i default).out=_;rw [h]
theorem q0l(a:MOk m)(f:m.rows.length≤6):Hom (twM m l) m (· %m.rows.length):=by
 have g:=a.r1
 have h:=zpf (m:=m) (l:=l)
 refine⟨zvc a f,a,rfl,fun s e=>Nat.mod_lt s (by omega),fun s i e hi=>?_,fun s i e hi=>?_⟩
 ·rw [(q4i (m:=m) (by omega) (show i<m.inputs.toNat from hi)).2]
 ·rw [(q4i (m:=m) (by omega) (show i<m.inputs.toNat from hi)).1]
  rcases q4q (l:=l) a (s:=s) hi with⟨b,c⟩|⟨t,b,c,d|d⟩
  ·rw [b,c,zim]
  ·rw [b,d,z81,Nat.mod_eq_of_lt c]
  ·rw [b,d,z81,Nat.add_mod_right,Nat.mod_eq_of_lt c]
theorem q2s(a:MOk m)(b:m.rows.length≤6):SameR (twM m l) m:=⟨rfl,rfl,fun w c=>by
 have d:=a.r1
 have e:=zpf (m:=m) (l:=l)
 have:=((q0l (l:=l) a b).run w (s:=0) (by omega) c).1
 rw [Nat.zero_mod] at this
 exact this.symm⟩
theorem q69(a:MOk m)(b:m.rows.length≤6):l7 (twM m l)=l7 m:=zqh (zvc a b) a (q2s a b)
theorem zvt(s n:Nat):(s:Int)%(n:Int)=((s%n:Nat):Int):=(Int.natCast_emod s n).symm
theorem q3c(b:MOk m)(q:m.rows.length≤6)(r:m.inputs≤3)(g: ∀ k,k<l.length→0≤l.getD k default){s:Nat}(t:s<2*m.rows.length):um 2000 l m (s:Int) 2000 [] 0=some (zm3 m l s):=by
 have j:=b.r1;have hi1:=b.i1
 have a:=Nat.mod_lt s (show 0<m.rows.length by omega)
 have hrow:=b.row _ a
 have hmul:(s:Int)*m.inputs=((s*m.inputs.toNat:Nat):Int):=by rw [Int.natCast_mul,Int.toNat_of_nonneg (by omega)]
 have hmle:s*m.inputs.toNat≤12*3:=Nat.mul_le_mul (by omega) (by omega)
 refine ui (σ:=List Edge) (fun F k st=>um 2000 l m (s:Int) F st (k:Int)) m.inputs.toNat
  (fun k st=>st=(List.range k).map fun i=>(⟨zgt m l s i,ou m (s%m.rows.length) i⟩:Edge)) _ (fun F k st n c=> .inr ?_) (fun F st c=>?_) 2000 0 [] (Nat.zero_le _) (by omega) rfl
 ·subst c
  refine⟨_,rfl,?_⟩
  simp only [um]
  have d:ix m.rows ((s%m.rows.length:Nat):Int)=m.rows.getD (s%m.rows.length) default:=rfl
  have e:ix (m.rows.getD (s%m.rows.length) default) (k:Int)=⟨ed m (s%m.rows.length) k,ou m (s%m.rows.length) k⟩:=rfl
  have hidx:(s:Int)*m.inputs+(k:Int)=((s*m.inputs.toNat+k:Nat):Int):=by rw [hmul];omega
  have f:ix l ((s*m.inputs.toNat+k:Nat):Int)=l.getD (s*m.inputs.toNat+k) default:=rfl
  have o:=z4r b a n
  rw [zvt,yf (by omega),zk ⟨by omega,by omega⟩,zk (qo a),d,zk (qo (by omega)),e]
  refine(zx (x:=zgt m l s k) ?_).trans ?_
  ·rw [zk (qy (by rw [hmul];omega)),hidx,zk (qy (by omega)),f]
   by_cases h:(0≤ed m (s%m.rows.length) k∧s*m.inputs.toNat+k<l.length)
   ·rw [zk (fun _=>qo h.2),zk (fun _=>⟨g _ h.2,by omega⟩)]
    unfold zgt
    by_cases h2:l.getD (s*m.inputs.toNat+k) default%2=1
    ·rw [if_pos ⟨h,h2⟩]
     refine(ct (by rw [decide_eq_true h.1,decide_eq_true (show ((s*m.inputs.toNat+k:Nat):Int)<(l.length:Int) by omega),decide_eq_true h2];rfl)).trans ?_
     exact zk (qy (by dsimp only;omega))
    ·rw [if_neg (fun h'=>h2 h'.2)]
     exact cf (by rw [decide_eq_false h2,Bool.and_false])
   ·have p:(decide (0≤ed m (s%m.rows.length) k)&&decide (((s*m.inputs.toNat+k:Nat):Int)<(l.length:Int)))=false:=by
     rw [←Bool.not_eq_true,Bool.and_eq_true,decide_eq_true_iff,decide_eq_true_iff]
     exact fun h'=>h ⟨h'.1,by omega⟩
    unfold zgt
    rw [if_neg (fun h'=>h h'.1)]
    dsimp only
    rw [p,zk (fun h'=>by simp at h'),zk (fun h'=>by simp at h')]
    exact cf rfl
  ·rw [zk ⟨by simp;omega,by simp;omega⟩,zk (qy (by omega)),z2w];rfl
 ·subst c
  simp only [um]
  exact uw (by omega)
theorem q25(b:MOk m)(c:m.rows.length≤6)(d:m.inputs≤3)(e: ∀ k,k<l.length→0≤l.getD k default):uq 2000 l m 2000 0 []=some (twM m l).rows:=by
 refine ui (σ:=List (List Edge)) (fun F k st=>uq 2000 l m F (k:Int) st) (2*m.rows.length)
  (fun k st=>st=(List.range k).map (zm3 m l)) _ (fun F k st f a=> .inr ?_) (fun F st a=>?_) 2000 0 [] (Nat.zero_le _) (by omega) rfl
 ·subst a
  refine⟨_,rfl,?_⟩
  simp only [uq]
  rw [zk (qy (by omega)),yf (by omega),zx (q3c b c d e f),zk ⟨by simp;omega,by simp;omega⟩,zk (qy (by omega)),z2w];rfl
 ·subst a
  simp only [uq]
  rw [zk (qy (by omega)),uw (by omega)];rfl
def twF(m:Mach):List Int:=(List.range (2*m.rows.length)).map fun s=>((s%m.rows.length:Nat):Int)
theorem zvv:(twF m).length=2*m.rows.length:=by simp [twF]
theorem zk3{s:Nat}(a:s<2*m.rows.length):(twF m).getD s default=((s%m.rows.length:Nat):Int):=ae _ a
theorem q2k(b:MOk m)(d:m.rows.length≤6):ul 2000 m 2000 [] 0=some (twF m):=by
 have c:=b.r1
 refine ui (σ:=List Int) (fun F k st=>ul 2000 m F st (k:Int)) (2*m.rows.length)
  (fun k st=>st=(List.range k).map fun s=>((s%m.rows.length:Nat):Int)) _ (fun F k st e a=> .inr ?_) (fun F st a=>?_) 2000 0 [] (Nat.zero_le _) (by omega) rfl
 ·subst a
  refine⟨_,rfl,?_⟩
  simp only [ul]
  rw [zk (qy (by omega)),yf (by omega),zk ⟨by omega,by omega⟩,zvt,zk ⟨by simp;omega,by simp;omega⟩,zk (qy (by omega)),z2w];rfl
 ·subst a
  simp only [ul]
  rw [zk (qy (by omega)),uw (by omega)];rfl
theorem q3m(b:MOk m)(f:m.rows.length≤6):HOk (twM m l) m (twF m)∧zhm (twM m l) m (twF m)=true:=by
 have h:=b.r1
 have j:=zpf (m:=m) (l:=l)
 have c:=q0l (l:=l) b f
 have a:HOk (twM m l) m (twF m):=⟨zvc b f,b,rfl,by rw [zvv,j],fun k g=>by
  rw [zvv] at g
  rw [zk3 g]
  have:=Nat.mod_lt k (show 0<m.rows.length by omega)
  omega⟩
 refine⟨a,zui a (by rw [zk3 (by omega),Nat.zero_mod];rfl) fun s i d hi=>?_⟩
 have hs':s<2*m.rows.length:=by omega
 rw [zk3 hs',Int.toNat_natCast]
 refine⟨(c.out s i d hi).symm,fun n=>?_⟩
 obtain⟨t,o⟩:=Int.eq_ofNat_of_zero_le n
 rcases z4r c.ok d hi with e|⟨_,e⟩
 ·omega
 ·have:=c.to s i d hi
  rw [this,o,z81,Int.toNat_natCast,zk3 (by omega)]
end
theorem ztp{x:MDat}{l:List Int}(c:MDOk x)(e: ∀ k,k<l.length→0≤l.getD k default):fo 2000 x l=some true:=by
 have a:=zj0 c
 obtain⟨b,f⟩:=q1c c
 unfold fo
 rw [zx (zj3 c (by decide))]
 generalize mOf x=m at*
 have g:=zvc (l:=l) a b
 have i:=zav a
 have j:=q02 a
 obtain⟨d,n⟩:=q3m (l:=l) a b
 refine(zx (q25 a b f e)).trans ?_
 refine(zx (show wz 2000 m=_ from zam a (by decide))).trans ?_
 refine(zx (show wz 2000 (twM m l)=some (l7 m,0) from(zam g (by decide)).trans (by rw [q69 a b]))).trans ?_
 refine(zx (show xy 2000 m=_ from zlm a (by decide))).trans ?_
 refine(zbd rfl (show z0w 2000 (l7 m) (l7 m)=some true from(zqi i.small (by decide)).trans (by rw [decide_eq_true rfl]))).trans ?_
 have o:decide ((m.rows.length:Int)<((l7 m).rows.length:Int))=false:=decide_eq_false (by omega)
 have p:decide ((minB m,(0:Int)).1≠decide (((l7 m).rows.length:Int)=(m.rows.length:Int)))=false:=by
  refine decide_eq_false fun h=>h ?_
  have:=zqm a
  show minB m=_
  rw [Bool.eq_iff_iff,←this,decide_eq_true_iff]
  omega
 refine(cf (by rw [o,p];rfl)).trans ?_
 refine(zx (q2k a b)).trans ?_
 refine(zx (show uj 2000 (twM m l) m (twF m)=some (true,0) from(zsp d (by decide)).trans (by rw [n]))).trans ?_
 refine(zbd rfl z6h).trans ?_
 rfl
end GV
end Go.Proofs.YtkcccdcloealfaaGreat
