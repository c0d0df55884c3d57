
import Derived.Test.YtplgbkaollfmkaaGreatLaw39w
import Derived.Test.YtplgbkaollfmkaaGreatLaw39n
import Derived.Test.YtplgbkaollfmkaaGreatLaw39s
import Derived.Test.YtplgbkaollfmkaaGreatSpec09b
import Derived.Test.YtplgbkaollfmkaaGreatSpec09e
set_option linter.unusedVariables false
set_option linter.unusedSimpArgs false
namespace Go.Proofs.YtplgbkaollfmkaaGreat
namespace GV
set_option maxRecDepth 100000
section build
variable {N : Nat} {m : Mach} {d : List Int}
theorem Bd.pre1(h:Bd m d){k:Nat}(a:k≤m.rows.length):wd1 m d k<+:zak m d:=
 (ziz m.rows.length a).trans (zcm (m:=m) (d:=d) (x:=(wd1 m d m.rows.length,0)) (s:=0) m.rows.length (Nat.zero_le _))
theorem Bd.pre2(h:Bd m d){s i:Nat}(a:s<m.rows.length)(hi:i≤m.inputs.toNat):(zb9 m d s i (all2 m d s (wd1 m d m.rows.length,0))).1<+:zak m d:=
 (zml (i:=i) m.inputs.toNat hi).trans (zcm (s:=s+1) m.rows.length a)
theorem q5v{α:Type}[Inhabited α]{X:List α}{s:Nat}{y:α}(a:s<X.length):ix (up X (s:Int) y) (s:Int)=y:=by
 rw [z1n,dn,List.getD_eq_getElem?_getD,List.getElem?_set_self a];rfl
theorem q2h{X Y:List Int}(h:X.length+Y.length≤100000):fits 8 X Y:=⟨by omega,by omega⟩
theorem zun(h:Bd m d)(a:1100≤N){w:List Int}{f:Int}(b:WOk m.inputs w)(c:w.length≤1024):r9 N (⟨(⟨m.inputs,m.outputs,m.rows⟩:Mach),d,w,f⟩:Sk)=some (uk m 0 w):=by
 have e:(atL m w).length=w.length+1:=z5s
 unfold r9
 refine(q8 (show z02 N m w=_ from zlk h.hm h.hc b c a)).trans ?_
 refine(zh (qh (by omega))).trans ?_
 refine(zh (show okI _ _ from⟨by omega,by omega⟩)).trans ?_
 rw [show ((atL m w).length:Int)-1=(w.length:Int) by omega,dn,zd4 (by omega),List.take_length]
theorem zhn{w v:List Int}{f:Int}{a b:Int}{c:List (List Edge)}{e:List Int}(d:w.length+v.length≤100000):bg N v a b c e w f=some (w++v):=by
 unfold bg
 exact zh (q2h d)
theorem zl9(h:Bd m d)(a:1100≤N){w:List Int}{f:Int}(b:WOk m.inputs w)(c:w.length+d.length≤1024):mh N m.inputs m.outputs m.rows d w f=some (w++d,uk m 0 w):=by
 unfold mh
 refine(q8 (zun h a b (by omega))).trans ?_
 exact(q8 (zhn (by omega)))
def Brs{α:Type}[Inhabited α](m:Mach)(g:Nat→α)(k:Nat)(X:List α):Prop:=X.length=m.rows.length∧ ∀ q,q<k→q<m.rows.length→X.getD ((q+1)%m.rows.length) default=g ((q+1)%m.rows.length)
theorem Brs.up{α:Type}[Inhabited α]{g:Nat→α}{k:Nat}{X:List α}(a:Brs m g k X)(d:k<m.rows.length):Brs m g (k+1) (X.set ((k+1)%m.rows.length) (g ((k+1)%m.rows.length))):=by
 refine⟨by rw [List.length_set];exact a.1,fun q f b=>?_⟩
 have c:(k+1)%m.rows.length<m.rows.length:=Nat.mod_lt _ (by omega)
 rw [z7z (by rw [a.1];exact c)]
 by_cases e:(q+1)%m.rows.length=(k+1)%m.rows.length
 ·rw [if_pos e,e]
 ·rw [if_neg e]
  exact a.2 q (by
   by_cases e2:q=k
   ·subst e2;exact absurd rfl e
   ·omega) b
theorem Brs.get{α:Type}[Inhabited α]{g:Nat→α}{X:List α}(b:Brs m g m.rows.length X){s:Nat}(c:s<m.rows.length):X.getD s default=g s:=by
 have a:frm m.rows.length s<m.rows.length:=by unfold frm;split<;>omega
 have e:(frm m.rows.length s+1)%m.rows.length=s:=by
  unfold frm
  by_cases h0:s=0
  ·rw [if_pos h0,show m.rows.length-1+1=m.rows.length by omega,Nat.mod_self,h0]
  ·rw [if_neg h0,show s-1+1=s by omega,Nat.mod_eq_of_lt c]
 have:=b.2 _ a a
 rwa [e] at this
theorem zyj(h:Bd m d)(E:(zak m d).length≤1000)(v:1100≤N): ∃ r,df N m d N 1 0 d (mk (m.rows.length:Int) (0:Int)) (mk (m.rows.length:Int) ([]:List Int))=some r∧
 r.1=0∧r.2.1=wd1 m d m.rows.length∧Brs m (fun s=>(frm m.rows.length s:Int)) m.rows.length r.2.2.1∧Brs m (brw m d) m.rows.length r.2.2.2:=by
 have z:=h.hm.r1;have A:=h.hm.r2
 refine iy (σ:=Int×List Int×List Int×List (List Int)) (fun F j x=>df N m d F ((j+1:Nat):Int) x.1 x.2.1 x.2.2.1 x.2.2.2) m.rows.length
  (fun j x=>x.1=((j%m.rows.length:Nat):Int)∧x.2.1=wd1 m d j∧Brs m (fun s=>(frm m.rows.length s:Int)) j x.2.2.1∧Brs m (brw m d) j x.2.2.2)
  _ (fun F j x c p=> .inr ?_) (fun F x p=>?_) N 0 (0,d,mk (m.rows.length:Int) (0:Int),mk (m.rows.length:Int) ([]:List Int)) (Nat.zero_le _) (by omega) ⟨by rw [Nat.zero_mod];rfl,rfl,⟨List.length_replicate (n:=m.rows.length) (a:=(0:Int)),fun q B=>by omega⟩,⟨List.length_replicate (n:=m.rows.length) (a:=([]:List Int)),fun q B=>by omega⟩⟩
 ·obtain⟨f,w,X,Y⟩:=x
  obtain⟨l,o,e,g⟩:=p
  dsimp only at l o e g
  subst l;subst o
  have i:(j+1)%m.rows.length<m.rows.length:=Nat.mod_lt _ (by omega)
  have b:=h.wf1 j (by omega)
  have C:=(h.pre1 (k:=j+1) c).length_le
  have y:=h.brw_ok i
  rw [show wd1 m d (j+1)=wd1 m d j++(brw m d ((j+1)%m.rows.length)++d) from rfl,List.length_append,List.length_append] at C
  refine⟨((((j+1)%m.rows.length:Nat):Int),wd1 m d (j+1),X.set ((j+1)%m.rows.length) ((frm m.rows.length ((j+1)%m.rows.length):Nat):Int),Y.set ((j+1)%m.rows.length) (brw m d ((j+1)%m.rows.length))),⟨rfl,rfl,e.up c,g.up c⟩,?_⟩
  have D:((j+1:Nat):Int)%(m.rows.length:Int)=(((j+1)%m.rows.length:Nat):Int):=rfl
  have G:(X.length:Int)=m.rows.length:=by have:=e.1;omega
  have H:(Y.length:Int)=m.rows.length:=by have:=g.1;omega
  have t:sj N m ((dst m d (j%m.rows.length):Nat):Int) (((j+1)%m.rows.length:Nat):Int)=some (brw m d ((j+1)%m.rows.length)):=by
   rw [zzy h.hm h.hc h.hk (by omega) (h.dst_ok b.lt).1 i]
   unfold brw
   rw [zb8 c]
  simp only [df]
  rw [ui (by omega),zh ⟨by omega,by omega⟩,D,zh (ql (by omega))]
  refine(q8 (zun h v b.ok (by omega))).trans ?_
  rw [b.aft h]
  refine(q8 t).trans ?_
  rw [zh (ql (by omega)),zh (show okI _ _ from ql (by rw [z1n,List.length_set];omega)),q5v (by omega)]
  refine(q8 (zhn (by omega))).trans ?_
  refine(q8 (zl9 h v (zar b.ok y.1) (by rw [List.length_append];omega))).trans ?_
  refine(zh (qh (by omega))).trans ?_
  have u:uk m 0 (wd1 m d j++brw m d ((j+1)%m.rows.length))=(((j+1)%m.rows.length:Nat):Int):=by
   rw [z0o,b.aft h]
   have:=y.2.1
   rwa [zb8 c] at this
  dsimp only
  rw [u,z1n,z1n,List.append_assoc,zb8 c];rfl
 ·obtain⟨f,w,X,Y⟩:=x
  obtain⟨l,o,e,g⟩:=p
  simp only [df]
  rw [uh (by omega)]
  exact⟨_,rfl,by rw [l,Nat.mod_self];rfl,o,e,g⟩
theorem zyu(h:Bd m d)(I:(zak m d).length≤1000)(j:1100≤N){o:Int×List Int×List Int×List (List Int)}(r:Brs m (fun s=>(frm m.rows.length s:Int)) m.rows.length o.2.2.1)(t:Brs m (brw m d) m.rows.length o.2.2.2){s:Nat}(b:s<m.rows.length):
 dx N m d o (s:Int) N 0 ((all2 m d s (wd1 m d m.rows.length,0)).2:Int) (all2 m d s (wd1 m d m.rows.length,0)).1=some (((all2 m d (s+1) (wd1 m d m.rows.length,0)).2:Int),(all2 m d (s+1) (wd1 m d m.rows.length,0)).1):=by
 have z:=h.hm.r1;have A:=h.hm.r2;have B:=h.hm.i1;have C:=h.hm.i2
 refine kz (σ:=Int×List Int) (fun F i x=>dx N m d o (s:Int) F (i:Int) x.1 x.2) m.inputs.toNat
  (fun i x=>x=(((zb9 m d s i (all2 m d s (wd1 m d m.rows.length,0))).2:Int),(zb9 m d s i (all2 m d s (wd1 m d m.rows.length,0))).1))
  _ (fun F i x hi k=> .inr ?_) (fun F x k=>?_) N 0 (_,_) (Nat.zero_le _) (by omega) rfl
 ·subst k
  refine⟨_,rfl,?_⟩
  have a:=h.wf_row b (h.wf_all h.wf10 s (by omega)) i (by omega)
  have c:=(h.pre2 b (i:=i+1) hi).length_le
  have l:=h.wf_go b a
  have u:=h.brw_ok b
  have D:=h.edn b hi
  rw [show zb9 m d s (i+1) (all2 m d s (wd1 m d m.rows.length,0))=st2 m d s i (zb9 m d s i (all2 m d s (wd1 m d m.rows.length,0))) from rfl] at c⊢
  generalize zb9 m d s i (all2 m d s (wd1 m d m.rows.length,0))=x at a c l⊢
  obtain⟨w,f⟩:=x
  have n:ix o.2.2.1 (s:Int)=((frm m.rows.length s:Nat):Int):=r.get b
  have p:ix o.2.2.2 (s:Int)=brw m d s:=t.get b
  have v:okI o.2.2.1 (s:Int):=ql (by rw [r.1];exact b)
  have E:okI o.2.2.2 (s:Int):=ql (by rw [t.1];exact b)
  unfold st2 at c⊢
  dsimp only at a c⊢
  have G:=(go_pre (m:=m) (d:=d) (s:=s) (x:=(w,f))).length_le
  simp only [List.length_append,List.length_singleton] at c
  simp only [dx]
  rw [ui (by omega)]
  refine(q8 (x:=(((frm m.rows.length s:Nat):Int),go2 m d s (w,f))) ?_).trans ?_
  ·rw [zh v,n]
   by_cases e:f=frm m.rows.length s
   ·rw [uh (by omega)]
    unfold go2
    rw [if_pos e,e]
   ·have g:go2 m d s (w,f)=w++(LD m (dst m d f) (frm m.rows.length s)++d):=by unfold go2;rw [if_neg e]
    have y:=zrf h.hm h.hk (h.dst_ok a.lt).1 (h.frm_lt b)
    rw [g,List.length_append,List.length_append] at c
    rw [ui (by omega)]
    refine(q8 (zun h j a.ok (by omega))).trans ?_
    rw [a.aft h,zh v]
    refine(q8 (show sj N m _ _=_ from zzy h.hm h.hc h.hk (by omega) (h.dst_ok a.lt).1 (h.frm_lt b))).trans ?_
    refine(q8 (zhn (by omega))).trans ?_
    refine(q8 (zl9 h j (zar a.ok y.1) (by rw [List.length_append];omega))).trans ?_
    rw [g,z0o,a.aft h,y.2.1,List.append_assoc]
  ·dsimp only
   rw [zh E,p]
   refine(q8 (zhn (by omega))).trans ?_
   refine(q8 (zhn (by rw [List.length_append,List.length_singleton];omega))).trans ?_
   have q:WOk m.inputs (go2 m d s (w,f)++brw m d s++[(i:Int)]):=zar (zar l.ok u.1) (zpz ⟨by omega,by omega⟩)
   refine(q8 (zl9 h j q (by simp only [List.length_append,List.length_singleton];omega))).trans ?_
   refine(zh (qh (by omega))).trans ?_
   have H:uk m 0 (go2 m d s (w,f)++brw m d s++[(i:Int)])=((ed m s i).toNat:Int):=by
    rw [zem,z0o,l.aft h,u.2.1,D.2]
   dsimp only
   rw [H]
   simp only [List.append_assoc];rfl
 ·subst k
  simp only [dx]
  rw [uh (by omega)];rfl
theorem zxv(h:Bd m d)(c:(zak m d).length≤1000)(a:1100≤N):z3j N m d=some (zak m d):=by
 have l:=h.hm.r1;have n:=h.hm.r2
 have p:=(h.pre1 (k:=0) (Nat.zero_le _)).length_le
 have q:d.length≤(zak m d).length:=p
 unfold z3j
 refine(q8 (zl9 h a (w:=[]) (fun k r=>absurd r (by simp)) (by simp only [List.length_nil];omega))).trans ?_
 refine(zh ⟨by omega,by omega,by omega⟩).trans ?_
 refine(zh ⟨by omega,by omega,by omega⟩).trans ?_
 obtain⟨⟨f,w,X,Y⟩,t,e,g,i,j⟩:=zyj h c a
 refine(q8 t).trans ?_
 dsimp only at e g i j
 subst e;subst g
 refine(q8 (x:=(((all2 m d m.rows.length (wd1 m d m.rows.length,0)).2:Int),(all2 m d m.rows.length (wd1 m d m.rows.length,0)).1)) ?_).trans rfl
 refine kz (σ:=Int×List Int) (fun F s x=>ah N m d (0,wd1 m d m.rows.length,X,Y) F (s:Int) x.1 x.2) m.rows.length
  (fun s x=>x=(((all2 m d s (wd1 m d m.rows.length,0)).2:Int),(all2 m d s (wd1 m d m.rows.length,0)).1)) _ (fun F s x u b=> .inr ?_) (fun F x b=>?_) N 0 (_,_) (Nat.zero_le _) (by omega) rfl
 ·subst b
  refine⟨_,rfl,?_⟩
  simp only [ah]
  rw [ui (by omega)]
  refine(q8 (zyu (o:=(0,wd1 m d m.rows.length,X,Y)) h c a i j u)).trans ?_
  exact zh (qh (by omega))
 ·subst b
  simp only [ah]
  rw [uh (by omega)]
end build
end GV
end Go.Proofs.YtplgbkaollfmkaaGreat

namespace Go.Proofs.YtplgbkaollfmkaaGreat
namespace GV
set_option maxRecDepth 100000
section build
variable {N : Nat} {m : Mach} {d : List Int}
theorem zrs{s:Int}{w:List Int}(b:MOk m)(e:mr m=true)(f:0≤s∧s<m.rows.length)(c:WOk m.inputs w){k:Nat}(d:k<w.length):
 okI m.rows (uk m s (w.take k))∧okI (ix m.rows (uk m s (w.take k))) (ix w (k:Int))∧(ix (ix m.rows (uk m s (w.take k))) (ix w (k:Int))).to=uk m s (w.take (k+1)):=by
 have h:=zav b e s _ f (zhp c k)
 have a:=c k d
 have hrow:=b.row (uk m s (w.take k)).toNat (by omega)
 refine⟨h,⟨a.1,by rw [zfd m.rows,hrow];exact a.2⟩,?_⟩
 rw [zg6 m s w k d]
 unfold z1m
 rw [if_neg (by omega)];rfl
theorem q50(h:Bd m d){l:List (List Int)}{q:Nat}{a:Int}(e:0≤a∧a<m.rows.length)(f:WOk m.inputs (l.getD q default))(o:(l.getD q default).length<N)(g:(l.getD q default).length≤100000):ib N l m.rows (q:Int) N 0 a=some (uk m a (l.getD q default)):=by
 have b:ix l (q:Int)=l.getD q default:=rfl
 refine kz (σ:=Int) (fun F k x=>ib N l m.rows (q:Int) F (k:Int) x) (l.getD q default).length (fun k x=>x=uk m a ((l.getD q default).take k)) _ (fun F k x c hi=> .inr ?_) (fun F x hi=>?_) N 0 _ (Nat.zero_le _) (by omega) rfl
 ·subst hi
  obtain⟨i,j,n⟩:=zrs h.hm h.hc e f c
  refine⟨_,rfl,?_⟩
  simp only [ib]
  rw [b,ui (by omega),zh (ql c),zh i,zh j,zh (qh (by omega)),n];rfl
 ·subst hi
  simp only [ib]
  rw [b,uh (by omega),List.take_length]
theorem q4v(h:Bd m d)(j:d.length<N)(c:d.length≤100000){a:Int}(e:0≤a∧a<m.rows.length):ay N m.rows d N 0 a=some (uk m a d):=by
 refine kz (σ:=Int) (fun F k x=>ay N m.rows d F (k:Int) x) d.length (fun k x=>x=uk m a (d.take k)) _ (fun F k x b hi=> .inr ?_) (fun F x hi=>?_) N 0 _ (Nat.zero_le _) (by omega) rfl
 ·subst hi
  obtain⟨f,g,i⟩:=zrs h.hm h.hc e h.hd b
  refine⟨_,rfl,?_⟩
  simp only [ay]
  rw [ui (by omega),zh (ql b),zh f,zh g,zh (qh (by omega)),i];rfl
 ·subst hi
  simp only [ay]
  rw [uh (by omega),List.take_length]
theorem zk8{l:List (List Int)}{k:Nat}(a:k<l.length):(l.take (k+1)).flatten=(l.take k).flatten++l.getD k default:=by
 rw [zda l k a,List.flatten_append,List.flatten_cons,List.flatten_nil,List.append_nil]
theorem zld(h:Bd m d){l:List (List Int)}{w:List Int}{L:List (List (List Int))}{a f:Int}(o:0≤a∧a<m.rows.length)(p: ∀ k,k<l.length→WOk m.inputs (l.getD k default))(q:l.length<N)(hlen:w.length+l.flatten.length+d.length<N)(i:w.length+l.flatten.length+d.length≤100000)(r:l.length≤100000):
 z11 N l m.inputs m.outputs m.rows d w L a f=some (w++l.flatten++d,uk m (uk m a l.flatten) d,uk m a l.flatten):=by
 have hsub: ∀ k,k<l.length→(l.take k).flatten.length+(l.getD k default).length≤l.flatten.length:=fun k b=>by
  have e:l.flatten=(l.take (k+1)).flatten++(l.drop (k+1)).flatten:=by rw [←List.flatten_append,List.take_append_drop]
  rw [e,zk8 b,List.length_append,List.length_append];omega
 have c: ∀ k,k≤l.length→WOk m.inputs (l.take k).flatten:=by
  intro k
  induction k with
  |zero=>intro _ j s;exact absurd s (by simp)
  |succ k ih=>intro b;rw [zk8 (by omega)];exact zar (ih (by omega)) (p k (by omega))
 unfold z11
 refine(q8 (x:=(uk m a l.flatten,w++l.flatten)) ?_).trans ?_
 ·refine kz (σ:=Int×List Int) (fun F k x=>fq N l m.rows F (k:Int) x.1 x.2) l.length (fun k x=>x=(uk m a (l.take k).flatten,w++(l.take k).flatten)) _ (fun F k x b hi=> .inr ?_) (fun F x hi=>?_) N 0 (a,w) (Nat.zero_le _) (by omega) (by simp [uk])
  ·subst hi
   refine⟨_,rfl,?_⟩
   have t:=hsub k b
   have n:=zav h.hm h.hc a _ o (c k (by omega))
   simp only [fq]
   rw [ui (by omega),zh (ql b)]
   refine(q8 (q50 h n (p k b) (by omega) (by omega))).trans ?_
   rw [zh (q2h (by rw [List.length_append,dn];omega)),zh (qh (by omega)),zk8 b,z0o,List.append_assoc];rfl
  ·subst hi
   simp only [fq]
   rw [uh (by omega),List.take_length]
 ·have g:=c l.length (Nat.le_refl _)
  rw [List.take_length] at g
  refine(q8 (q4v h (by omega) (by omega) (zav h.hm h.hc a _ o g))).trans ?_
  exact zh (q2h (by rw [List.length_append];omega))
theorem Wf.rng(h:Bd m d){w:List Int}{f:Nat}(a:Wf m d w f):0≤(dst m d f:Int)∧(dst m d f:Int)<m.rows.length:=by
 have:=(h.dst_ok a.lt).1;omega
def zu1(m:Mach)(k:Nat)(X:List (List (List Int))):Prop:=X.length=64∧ ∀ s,s<k→X.getD s default=o9 m.rows.length (rch m s)
theorem zwu{X:List (List (List Int))}(b:zu1 m m.rows.length X){s t:Nat}(c:s<m.rows.length)(a:t<m.rows.length):ix (ix X (s:Int)) (t:Int)=LD m s t∧okI (ix X (s:Int)) (t:Int):=by
 have e:ix X (s:Int)=o9 m.rows.length (rch m s):=b.2 s c
 rw [e]
 exact⟨z5q a,ql (by rw [z0x];exact a)⟩
theorem zzx(h:Bd m d)(l:1100≤N): ∃ X,z07 N m d N 0 ([]:List Int) (List.replicate 64 [])=some ([],X)∧zu1 m m.rows.length X:=by
 have i:=h.hm.r1;have j:=h.hm.r2
 obtain⟨r,k,c,f⟩: ∃ r,z07 N m d N 0 ([]:List Int) (List.replicate 64 [])=some r∧r.1=[]∧zu1 m m.rows.length r.2:=by
  refine iy (σ:=List (List (List Int))) (fun F s x=>z07 N m d F (s:Int) [] x) m.rows.length (fun s x=>zu1 m s x) (fun r=>r.1=[]∧zu1 m m.rows.length r.2) (fun F s x g b=> .inr ?_) (fun F x b=>?_) N 0 (List.replicate 64 []) (Nat.zero_le _) (by omega) ⟨List.length_replicate,fun s g=>by omega⟩
  ·refine⟨up x (s:Int) (o9 m.rows.length (rch m s)),⟨by rw [z1n,List.length_set];exact b.1,fun t n=>?_⟩,?_⟩
   ·rw [z1n,z7z (by rw [b.1];omega)]
    by_cases e:t=s
    ·subst e;rw [if_pos rfl]
    ·rw [if_neg e];exact b.2 t (by omega)
   ·simp only [z07]
    rw [ui (by omega)]
    refine(q8 (x:=up x (s:Int) (o9 m.rows.length (rch m s))) ?_).trans (zh (qh (by omega)))
    unfold z6l
    refine(q8 (show z7a N m (s:Int)=_ from ztp h.hm h.hc (by omega) g)).trans ?_
    exact zh ⟨by omega,by omega⟩
  ·simp only [z07]
   rw [uh (by omega)]
   exact⟨_,rfl,rfl,b⟩
 obtain⟨a,X⟩:=r
 dsimp only at c f
 subst c
 exact⟨X,k,f⟩
theorem q2g(h:Bd m d)(K:(zak m d).length≤1000)(L:1100≤N){X:List (List (List Int))}(A:zu1 m m.rows.length X): ∃ r,z06 N m d ([],X) N 0 (dst m d 0:Int) 0 d (mk (m.rows.length:Int) (⟨(0:Int),([]:List Int)⟩:Sc))=some r∧
 r.1=(dst m d 0:Int)∧r.2.1=0∧r.2.2.1=wd1 m d m.rows.length∧Brs m (fun s=>(⟨(frm m.rows.length s:Int),brw m d s⟩:Sc)) m.rows.length r.2.2.2:=by
 have B:=h.hm.r1;have C:=h.hm.r2
 refine iy (σ:=Int×Int×List Int×List Sc) (fun F j x=>z06 N m d ([],X) F (j:Int) x.1 x.2.1 x.2.2.1 x.2.2.2) m.rows.length
  (fun j x=>x.1=((dst m d (j%m.rows.length):Nat):Int)∧x.2.1=((j%m.rows.length:Nat):Int)∧x.2.2.1=wd1 m d j∧Brs m (fun s=>(⟨(frm m.rows.length s:Int),brw m d s⟩:Sc)) j x.2.2.2)
  _ (fun F j x g p=> .inr ?_) (fun F x p=>?_) N 0 ((dst m d 0:Int),0,d,mk (m.rows.length:Int) (⟨(0:Int),([]:List Int)⟩:Sc)) (Nat.zero_le _) (by omega) ⟨by rw [Nat.zero_mod],by rw [Nat.zero_mod];rfl,rfl,⟨List.length_replicate (n:=m.rows.length) (a:=(⟨0,[]⟩:Sc)),fun q M=>by omega⟩⟩
 ·obtain⟨a,f,w,Y⟩:=x
  obtain⟨i,l,o,e⟩:=p
  dsimp only at i l o e
  subst i;subst l;subst o
  have b:(j+1)%m.rows.length<m.rows.length:=Nat.mod_lt _ (by omega)
  have c:=h.wf1 j (by omega)
  have y:=h.wf1 (j+1) (by omega)
  have D:=(h.pre1 (k:=j+1) g).length_le
  have z:=h.brw_ok b
  have t:LD m (dst m d (j%m.rows.length)) ((j+1)%m.rows.length)=brw m d ((j+1)%m.rows.length):=by unfold brw;rw [zb8 g]
  rw [show wd1 m d (j+1)=wd1 m d j++(brw m d ((j+1)%m.rows.length)++d) from rfl,List.length_append,List.length_append] at D
  refine⟨(((dst m d ((j+1)%m.rows.length):Nat):Int),(((j+1)%m.rows.length:Nat):Int),wd1 m d (j+1),Y.set ((j+1)%m.rows.length) (⟨(frm m.rows.length ((j+1)%m.rows.length):Int),brw m d ((j+1)%m.rows.length)⟩:Sc)),⟨rfl,rfl,rfl,e.up g⟩,?_⟩
  have E:((j:Int)+1)%(m.rows.length:Int)=(((j+1)%m.rows.length:Nat):Int):=rfl
  have O:(Y.length:Int)=m.rows.length:=by have:=e.1;omega
  obtain⟨G,H⟩:=zwu A (h.dst_ok c.lt).1 b
  have I:=h.dst_ok c.lt
  simp only [z06]
  rw [ui (by omega),zh (qh (by omega)),zh ⟨by omega,by omega⟩,E,zh ⟨by omega,by omega⟩,zh H,G,zh (ql (by omega)),zh (show okI _ _ from ql (by rw [z1n,List.length_set];omega)),q5v (by omega),t]
  refine(q8 (zld h (c.rng h) (fun k J=>?_) (by simp;omega) (by simp;omega) (by simp;omega) (by simp))).trans ?_
  ·rw [show k=0 by simpa using J];exact z.1
  refine(zh (qh (by omega))).trans ?_
  have u:uk m (dst m d (j%m.rows.length):Int) (brw m d ((j+1)%m.rows.length))=(((j+1)%m.rows.length:Nat):Int):=by
   have:=z.2.1
   rwa [zb8 g] at this
  have v:([brw m d ((j+1)%m.rows.length)]:List (List Int)).flatten=brw m d ((j+1)%m.rows.length):=by simp
  dsimp only
  rw [v,u,(h.dst_ok b).2,z1n,List.append_assoc,zb8 g];rfl
 ·obtain⟨a,f,w,Y⟩:=x
  obtain⟨i,l,o,e⟩:=p
  dsimp only at i l o e
  simp only [z06]
  rw [uh (by omega)]
  exact⟨_,rfl,by rw [i,Nat.mod_self],by rw [l,Nat.mod_self];rfl,o,e⟩
theorem q1y(h:Bd m d)(L:(zak m d).length≤1000)(M:1100≤N){X:List (List (List Int))}(B:zu1 m m.rows.length X){o:Int×Int×List Int×List Sc}(u:Brs m (fun s=>(⟨(frm m.rows.length s:Int),brw m d s⟩:Sc)) m.rows.length o.2.2.2){s:Nat}(b:s<m.rows.length):
 z0s N m d ([],X) o (s:Int) N 0 (dst m d (all2 m d s (wd1 m d m.rows.length,0)).2:Int) ((all2 m d s (wd1 m d m.rows.length,0)).2:Int) (all2 m d s (wd1 m d m.rows.length,0)).1=some (Ex.go ((dst m d (all2 m d (s+1) (wd1 m d m.rows.length,0)).2:Int),((all2 m d (s+1) (wd1 m d m.rows.length,0)).2:Int),(all2 m d (s+1) (wd1 m d m.rows.length,0)).1)):=by
 have C:=h.hm.r1;have D:=h.hm.r2;have E:=h.hm.i1;have G:=h.hm.i2
 refine kz (σ:=Int×Int×List Int) (fun F i x=>z0s N m d ([],X) o (s:Int) F (i:Int) x.1 x.2.1 x.2.2) m.inputs.toNat
  (fun i x=>x=((dst m d (zb9 m d s i (all2 m d s (wd1 m d m.rows.length,0))).2:Int),((zb9 m d s i (all2 m d s (wd1 m d m.rows.length,0))).2:Int),(zb9 m d s i (all2 m d s (wd1 m d m.rows.length,0))).1))
  _ (fun F i x hi p=> .inr ?_) (fun F x p=>?_) N 0 (_,_,_) (Nat.zero_le _) (by omega) rfl
 ·subst p
  refine⟨_,rfl,?_⟩
  have a:=h.wf_row b (h.wf_all h.wf10 s (by omega)) i (by omega)
  have j:=(h.pre2 b (i:=i+1) hi).length_le
  have v:=h.wf_go b a
  have g:=h.wf_st b hi a
  have y:=h.brw_ok b
  have z:=h.edn b hi
  rw [show zb9 m d s (i+1) (all2 m d s (wd1 m d m.rows.length,0))=st2 m d s i (zb9 m d s i (all2 m d s (wd1 m d m.rows.length,0))) from rfl] at j⊢
  generalize zb9 m d s i (all2 m d s (wd1 m d m.rows.length,0))=x at a j v g⊢
  obtain⟨w,f⟩:=x
  have l:ix o.2.2.2 (s:Int)=(⟨(frm m.rows.length s:Int),brw m d s⟩:Sc):=u.get b
  have q:okI o.2.2.2 (s:Int):=ql (by rw [u.1];exact b)
  unfold st2 at j g⊢
  dsimp only at a j g⊢
  simp only [List.length_append,List.length_singleton] at j
  have r:=(go_pre (m:=m) (d:=d) (s:=s) (x:=(w,f))).length_le
  dsimp only at r
  simp only [z0s]
  rw [ui (by omega)]
  refine(q8 (x:=((dst m d (frm m.rows.length s):Int),((frm m.rows.length s:Nat):Int),go2 m d s (w,f))) ?_).trans ?_
  ·rw [zh q,l]
   dsimp only
   by_cases e:f=frm m.rows.length s
   ·rw [uh (by omega)]
    unfold go2
    rw [if_pos e,e]
   ·have n:go2 m d s (w,f)=w++(LD m (dst m d f) (frm m.rows.length s)++d):=by unfold go2;rw [if_neg e]
    have A:=zrf h.hm h.hk (h.dst_ok a.lt).1 (h.frm_lt b)
    rw [n,List.length_append,List.length_append] at j
    obtain⟨H,I⟩:=zwu B (h.dst_ok a.lt).1 (h.frm_lt b)
    have J:=h.dst_ok a.lt
    rw [ui (by omega),zh ⟨by omega,by omega⟩,zh q,zh I,H]
    refine(q8 (zld h (a.rng h) (fun k t=>?_) (by simp;omega) (by simp;omega) (by simp;omega) (by simp))).trans ?_
    ·rw [show k=0 by simpa using t];exact A.1
    have c:([LD m (dst m d f) (frm m.rows.length s)]:List (List Int)).flatten=LD m (dst m d f) (frm m.rows.length s):=by simp
    rw [n,c,A.2.1,(h.dst_ok (h.frm_lt b)).2,List.append_assoc]
  ·dsimp only
   rw [zh q,l]
   have c:([brw m d s,[(i:Int)]]:List (List Int)).flatten=brw m d s++[(i:Int)]:=by simp
   have K:uk m (dst m d (frm m.rows.length s):Int) (brw m d s++[(i:Int)])=((ed m s i).toNat:Int):=by rw [zem,y.2.1,z.2]
   refine(q8 (zld h (v.rng h) (fun k t=>?_) (by simp;omega) (by rw [c];simp;omega) (by rw [c];simp;omega) (by simp))).trans ?_
   ·rcases (show k=0∨k=1 by simp at t;omega) with rfl|rfl
    ·exact y.1
    ·exact zpz ⟨by omega,by omega⟩
   rw [c,K,(h.dst_ok z.1).2]
   dsimp only
   rw [uh (by simp only [List.length_append,List.length_singleton];omega),zh (qh (by omega))]
   simp only [List.append_assoc];rfl
 ·subst p
  simp only [z0s]
  rw [uh (by omega)];rfl
theorem q1b(h:Bd m d)(t:canI m d=0)(u:d.length≤256)(j:(zak m d).length≤1000)(c:1100≤N):z4v N m d=some (zak m d,0):=by
 have v:=h.hm.r1;have y:=h.hm.r2
 have z:=(h.pre1 (k:=0) (Nat.zero_le _)).length_le
 have A:d.length≤(zak m d).length:=z
 obtain⟨X,g,b⟩:=zzx h c
 unfold z4v
 refine(q8 (zqk (N:=N) h.hm.small (by omega) (by omega))).trans ?_
 refine(uh (fun e=>e t)).trans ?_
 refine(q8 g).trans ?_
 refine(q8 (zld h (l:=[]) (w:=[]) (a:=0) ⟨by omega,by omega⟩ (fun k B=>absurd B (by simp)) (by simp;omega) (by simp;omega) (by simp;omega) (by simp))).trans ?_
 refine(zh ⟨by omega,by omega,by omega⟩).trans ?_
 obtain⟨⟨a,f,w,Y⟩,C,n,p,q,r⟩:=q2g h j c b
 dsimp only at n p q r
 subst n;subst p;subst q
 have D:uk m (uk m 0 ([]:List (List Int)).flatten) d=(dst m d 0:Int):=(h.dst_ok (s:=0) (by omega)).2
 refine(q8 (show z06 N m d ([],X) N 0 (uk m (uk m 0 ([]:List (List Int)).flatten) d) (uk m 0 ([]:List (List Int)).flatten) ([]++([]:List (List Int)).flatten++d) _=_ from by rw [D];exact C)).trans ?_
 refine(q8 (x:=Ex.go ((dst m d (all2 m d m.rows.length (wd1 m d m.rows.length,0)).2:Int),((all2 m d m.rows.length (wd1 m d m.rows.length,0)).2:Int),(all2 m d m.rows.length (wd1 m d m.rows.length,0)).1)) ?_).trans ?_
 ·refine kz (σ:=Int×Int×List Int) (fun F s x=>z1p N m d ([],X) ((dst m d 0:Int),0,wd1 m d m.rows.length,Y) F (s:Int) x.1 x.2.1 x.2.2) m.rows.length
   (fun s x=>x=((dst m d (all2 m d s (wd1 m d m.rows.length,0)).2:Int),((all2 m d s (wd1 m d m.rows.length,0)).2:Int),(all2 m d s (wd1 m d m.rows.length,0)).1)) _ (fun F s x E i=> .inr ?_) (fun F x i=>?_) N 0 (_,_,_) (Nat.zero_le _) (by omega) rfl
  ·subst i
   refine⟨_,rfl,?_⟩
   simp only [z1p]
   rw [ui (by omega)]
   refine(q8 (q1y (o:=((dst m d 0:Int),0,wd1 m d m.rows.length,Y)) h j c b r E)).trans ?_
   exact Eq.trans zi9 (zh (qh (by omega)))
  ·subst i
   simp only [z1p]
   rw [uh (by omega)]
 ·refine Eq.trans zi9 ?_
  exact q8 zwl
theorem q7c(b:MOk m)(e:d.length≤256)(a:canI m d=0):Bd m d:=by
 unfold canI at a
 by_cases h:properM m=0
 ·obtain⟨_,c,_,_⟩:=zi7 h
  rw [if_neg (by omega),if_neg (by omega)] at a
  cases h2:d.any (ze1 m)
  ·rw [h2,if_neg Bool.false_ne_true] at a
   by_cases h3:1<(knotsL m).length
   ·rw [if_pos h3] at a;omega
   ·exact⟨b,c,by omega,zqt h2⟩
  ·rw [h2,if_pos rfl] at a;omega
 ·rw [if_pos h] at a;exact absurd a h
end build
end GV
end Go.Proofs.YtplgbkaollfmkaaGreat

namespace Go.Proofs.YtplgbkaollfmkaaGreat
namespace GV
set_option maxRecDepth 100000
theorem q2s{m:Mach}(a:MOk m):(zkz m).rows.length≤m.rows.length∧(zkz m).inputs=m.inputs:=by
 refine⟨?_,rfl⟩
 have b:=zn2 a
 have c:=(zql b).le
 have d:(zck m).rows.length≤m.rows.length:=by rw [zj2];exact zbz _ _
 unfold zkz q7b
 rw [zzg,ztf];omega
theorem q6f{x:Sg}(e:CDOk x.fAa.fO)(g: ∀ k,k<x.fU.length→0≤x.fU.getD k default∧x.fU.getD k default≤255):
 ∃ m d,lw 2000 x=some (m,d)∧MOk m∧WOk m.inputs d∧d.length≤6∧m.rows.length≤6∧m.inputs≤3:=by
 have h:=e.st
 have hx':CDOk ⟨x.fAa.fO.fB%5,x.fAa.fO.fA,x.fAa.fO.fC,x.fAa.fO.fI,x.fAa.fO.fD⟩:=⟨⟨by dsimp only;omega,by dsimp only;omega⟩,e.ins,e.outs,e.tr,e.ed⟩
 obtain⟨c,i,a,l⟩:=zwd (N:=2000) hx' (by decide)
 have f:=a.ok
 have j:z0v 2000 x.fAa=some (zkz c):=by
  unfold z0v
  rw [zh ⟨by omega,by omega⟩,q8 i,q8 (zw4 f (by decide) a.rows a.ins)]
 have b:=q1g f
 have n:=q2s f
 have o:=a.rows;have p:=a.ins
 have hi:=b.i1;have q:=b.i2
 refine⟨zkz c,wdL (x.fU.take 6) (zkz c).inputs,?_,b,ztq (by omega),q7d,by omega,by omega⟩
 unfold lw
 refine(q8 j).trans ?_
 exact q8 (show z01 2000 x.fU (zkz c).inputs ((6:Nat):Int)=_ from zpo g (by omega) (by omega) (by decide) (by decide))
theorem zxh{m:Mach}{d:List Int}(a:MOk m)(b:m.rows.length≤6)(hi:m.inputs≤3)(c:d.length≤6):
 (m.rows.length*m.inputs.toNat≤18∧(m.rows.length:Int)*m.inputs=((m.rows.length*m.inputs.toNat:Nat):Int))∧(m.rows.length*m.inputs.toNat+m.rows.length+1)*cap2 m d≤600:=by
 have e:=a.i1
 have f:m.rows.length*m.inputs.toNat≤6*3:=Nat.mul_le_mul b (by omega)
 refine⟨⟨by omega,a.mul.2⟩,?_⟩
 exact Nat.le_trans (Nat.mul_le_mul (show m.rows.length*m.inputs.toNat+m.rows.length+1≤25 by omega) (show cap2 m d≤24 by unfold cap2;omega)) (by decide)
theorem zst{x:Sg}(u:CDOk x.fAa.fO)(i: ∀ k,k<x.fU.length→0≤x.fU.getD k default∧x.fU.getD k default≤255):z0i 2000 x=some true:=by
 obtain⟨m,d,v,c,q,j,l,n⟩:=q6f u i
 have hi:=c.i1;have G:=c.i2;have H:=c.r2
 unfold z0i
 refine(q8 v).trans ?_
 have r:=zwb (N:=2000) (d:=d) c.small (by omega) (by decide)
 by_cases h0:canI m d=0
 ·have e:=q7c c (by omega) h0
  obtain⟨⟨I,s⟩,J⟩:=zxh c l n j
  have y:=e.lenW
  have t:=q1b (N:=2000) e h0 (by omega) (by omega) (by decide)
  obtain⟨f,o⟩:=e.wfW
  have hchk:=e.checking
  have g:=zxv (N:=2000) e (by omega) (by decide)
  have z:=zrn o.ok (by omega)
  have p:=zkg (N:=2000) c e.hc h0 (by omega) z (by decide)
  rw [hchk] at p
  generalize zak m d=w at y t g p
  refine(q8 t).trans ?_
  refine(q8 r).trans ?_
  refine(uh (fun h=>h h0)).trans ?_
  refine(zge rfl g).trans ?_
  refine(zge rfl (zf0 (N:=2000) (a:=w) (b:=w) (by omega) (by omega))).trans ?_
  have A:decide (w=w)=true:=decide_eq_true rfl
  have B:cap2 m d=2*m.rows.length+2*d.length:=rfl
  have C:((m.rows.length:Int)*m.inputs+(m.rows.length:Int)+1)*(2*(m.rows.length:Int)+2*(d.length:Int))=(((m.rows.length*m.inputs.toNat+m.rows.length+1)*cap2 m d:Nat):Int):=by
   rw [s,Int.natCast_mul,B];push_cast;rfl
  dsimp only [Option.getD_some]
  rw [C,s]
  generalize (m.rows.length*m.inputs.toNat+m.rows.length+1)*cap2 m d=PQ at*
  refine(zh (fun _=>qh (by omega))).trans ?_
  refine(zh (fun _=>qh (by omega))).trans ?_
  refine(zh (fun _=>qh (by omega))).trans ?_
  refine(zh (fun _=>qh (by omega))).trans ?_
  refine(zh (fun _=>qh (by omega))).trans ?_
  refine(zh (fun _=>qh (by omega))).trans ?_
  refine(zh (fun _=>qh (by omega))).trans ?_
  have D:decide ((PQ:Int)<(w.length:Int))=false:=decide_eq_false (by omega)
  have E:decide ((w.length:Int)≠(w.length:Int))=false:=decide_eq_false (fun h=>h rfl)
  rw [A,D,E]
  refine(cf rfl).trans ?_
  refine(q8 p).trans ?_
  refine(zge rfl (show z3q 2000 ⟨true,[],[]⟩=some true from rfl)).trans ?_
  refine(zge rfl zdy).trans ?_
  rfl
 ·have F:z4v 2000 m d=some ([],canI m d):=by
   unfold z4v
   rw [q8 (zqk (N:=2000) c.small (by omega) (by decide)),ui h0]
  refine(q8 F).trans ?_
  refine(q8 r).trans ?_
  refine(ui h0).trans ?_
  have q:decide (canI m d=canI m d)=true:=decide_eq_true rfl
  dsimp only
  rw [q]
  refine(zge rfl zdy).trans ?_
  rfl
end GV
end Go.Proofs.YtplgbkaollfmkaaGreat

namespace Go.Proofs.YtplgbkaollfmkaaGreat
namespace GV
set_option maxRecDepth 100000
section sound
variable {m o : Mach} {d w : List Int}
end sound
end GV
end Go.Proofs.YtplgbkaollfmkaaGreat

namespace Go.Proofs.YtplgbkaollfmkaaGreat
namespace GV
set_option maxRecDepth 100000
section beside
variable {N : Nat} {a b : Mach}
end beside
section differ
variable {N : Nat} {a y : Mach}
end differ
end GV
end Go.Proofs.YtplgbkaollfmkaaGreat

namespace Go.Proofs.YtplgbkaollfmkaaGreat
namespace GV
set_option maxRecDepth 100000
structure ChOk (c:Sq):Prop where
 a:0≤c.fBd∧c.fBd≤255
 t:0≤c.fBe∧c.fBe≤255
 o:0≤c.fBb∧c.fBb≤255
structure Chg (m:Mach) (X:List (List Edge)):Prop where
 len:X.length=m.rows.length
 row: ∀ s,s<m.rows.length→((X.getD s default).length:Int)=m.inputs
 edge: ∀ s i,s<m.rows.length→i<m.inputs.toNat→0≤((X.getD s default).getD i default).to∧((X.getD s default).getD i default).to<m.rows.length∧0≤((X.getD s default).getD i default).out∧((X.getD s default).getD i default).out<m.outputs
section changed
variable {N : Nat} {m : Mach}
theorem Chg.up{X:List (List Edge)}(c:MOk m)(h:Chg m X){s i:Nat}{e:Edge}(k:s<m.rows.length)(hi:i<m.inputs.toNat)(d:0≤e.to∧e.to<m.rows.length∧0≤e.out∧e.out<m.outputs):Chg m (X.set s ((X.getD s default).set i e)):=by
 have f:=h.len
 have g:=c.i1
 refine⟨by rw [List.length_set];exact f,fun t a=>?_,fun t j a b=>?_⟩
 ·rw [z7z (by omega)]
  by_cases q:t=s
  ·subst q;rw [if_pos rfl,List.length_set];exact h.row t a
  ·rw [if_neg q];exact h.row t a
 ·rw [z7z (by omega)]
  by_cases q:t=s
  ·subst q
   have hrow:=h.row t a
   rw [if_pos rfl,z7z (by omega)]
   by_cases q2:j=i
   ·rw [if_pos q2];exact d
   ·rw [if_neg q2];exact h.edge t j a b
  ·rw [if_neg q];exact h.edge t j a b
theorem Chg.ok{X:List (List Edge)}(a:MOk m)(h:Chg m X):MOk (⟨m.inputs,m.outputs,X⟩:Mach)∧mr (⟨m.inputs,m.outputs,X⟩:Mach)=true:=by
 have e:=a.i1;have f:=a.r1;have g:=a.r2
 have j:=h.len
 have b:MOk (⟨m.inputs,m.outputs,X⟩:Mach):=⟨a.i1,a.i2,a.o1,a.o2,by dsimp only;omega,by dsimp only;omega,fun s c=>h.row s (by dsimp only at c;omega),fun s i c hi=>by
  dsimp only at c hi
  have hrow:=h.row s (by omega)
  have d:=h.edge s i (by omega) (by omega)
  exact .inr ⟨d.1,by dsimp only;omega,d.2.2.1,d.2.2.2⟩⟩
 refine⟨b,ztl b fun s i c hi=>(h.edge s i (by dsimp only at c;omega) hi).1⟩
end changed
end GV
end Go.Proofs.YtplgbkaollfmkaaGreat
