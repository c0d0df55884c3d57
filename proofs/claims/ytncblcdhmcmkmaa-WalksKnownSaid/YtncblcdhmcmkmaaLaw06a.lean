import Derived.Test.YtncblcdhmcmkmaaSpec06e
import Derived.Test.YtncblcdhmcmkmaaLives06
set_option linter.unusedVariables false
set_option linter.unusedSimpArgs false
namespace Go.Proofs.Ytncblcdhmcmkmaa
namespace GV
set_option maxRecDepth 100000
theorem z5e(m:Mach):(⟨m.inputs,m.outputs,m.rows⟩:Mach)=m:=rfl
theorem zfv{x:MDat}(h:MDOk x):(mOf x).rows.length≤6∧(mOf x).inputs≤3:=by
 have b:=h.st;have c:=h.ins
 have d:1≤x.n∧x.n≤6:=by unfold MDat.n;omega
 have a:1≤x.inp∧x.inp≤3:=by unfold MDat.inp;omega
 have e:(mOf x).rows.length=x.n.toNat:=by simp [mOf]
 exact⟨by omega,a.2⟩
theorem zef(w:List Int)(k:Nat):cut w 0 (k:Int)=w.take k:=by simp [cut]
theorem zgo(k:Nat)(P:List BE):z3z (k+1) P=z3z k P++if occ P k=true then [(k:Int)] else []:=by
 unfold z3z
 rw [List.range_succ,List.filter_append,List.map_append]
 cases h:occ P k<;>simp [h]
theorem zbu{m:Mach}{s0:Nat}{P:List BE}(h:Rch m s0 P){t:Nat}(b:occ P t=true): ∃ j,j<P.length∧(P.getD j default).st=t∧wdOf P t=(P.getD j default).wd:=by
 obtain⟨j,a,rfl⟩:=z13.1 b
 exact⟨j,a,rfl,h.wdOf a⟩
theorem zc5{m:Mach}{s0:Nat}{P:List BE}(h:Rch m s0 P)(t:Nat):(wdOf P t).length≤m.rows.length:=by
 cases ho:occ P t
 ·rw [zfw ho];simp
 ·obtain⟨j,a,_,e⟩:=zbu h ho
  rw [e]
  have:=(h.wok j a).2
  have:=h.le
  omega
theorem zny{m:Mach}(n:MOk m){P:List BE}(a:Rch m 0 P)(v:m.rows.length≤6){s:Nat}(g:s<m.rows.length)(p:occ P s=true)(X:List Int):
 w9 2000 m (uy m.rows.length P,xm m.rows.length P,0) X (s:Int) 2000 0=some (.go (X++[(s:Int)])):=by
 obtain⟨j,r,t,o⟩:=zbu a p
 have u:=zc5 a s
 have hwix:ix (uy m.rows.length P) (s:Int)=wdOf P s:=by rw [gu,eu g]
 refine xw (σ:=Unit) (fun F k _=>w9 2000 m (uy m.rows.length P,xm m.rows.length P,0) X (s:Int) F (k:Int)) (wdOf P s).length (fun _ _=>True) _ (fun F k _ w _=>?_) (fun F _ _=>?_) 2000 0 () (Nat.zero_le _) (by omega) trivial
 ·right
  refine⟨(),trivial,?_⟩
  simp only [w9,hwix,z5e]
  obtain⟨q,d,b⟩:=a.pref j r k (by rw [←o];omega)
  rw [←o] at b
  have h:=a.aft q d
  have e:=a.rng q d
  have haft:gq 2000 2000 m 0 (cut (wdOf P s) 0 (k:Int))=some ((P.getD q default).st:Int):=by
   rw [zef,←b,←h]
   exact zdy (N:=2000) n 2000 0 _ (.inr ⟨by omega,by have:=n.r1;omega⟩) (a.wok q d).1 (by have:=(a.wok q d).2;have:=a.le;omega)
  have i:ix (uy m.rows.length P) ((P.getD q default).st:Int)=(wdOf P s).take k:=by rw [gu,eu e,a.wdOf d,b]
  have c:okI (uy m.rows.length P) (s:Int):=qo (by rw [uu];exact g)
  have l:okI (uy m.rows.length P) ((P.getD q default).st:Int):=qo (by rw [uu];exact e)
  have f:okS (wdOf P s) 0 (k:Int):=⟨by omega,by omega,by omega⟩
  rw [zh c,mo (by omega),zh c,zh f,q9 haft,zh (fun _=>l),zh (fun _=>c),zh (fun _=>f),i,zef,
   z4u (fun _=>zcc (N:=2000) (by rw [List.length_take];omega) (by rw [List.length_take];omega))]
  have hneg:decide (((P.getD q default).st:Int)<0)=false:=by simp
  refine(cf (by rw [hneg];simp)).trans ?_
  exact zh (qm (by omega))
 ·simp only [w9,hwix]
  rw [zh (qo (by rw [uu];exact g)),bu (by omega)]
theorem zka{x:MDat}(d:MDOk x):iy 2000 x=some true:=by
 have a:=zci d
 obtain⟨g,j⟩:=zfv d
 have n:=a.r1
 unfold iy
 rw [q9 (zcs d (by decide))]
 simp only [z5e]
 generalize mOf x=m at*
 have h:=z5o a (s0:=0) (by omega)
 have o:=zem (N:=2000) a (by decide)
 rw [q9 (zn9 a (by decide)),q9 (z8k a (by decide) g j)]
 generalize rch m 0=P at*
 have p:(((((decide ((0:Int)≠0))||(decide (((uy m.rows.length P).length:Int)≠((uy m.rows.length P).length:Int))))||(decide (((xm m.rows.length P).length:Int)≠((xm m.rows.length P).length:Int))))||(decide (((uy m.rows.length P).length:Int)≠((uy m.rows.length P).length:Int))))||(decide (((xm m.rows.length P).length:Int)≠((xm m.rows.length P).length:Int))))=false:=by simp
 have q:wh 2000 m (uy m.rows.length P,xm m.rows.length P,0) (uy m.rows.length P,xm m.rows.length P) 2000 [] 0=some (.go (z3z m.rows.length P)):=by
  refine xw (σ:=List Int) (fun F k st=>wh 2000 m (uy m.rows.length P,xm m.rows.length P,0) (uy m.rows.length P,xm m.rows.length P) F st (k:Int)) m.rows.length (fun k st=>st=z3z k P) _ (fun F k st c hi=>?_) (fun F st hi=>?_) 2000 0 [] (Nat.zero_le _) (by omega) rfl
  ·subst hi
   right
   refine⟨_,rfl,?_⟩
   have hixw:ix (uy m.rows.length P) (k:Int)=wdOf P k:=by rw [gu,eu c]
   have hixs:ix (xm m.rows.length P) (k:Int)=occ P k:=by rw [gu,z0n c]
   have hokw:okI (uy m.rows.length P) (k:Int):=qo (by rw [uu];exact c)
   have hoks:okI (xm m.rows.length P) (k:Int):=qo (by rw [ou];exact c)
   have r:=zc5 h k
   simp only [wh,hixw,hixs]
   rw [mo (by rw [uu];omega)]
   refine(q9 (x:=(Ex.go (z3z (k+1) P):Ex (List Int) (Ex (List Int) Bool))) ?_).trans ?_
   ·rw [zh hoks,zh hoks,zh (fun _=>hokw),zh (fun _=>hokw),z4u (fun _=>zdr (N:=2000) (by omega) (by omega))]
    have s:decide (occ P k≠occ P k)=false:=by simp
    refine(cf (by rw [s];simp)).trans ?_
    rw [zh hoks,zgo]
    cases ho:occ P k
    ·rw [ct (b:= !false) rfl,if_neg (by decide),List.append_nil]
    ·rw [cf (b:= !true) rfl,if_pos rfl]
     have i:(z3z k P).length≤k:=by unfold z3z;rw [List.length_map];exact Nat.le_trans (List.length_filter_le _ _) (by simp)
     have hfit:fits 8 (z3z k P) ([(k:Int)]:List Int):=⟨by simp only [List.length_singleton];omega,by simp only [List.length_singleton];omega⟩
     rw [zh hfit]
     have:=zny a h g c ho (z3z k P)
     exact this
   ·rw [zdl]
    exact zh (qm (by omega))
  ·subst hi
   simp only [wh]
   rw [bu (by rw [uu];omega)]
 refine(cf p).trans ?_
 refine(q9 q).trans ?_
 rw [zdl,q9 o,zhy h]
 have i:(z3z m.rows.length P).length≤6:=by unfold z3z;rw [List.length_map];exact Nat.le_trans (List.length_filter_le _ _) (by simpa using g)
 rw [q9 (zdr (N:=2000) (l:=z3z m.rows.length P) (w:=z3z m.rows.length P) (e:=0) (f:=0) (by omega) (by omega)),z4u (fun _=>z5i)]
 simp
theorem zmi{m:Mach}(s:MOk m){s0:Nat}{P:List BE}(b:Rch m s0 P){k i:Nat}(t:k<m.rows.length)(hi:i<m.inputs.toNat)(l:0≤z3t P k)(u:0≤ed m k i):0≤z3t P (ed m k i).toNat∧z3t P (ed m k i).toNat≤z3t P k+1:=by
 have a:occ P k=true:=by
  unfold z3t at l
  by_cases h:occ P k=true
  ·exact h
  ·rw [if_neg h] at l;omega
 obtain⟨q,o,c,p⟩:=zbu b a
 subst c
 obtain⟨j,n,r,d⟩:=b.cls q i o hi (by omega)
 have f:occ P (ed m (P.getD q default).st i).toNat=true:=z13.2 ⟨j,n,by omega⟩
 have g:wdOf P (ed m (P.getD q default).st i).toNat=(P.getD j default).wd:=by
  rw [show (ed m (P.getD q default).st i).toNat=(P.getD j default).st by omega];exact b.wdOf n
 unfold z3t
 rw [if_pos f,if_pos a,g,p]
 have:(P.getD j default).wd.length≤(P.getD q default).wd.length+1:=by
  rcases d with e|(e|⟨e,_⟩)
  ·rw [e];simp
  ·rw [List.length_append,List.length_singleton] at e;omega
  ·rw [e];simp
 omega
theorem zr8{m:Mach}(e:MOk m)(v:m.rows.length≤6)(w:m.inputs≤3){s0:Nat}{P:List BE}(s:Rch m s0 P){k:Nat}(c:k<m.rows.length):
 yh 2000 m (z4e m.rows.length P,0) (k:Int) 2000 0=some (.go ()):=by
 have hi1:=e.i1
 have hrow:=e.row k c
 have j:ix (z4e m.rows.length P) (k:Int)=z3t P k:=by rw [gu,zcl c]
 have t:=zc5 s k
 refine xw (σ:=Unit) (fun F i _=>yh 2000 m (z4e m.rows.length P,0) (k:Int) F (i:Int)) m.inputs.toNat (fun _ _=>True) _ (fun F i _ hi _=>?_) (fun F _ _=>?_) 2000 0 () (Nat.zero_le _) (by omega) trivial
 ·right
  refine⟨(),trivial,?_⟩
  have l:(ix (ix m.rows (k:Int)) (i:Int)).to=ed m k i:=by rw [gu,gu];rfl
  have n:ix m.rows (k:Int)=m.rows.getD k default:=gu _ _
  simp only [yh,j,l]
  have hokk:okI (z4e m.rows.length P) (k:Int):=qo (by rw [z7z];exact c)
  rw [mo (by omega),zh (qo c),zh (by rw [n];exact qo (by omega)),zh hokk]
  have u:z3t P k≤6:=by unfold z3t;split<;>omega
  have hlast:in64 ((i:Int)+1):=qm (by omega)
  by_cases hc:0≤z3t P k∧0≤ed m k i
  ·obtain⟨f,g⟩:=hc
   have o:=(zbn e c hi).resolve_left (by omega)
   obtain⟨x,y⟩:=zmi e s c hi f g
   have hoke:okI (z4e m.rows.length P) (ed m k i):=⟨g,by rw [z7z];exact o.2⟩
   have q:ix (z4e m.rows.length P) (ed m k i)=z3t P (ed m k i).toNat:=by rw [zjv,zcl (by omega)]
   rw [zh (fun _=>hoke),zh (fun _=>hoke),zh (fun _=>hokk),zh (fun _=>qm (by omega))]
   refine(cf ?_).trans (zh hlast)
   rw [q,decide_eq_false (show¬z3t P (ed m k i).toNat<0 by omega),decide_eq_false (show¬z3t P k+1<z3t P (ed m k i).toNat by omega)]
   simp
  ·have r:(decide (0≤z3t P k)&&decide (0≤ed m k i))=false:=by
    rw [Bool.and_eq_false_iff]
    by_cases f:0≤z3t P k
    ·right;exact decide_eq_false fun g=>hc ⟨f,g⟩
    ·left;exact decide_eq_false f
   have a: ∀ {p:Prop} {b:Bool},(((true&&((decide (0≤z3t P k)&&decide (0≤ed m k i))==true))&&b)=true)→p:=fun h=>by rw [r] at h;simp at h
   have d: ∀ {p:Prop},((true&&((decide (0≤z3t P k)&&decide (0≤ed m k i))==true))=true)→p:=fun h=>by rw [r] at h;simp at h
   rw [zh (fun h=>d h),zh (fun h=>a h),zh (fun h=>a h),zh (fun h=>a h)]
   refine(cf ?_).trans (zh hlast)
   rw [r];rfl
 ·simp only [yh]
  rw [bu (by omega)]
theorem zpg{x:MDat}(g:MDOk x){a b:Int}(p:0≤a∧a≤255)(q:0≤b∧b≤255):lc 2000 x a b=some true:=by
 have f:=zci g
 obtain⟨l,n⟩:=zfv g
 have r:=f.r1
 unfold lc
 rw [q9 (zcs g (by decide))]
 simp only [z5e]
 generalize mOf x=m at*
 rw [zh (qm (by omega)),zh ⟨p.1,by omega⟩,zh (qm (by omega)),zh ⟨q.1,by omega⟩]
 have u:=Int.emod_nonneg a (show (m.rows.length:Int)≠0 by omega)
 have hs':=Int.emod_lt_of_pos a (show (0:Int)<m.rows.length by omega)
 have v:=Int.emod_nonneg b (show (m.rows.length:Int)≠0 by omega)
 have ht':=Int.emod_lt_of_pos b (show (0:Int)<m.rows.length by omega)
 generalize a%(m.rows.length:Int)=s at*
 generalize b%(m.rows.length:Int)=t at*
 obtain⟨s,rfl⟩:=Int.eq_ofNat_of_zero_le u
 obtain⟨t,rfl⟩:=Int.eq_ofNat_of_zero_le v
 have d:s<m.rows.length:=by omega
 have c:t<m.rows.length:=by omega
 have o:=z5o f d
 rw [q9 (zls (N:=2000) f (by decide) d c),q9 (zla (N:=2000) f (by decide) d),q9 (zgh (N:=2000) f (by decide) l n d)]
 generalize rch m s=P at*
 have h:ix (uy m.rows.length P) (t:Int)=wdOf P t:=by rw [gu,eu c]
 have i:ix (xm m.rows.length P) (t:Int)=occ P t:=by rw [gu,z0n c]
 have w:=zc5 o t
 have hokw:okI (uy m.rows.length P) (t:Int):=qo (by rw [uu];exact c)
 have hoks:okI (xm m.rows.length P) (t:Int):=qo (by rw [ou];exact c)
 have hlist:jm 2000 (wdOf P t) 0 (wdOf P t) 0=some true:=by rw [zdr (N:=2000) (by omega) (by omega)];simp
 have y:yf 2000 m (z4e m.rows.length P,0) (uy m.rows.length P,xm m.rows.length P) 2000 0=some (.go ()):=by
  refine xw (σ:=Unit) (fun F k _=>yf 2000 m (z4e m.rows.length P,0) (uy m.rows.length P,xm m.rows.length P) F (k:Int)) m.rows.length (fun _ _=>True) _ (fun F k _ e _=>?_) (fun F _ _=>?_) 2000 0 () (Nat.zero_le _) (by omega) trivial
  ·right
   refine⟨(),trivial,?_⟩
   have hixw:ix (uy m.rows.length P) (k:Int)=wdOf P k:=by rw [gu,eu e]
   have hixs:ix (xm m.rows.length P) (k:Int)=occ P k:=by rw [gu,z0n e]
   have j:ix (z4e m.rows.length P) (k:Int)=z3t P k:=by rw [gu,zcl e]
   simp only [yf,hixw,hixs,j]
   rw [mo (by rw [uu];omega)]
   refine(q9 (x:=(Ex.go ():Ex Unit (Ex Unit Bool))) ?_).trans ?_
   ·refine(q9 (x:=z3t P k) ?_).trans ?_
    ·rw [zh (qo (by rw [ou];exact e))]
     unfold z3t
     cases ho:occ P k
     ·rw [cf rfl,if_neg (by decide)]
     ·rw [ct rfl,zh (qo (by rw [uu];exact e)),if_pos rfl]
    ·rw [zh (qo (by rw [z7z];exact e)),bu (by simp)]
     exact zr8 f l n o e
   ·rw [zdl]
    exact zh (qm (by omega))
  ·simp only [yf]
   rw [bu (by rw [uu];omega)]
 rw [zh hokw]
 simp only [h,i]
 rw [q9 hlist,zh (fun _=>hoks)]
 refine(cf ?_).trans ?_
 ·rw [uu,z7z];simp
 ·refine(q9 y).trans ?_
  rw [zdl,q9 z5i]
end GV
end Go.Proofs.Ytncblcdhmcmkmaa
