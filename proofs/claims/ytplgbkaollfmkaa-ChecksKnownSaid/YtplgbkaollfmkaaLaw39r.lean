
import Derived.Test.YtplgbkaollfmkaaKnots39c
import Derived.Test.YtplgbkaollfmkaaLaw39a
import Derived.Test.YtplgbkaollfmkaaSpec04b
import Derived.Test.YtplgbkaollfmkaaSpec09e
import Derived.Test.YtplgbkaollfmkaaShOpens
set_option linter.unusedVariables false
set_option linter.unusedSimpArgs false
namespace Go.Proofs.Ytplgbkaollfmkaa
namespace GV
set_option maxRecDepth 100000
/-! ### Words and runs,the program's-/
theorem zma{N:Nat}{w:List Int}{n:Int}(b:w.length<N)(c:w.length≤4611686018427387904):z6n N w n=some (z7o w n):=by
 unfold z6n
 by_cases h:16<n∨256<w.length
 ·rw [ct (by simp;omega),zpj h]
 ·rw [cf (by simp;omega)]
  rw [zgv (fun _=>zlq (p:=zf0 n) (fun j d=>rfl) b c)]
  by_cases h1:n<1∨w.any (zf0 n)=true
  ·rw [zpp h h1]
   refine ct ?_
   by_cases a:n<1
   ·rw [decide_eq_true a];rfl
   ·rw [decide_eq_false a];exact h1.resolve_left a
  ·rw [zoi h h1]
   refine cf ?_
   rw [decide_eq_false (fun a=>h1 (.inl a))]
   exact Bool.eq_false_iff.2 fun a=>h1 (.inr a)
theorem q2r{N:Nat}{m:Mach}(e:MOk m){s:Int}{w:List Int}(g:SOk m s)(f:WOk m.inputs w)(j:w.length<N)(l:w.length≤1000000):z7a N m s w=some (z2e m s w,dx m s w):=by
 unfold z7a
 rw [zm ⟨by omega,by omega,by omega⟩,z6g]
 refine Eq.trans (qc (x:=(dx m s w,z2e m s w)) ?_) rfl
 refine ug (σ:=Int×List Int) (fun F k x=>z0b N m w F x.1 (k:Int) x.2) w.length (fun k x=>x.1=dx m s (w.take k)∧x.2=z2e m s (w.take k)++List.replicate (w.length-k) (0:Int)) _ (fun F k x a hi=> .inr ?_) (fun F x hi=>?_) N 0 (s,List.replicate w.length 0) (Nat.zero_le _) (by omega) (by simp [dx,z2e])
 ·obtain⟨t,X⟩:=x
  obtain⟨rfl,rfl⟩:=hi
  have d:=zis m e s (w.take k) g (zjn f k)
  have b:=f k a
  refine⟨(dx m s (w.take (k+1)),z2e m s (w.take (k+1))++List.replicate (w.length-(k+1)) (0:Int)),⟨rfl,rfl⟩,?_⟩
  simp only [z0b]
  rw [uy (by omega),zm (qx a),show z1x N=some ⟨-1,-1⟩ from rfl,zn1]
  have i:(bif decide (dx m s (w.take k)≠ -1) then gd (okI m.rows (dx m s (w.take k)))<|gd (okI (ix m.rows (dx m s (w.take k))) (ix w (k:Int)))<|some ((ix (ix m.rows (dx m s (w.take k))) (ix w (k:Int))).to,(ix (ix m.rows (dx m s (w.take k))) (ix w (k:Int))).out) else some ((-1:Int),(-1:Int)))=
   some ((z1c m (dx m s (w.take k)) (w.getD k default)).to,(z1c m (dx m s (w.take k)) (w.getD k default)).out):=by
   rcases d with h|h
   ·rw [h];rfl
   ·have hrow:=e.row (dx m s (w.take k)).toNat (by omega)
    rw [uy (by omega),zm h,zm (show okI (ix m.rows (dx m s (w.take k))) (ix w (k:Int)) from⟨b.1,show w.getD k default<((m.rows.getD (dx m s (w.take k)).toNat default).length:Int) from by rw [hrow];exact b.2⟩)]
    unfold z1c
    rw [if_neg (by omega)];rfl
  refine Eq.trans (qc i) ?_
  have c:=z6l m s (w.take k)
  rw [List.length_take] at c
  rw [zm (qx (by rw [List.length_append,List.length_replicate,c];omega)),zm (qo (by omega)),z4i,zwy _ _ _ _ (by omega) a,←zh4 m s w k a,←zmb m s w k a];rfl
 ·obtain⟨t,X⟩:=x
  obtain⟨rfl,rfl⟩:=hi
  simp only [z0b]
  rw [ul (by omega),List.take_length,Nat.sub_self,List.replicate_zero,List.append_nil]
theorem zzx{N:Nat}{m:Mach}{d:List Int}(b:MOk m){s:Nat}(e:s<m.rows.length)(c:z7o d m.inputs=0)(f:400≤N):z7h N m (s:Int) d=some (z2e m (s:Int) d,0):=by
 have hw':=zq4 c
 have a:z5f N m (s:Int)=some 0:=by
  unfold z5f
  rw [qc (zz9 b (by omega)),ul (by decide),cf (by rw [←Bool.not_eq_true,Bool.or_eq_true,decide_eq_true_iff,decide_eq_true_iff];omega)]
 unfold z7h
 rw [qc a,ul (by decide),qc (zma (by omega) (by omega)),c,ul (by decide),qc (q2r b (.inr ⟨by omega,by omega⟩) hw'.1 (by omega) (by omega))]
/-! ### Which of a list's words answers so-/
theorem zuo{N:Nat}{s:List (List Int)}{f:List Int→Option Bool}{p:List Int→Bool}(c: ∀ k,k<s.length→f (s.getD k default)=some (p (s.getD k default)))(e:s.length<N)(g:s.length≤4611686018427387904):
 l7 N s f=some (s.any p):=by
 obtain⟨r,h,d⟩: ∃ r,yw N s f N 0=some r∧((s.any p=true∧ ∃ k:Nat,r=Ex.rt (k:Int))∨(s.any p=false∧r=Ex.go ())):=by
  refine rf (σ:=Unit) (fun F k _=>yw N s f F (k:Int)) s.length (fun k _=>(s.take k).any p=false) _ (fun F k _ a hi=>?_) (fun F _ hi=>?_) N 0 () (Nat.zero_le _) (by omega) (by simp)
  ·simp only [yw]
   rw [uy (by omega),zm (qx a),om,qc (c k a)]
   cases hp:p (s.getD k default)
   ·right
    refine⟨(),by rw [z7b p s k a,hi,hp];rfl,?_⟩
    rw [cf rfl,zm (qo (by omega))];rfl
   ·left
    rw [ct rfl]
    exact⟨_,rfl,.inl ⟨List.any_eq_true.2 ⟨_,ay a,hp⟩,k,rfl⟩⟩
  ·simp only [yw]
   rw [ul (by omega)]
   rw [List.take_length] at hi
   exact⟨_,rfl,.inr ⟨hi,rfl⟩⟩
 unfold l7 z2s
 rw [qc h]
 rcases d with⟨b,k,rfl⟩|⟨b,rfl⟩
 ·rw [b]
  refine(qc (x:=(k:Int)) rfl).trans ?_
  rw [decide_eq_true (by omega)]
 ·rw [b];rfl
/-! ### Can-/
def zlb(m:Mach)(d:List Int)(k:Nat):Bool:=(List.range k).any fun j=>decide (z2e m (j:Int) d=z2e m (k:Int) d)
def zny(m:Mach)(d:List Int):Bool:=(List.range m.rows.length).any (zlb m d)
noncomputable def canI(m:Mach)(d:List Int):Int:=if properM m≠0 then properM m else if 256<d.length then 3 else if d.any (zcm m)=true then 1 else if 1<(knotsL m).length then 7 else if zny m d=true then 12 else 0
theorem zkq(p:Nat→Bool)(k:Nat):(List.range (k+1)).any p=((List.range k).any p||p k):=by rw [List.range_succ,List.any_append];simp
theorem zrz{p:Nat→Bool}{k n:Nat}(a:k<n)(h:p k=true):(List.range n).any p=true:=List.any_eq_true.2 ⟨k,List.mem_range.2 a,h⟩
theorem zkv{m:Mach}(h:properM m=0):MOk m∧z0x m=true∧connB m=true∧zld m=true:=by
 unfold properM at h
 by_cases hc:z11 m=0
 ·rw [if_neg (by omega)] at h
  refine⟨(z4k m).1 hc,?_⟩
  cases h1:z0x m
  ·rw [h1,if_pos rfl] at h;omega
  cases h2:connB m
  ·rw [h1,h2,if_neg Bool.noConfusion,if_pos rfl] at h;omega
  cases h3:zld m
  ·rw [h1,h2,h3,if_neg Bool.noConfusion,if_neg Bool.noConfusion,if_pos rfl] at h;omega
  exact⟨rfl,rfl,rfl⟩
 ·rw [if_pos hc] at h;exact absurd h hc
theorem q09{N:Nat}{m:Mach}(a:MOk m)(b:connB m=true)(c:200≤N):z6s N m=some 0:=by
 have d:=(z4k m).2 a
 unfold z6s
 rw [qc (zfq a.small c),d,if_neg (by decide),b]
 rfl
theorem zq0{m:Mach}{d:List Int}(a:MOk m):z7o d m.inputs=if 256<d.length then 3 else if d.any (zcm m)=true then 1 else 0:=by
 have b:=a.i1;have c:=a.i2
 by_cases h:256<d.length
 ·rw [if_pos h,zpj (.inr h)]
 ·rw [if_neg h]
  by_cases hb:d.any (zcm m)=true
  ·rw [if_pos hb,zpp (by omega) (.inr hb)]
  ·rw [if_neg hb]
   exact zoi (by omega) (fun k=>k.elim (fun k=>by omega) hb)
theorem q2p{N:Nat}{m:Mach}{d:List Int}(b:MOk m)(c:z7o d m.inputs=0)(g:400≤N):z0r N m d N [] 0=some (if zny m d=true then Ex.rt 12 else Ex.go ()):=by
 have n:=b.r2
 have hw':=zq4 c
 refine ug (σ:=List (List Int)) (fun F k X=>z0r N m d F X (k:Int)) m.rows.length (fun k X=>X=(List.range k).map (fun j:Nat=>z2e m (j:Int) d)∧(List.range k).any (zlb m d)=false) _ (fun F k X f hi=>?_) (fun F X hi=>?_) N 0 [] (Nat.zero_le _) (by omega) ⟨rfl,rfl⟩
 ·obtain⟨rfl,a⟩:=hi
  have hlen:((List.range k).map (fun j:Nat=>z2e m (j:Int) d)).length=k:=by simp
  have hany:((List.range k).map (fun j:Nat=>z2e m (j:Int) d)).any (fun z=>decide (z=z2e m (k:Int) d))=zlb m d k:=by unfold zlb;rw [List.any_map];rfl
  simp only [z0r]
  rw [uy (by omega),qc (zzx b f c g),qc (zuo (p:=fun z=>decide (z=z2e m (k:Int) d)) (fun j h=>by
   unfold z98
   have l:(((List.range k).map (fun j:Nat=>z2e m (j:Int) d)).getD j default).length≤256:=by
    obtain⟨i,_,e⟩:=List.mem_map.1 (ay h)
    rw [←e,z6l];exact hw'.2
   exact qc (zhg (by omega) (by omega))) (by omega) (by omega)),hany]
  cases hd:zlb m d k
  ·right
   refine⟨(List.range k).map (fun j:Nat=>z2e m (j:Int) d)++[z2e m (k:Int) d],⟨by rw [List.range_succ,List.map_append];rfl,by rw [zkq,a,hd];rfl⟩,?_⟩
   have hfit:fits 24 ((List.range k).map (fun j:Nat=>z2e m (j:Int) d)) ([z2e m (k:Int) d]:List (List Int)):=⟨by rw [List.length_singleton];omega,by rw [List.length_singleton];omega⟩
   rw [cf rfl,zm hfit,zm (qo (by omega))];rfl
  ·left
   rw [ct rfl,if_pos (show zny m d=true from zrz f hd)]
 ·obtain⟨rfl,a⟩:=hi
  simp only [z0r]
  rw [ul (by omega),if_neg (by unfold zny;rw [a];decide)]
theorem zwv{N:Nat}{m:Mach}{d:List Int}(c:Small m)(j:d.length≤300)(e:400≤N):z5g N m d=some (canI m d):=by
 unfold z5g canI
 rw [qc (zw3 c (by omega))]
 by_cases h:properM m=0
 ·obtain⟨a,f,b,g⟩:=zkv h
  rw [ul (by omega),if_neg (by omega),qc (zma (by omega) (by omega)),zq0 a]
  by_cases h1:256<d.length
  ·rw [if_pos h1,if_pos h1,uy (by decide)]
  rw [if_neg h1,if_neg h1]
  by_cases h2:d.any (zcm m)=true
  ·rw [if_pos h2,if_pos h2,uy (by decide)]
  have i:z7o d m.inputs=0:=by rw [zq0 a,if_neg h1,if_neg h2]
  rw [if_neg h2,if_neg h2,ul (by decide),qc (zvx a (by omega) (q09 a b (by omega))),ul (show¬((knotsL m,(0:Int)).2≠0) from fun h=>h rfl)]
  by_cases h3:1<(knotsL m).length
  ·rw [if_pos h3,uy (show (1:Int)<((knotsL m).length:Int) by omega)]
  rw [if_neg h3,ul (show¬(1:Int)<((knotsL m).length:Int) by omega),qc (q2p a i e)]
  cases zny m d<;>rfl
 ·rw [uy h,if_pos h]
theorem q06{N:Nat}{m:Mach}{d:List Int}(a:MOk m)(b:WOk m.inputs d)(g:d.length≤256)(l:400≤N){k:Nat}(c:k<m.rows.length):
 ma N m d (k:Int) N 0=some (if zlb m d k=true then Ex.rt (Ex.rt 12) else Ex.go ()):=by
 have n:=a.r2
 refine ug (σ:=Unit) (fun F j _=>ma N m d (k:Int) F (j:Int)) k (fun j _=>(List.range j).any (fun j:Nat=>decide (z2e m (j:Int) d=z2e m (k:Int) d))=false) _ (fun F j _ f hi=>?_) (fun F _ hi=>?_) N 0 () (Nat.zero_le _) (by omega) rfl
 ·simp only [ma]
  have hrun: ∀ i:Nat,i<m.rows.length→z03 N m (i:Int) d=some (z2e m (i:Int) d):=fun i h=>q19 a (.inr ⟨by omega,by omega⟩) b (by omega) (by omega)
  rw [uy (by omega),qc (hrun k c),qc (hrun j (by omega)),qc (zdk (by rw [z6l];omega) (by rw [z6l];omega))]
  by_cases h:z2e m (j:Int) d=z2e m (k:Int) d
  ·left
   rw [uy h.symm,if_pos (show zlb m d k=true from zrz f (decide_eq_true h))]
  ·right
   refine⟨(),by rw [zkq,hi,decide_eq_false h];rfl,?_⟩
   rw [ul (fun e=>h e.symm),zm (qo (by omega))];rfl
 ·simp only [ma]
  rw [ul (by omega),if_neg (by unfold zlb;rw [hi];decide)]
theorem zzq{N:Nat}{m:Mach}{d:List Int}(a:MOk m)(c:WOk m.inputs d)(e:d.length≤256)(f:400≤N):
 mf N m d N 0=some (if zny m d=true then Ex.rt 12 else Ex.go ()):=by
 have g:=a.r2
 refine ug (σ:=Unit) (fun F k _=>mf N m d F (k:Int)) m.rows.length (fun k _=>(List.range k).any (zlb m d)=false) _ (fun F k _ b hi=>?_) (fun F _ hi=>?_) N 0 () (Nat.zero_le _) (by omega) rfl
 ·simp only [mf]
  rw [uy (by omega),qc (q06 a c e f b)]
  cases h:zlb m d k
  ·right
   refine⟨(),by rw [zkq,hi,h];rfl,?_⟩
   rw [if_neg Bool.false_ne_true,zkz]
   exact zm (qo (by omega))
  ·left
   rw [if_pos rfl,if_pos (show zny m d=true from zrz b h)];rfl
 ·simp only [mf]
  rw [ul (by omega),if_neg (by unfold zny;rw [hi];decide)]
theorem q15{N:Nat}{m:Mach}{d:List Int}(b:Small m)(j:d.length≤300)(c:400≤N):z3j N m d=some (canI m d):=by
 unfold z3j canI
 rw [qc (zqr b (by omega))]
 by_cases h:properM m=0
 ·obtain⟨a,e,f,g⟩:=zkv h
  rw [ul (by omega),if_neg (by omega)]
  by_cases h1:256<d.length
  ·rw [if_pos h1,uy (by omega)]
  rw [if_neg h1,ul (by omega),qc (zvz (by omega) (by omega))]
  cases h2:d.any (zcm m)
  ·have i:=zts h2
   rw [if_neg Bool.false_ne_true]
   refine(cf rfl).trans ?_
   rw [qc (zv0 a (by omega))]
   by_cases h3:1<(knotsL m).length
   ·rw [if_pos h3,uy (by omega)]
   rw [if_neg h3,ul (by omega),qc (zzq a i (by omega) c)]
   cases zny m d<;>rfl
  ·rw [if_pos rfl];exact ct rfl
 ·rw [uy h,if_pos h]
/-! ### The law-/
end GV
end Go.Proofs.Ytplgbkaollfmkaa

namespace Go.Proofs.Ytplgbkaollfmkaa
namespace GV
theorem wf_u8{x:Int}(h:(Lit.int .u8 x).wf=true):0≤x∧x≤255:=by simpa [Lit.wf,IntKind.min,IntKind.max,IntKind.signed,IntKind.bits] using h
theorem wf_u16{x:Int}(h:(Lit.int .u16 x).wf=true):0≤x∧x≤65535:=by simpa [Lit.wf,IntKind.min,IntKind.max,IntKind.signed,IntKind.bits] using h
theorem q0r{x:Sb}(h:q25 x):CDOk x:=⟨wf_u8 h.1,wf_u8 h.2.1,wf_u8 h.2.2.1,fun k a=>wf_u8 (h.2.2.2.1.1 _ (ay a)),fun k a=>wf_u16 (h.2.2.2.2.1 _ (ay a))⟩
theorem u8L{l:List Int}(h:zy2 l): ∀ k,k<l.length→0≤l.getD k default∧l.getD k default≤255:=fun k a=>wf_u8 (h.1 _ (ay a))
end GV
end Go.Proofs.Ytplgbkaollfmkaa
