
import Derived.Test.YtplgbkaollfmkaaGreatKnots39c
import Derived.Test.YtplgbkaollfmkaaGreatLaw39a
import Derived.Test.YtplgbkaollfmkaaGreatSpec04b
import Derived.Test.YtplgbkaollfmkaaGreatSpec09e
import Derived.Test.YtplgbkaollfmkaaGreatShOpens
set_option linter.unusedVariables false
set_option linter.unusedSimpArgs false
namespace Go.Proofs.YtplgbkaollfmkaaGreat
namespace GV
set_option maxRecDepth 100000
/-! ### Words and runs,the program's-/
theorem zpc{N:Nat}{w:List Int}{n:Int}(b:w.length<N)(c:w.length≤4611686018427387904):z8i N w n=some (z9r w n):=by
 unfold z8i
 by_cases h:16<n∨256<w.length
 ·rw [ct (by simp;omega),zsd h]
 ·rw [cf (by simp;omega)]
  rw [zef (fun _=>zoz (p:=zhb n) (fun j d=>rfl) b c)]
  by_cases h1:n<1∨w.any (zhb n)=true
  ·rw [zrl h h1]
   refine ct ?_
   by_cases a:n<1
   ·rw [decide_eq_true a];rfl
   ·rw [decide_eq_false a];exact h1.resolve_left a
  ·rw [zr2 h h1]
   refine cf ?_
   rw [decide_eq_false (fun a=>h1 (.inl a))]
   exact Bool.eq_false_iff.2 fun a=>h1 (.inr a)
theorem q7a{N:Nat}{m:Mach}(e:MOk m){s:Int}{w:List Int}(g:SOk m s)(f:WOk m.inputs w)(j:w.length<N)(l:w.length≤1000000):z8v N m s w=some (vv m s w,w9 m s w):=by
 unfold z8v
 rw [zk ⟨by omega,by omega,by omega⟩,z7v]
 refine Eq.trans (qc (x:=(w9 m s w,vv m s w)) ?_) rfl
 refine uk (σ:=Int×List Int) (fun F k x=>z1f N m w F x.1 (k:Int) x.2) w.length (fun k x=>x.1=w9 m s (w.take k)∧x.2=vv m s (w.take k)++List.replicate (w.length-k) (0:Int)) _ (fun F k x a hi=> .inr ?_) (fun F x hi=>?_) N 0 (s,List.replicate w.length 0) (Nat.zero_le _) (by omega) (by simp [w9,vv])
 ·obtain⟨t,X⟩:=x
  obtain⟨rfl,rfl⟩:=hi
  have d:=zhg m e s (w.take k) g (zeg f k)
  have b:=f k a
  refine⟨(w9 m s (w.take (k+1)),vv m s (w.take (k+1))++List.replicate (w.length-(k+1)) (0:Int)),⟨rfl,rfl⟩,?_⟩
  simp only [z1f]
  rw [uy (by omega),zk (qo a),show z3j N=some ⟨-1,-1⟩ from rfl,zpn]
  have i:(bif decide (w9 m s (w.take k)≠ -1) then gd (okI m.rows (w9 m s (w.take k)))<|gd (okI (ix m.rows (w9 m s (w.take k))) (ix w (k:Int)))<|some ((ix (ix m.rows (w9 m s (w.take k))) (ix w (k:Int))).to,(ix (ix m.rows (w9 m s (w.take k))) (ix w (k:Int))).out) else some ((-1:Int),(-1:Int)))=
   some ((ry m (w9 m s (w.take k)) (w.getD k default)).to,(ry m (w9 m s (w.take k)) (w.getD k default)).out):=by
   rcases d with h|h
   ·rw [h];rfl
   ·have hrow:=e.row (w9 m s (w.take k)).toNat (by omega)
    rw [uy (by omega),zk h,zk (show okI (ix m.rows (w9 m s (w.take k))) (ix w (k:Int)) from⟨b.1,show w.getD k default<((m.rows.getD (w9 m s (w.take k)).toNat default).length:Int) from by rw [hrow];exact b.2⟩)]
    unfold ry
    rw [if_neg (by omega)];rfl
  refine Eq.trans (qc i) ?_
  have c:=z2j m s (w.take k)
  rw [List.length_take] at c
  rw [zk (qo (by rw [List.length_append,List.length_replicate,c];omega)),zk (qm (by omega)),z4g,q05 _ _ _ _ (by omega) a,←zb6 m s w k a,←zd0 m s w k a];rfl
 ·obtain⟨t,X⟩:=x
  obtain⟨rfl,rfl⟩:=hi
  simp only [z1f]
  rw [uo (by omega),List.take_length,Nat.sub_self,List.replicate_zero,List.append_nil]
theorem q3q{N:Nat}{m:Mach}{d:List Int}(b:MOk m){s:Nat}(e:s<m.rows.length)(c:z9r d m.inputs=0)(f:400≤N):z92 N m (s:Int) d=some (vv m (s:Int) d,0):=by
 have hw':=zsv c
 have a:z6n N m (s:Int)=some 0:=by
  unfold z6n
  rw [qc (q1v b (by omega)),uo (by decide),cf (by rw [←Bool.not_eq_true,Bool.or_eq_true,decide_eq_true_iff,decide_eq_true_iff];omega)]
 unfold z92
 rw [qc a,uo (by decide),qc (zpc (by omega) (by omega)),c,uo (by decide),qc (q7a b (.inr ⟨by omega,by omega⟩) hw'.1 (by omega) (by omega))]
/-! ### Which of a list's words answers so-/
theorem zzi{N:Nat}{s:List (List Int)}{f:List Int→Option Bool}{p:List Int→Bool}(c: ∀ k,k<s.length→f (s.getD k default)=some (p (s.getD k default)))(e:s.length<N)(g:s.length≤4611686018427387904):
 z0j N s f=some (s.any p):=by
 obtain⟨r,h,d⟩: ∃ r,xu N s f N 0=some r∧((s.any p=true∧ ∃ k:Nat,r=Ex.rt (k:Int))∨(s.any p=false∧r=Ex.go ())):=by
  refine fo (σ:=Unit) (fun F k _=>xu N s f F (k:Int)) s.length (fun k _=>(s.take k).any p=false) _ (fun F k _ a hi=>?_) (fun F _ hi=>?_) N 0 () (Nat.zero_le _) (by omega) (by simp)
  ·simp only [xu]
   rw [uy (by omega),zk (qo a),ak,qc (c k a)]
   cases hp:p (s.getD k default)
   ·right
    refine⟨(),by rw [z7o p s k a,hi,hp];rfl,?_⟩
    rw [cf rfl,zk (qm (by omega))];rfl
   ·left
    rw [ct rfl]
    exact⟨_,rfl,.inl ⟨List.any_eq_true.2 ⟨_,lq a,hp⟩,k,rfl⟩⟩
  ·simp only [xu]
   rw [uo (by omega)]
   rw [List.take_length] at hi
   exact⟨_,rfl,.inr ⟨hi,rfl⟩⟩
 unfold z0j z4b
 rw [qc h]
 rcases d with⟨b,k,rfl⟩|⟨b,rfl⟩
 ·rw [b]
  refine(qc (x:=(k:Int)) rfl).trans ?_
  rw [decide_eq_true (by omega)]
 ·rw [b];rfl
/-! ### Can-/
def zo1(m:Mach)(d:List Int)(k:Nat):Bool:=(List.range k).any fun j=>decide (vv m (j:Int) d=vv m (k:Int) d)
def zju(m:Mach)(d:List Int):Bool:=(List.range m.rows.length).any (zo1 m d)
noncomputable def canI(m:Mach)(d:List Int):Int:=if properM m≠0 then properM m else if 256<d.length then 3 else if d.any (zck m)=true then 1 else if 1<(knotsL m).length then 7 else if zju m d=true then 12 else 0
theorem zni(p:Nat→Bool)(k:Nat):(List.range (k+1)).any p=((List.range k).any p||p k):=by rw [List.range_succ,List.any_append];simp
theorem zm9{p:Nat→Bool}{k n:Nat}(a:k<n)(h:p k=true):(List.range n).any p=true:=List.any_eq_true.2 ⟨k,List.mem_range.2 a,h⟩
theorem zm2{m:Mach}(h:properM m=0):MOk m∧oo m=true∧connB m=true∧znr m=true:=by
 unfold properM at h
 by_cases hc:z2l m=0
 ·rw [if_neg (by omega)] at h
  refine⟨(z5l m).1 hc,?_⟩
  cases h1:oo m
  ·rw [h1,if_pos rfl] at h;omega
  cases h2:connB m
  ·rw [h1,h2,if_neg Bool.noConfusion,if_pos rfl] at h;omega
  cases h3:znr m
  ·rw [h1,h2,h3,if_neg Bool.noConfusion,if_neg Bool.noConfusion,if_pos rfl] at h;omega
  exact⟨rfl,rfl,rfl⟩
 ·rw [if_pos hc] at h;exact absurd h hc
theorem q50{N:Nat}{m:Mach}(a:MOk m)(b:connB m=true)(c:200≤N):z8l N m=some 0:=by
 have d:=(z5l m).2 a
 unfold z8l
 rw [qc (zif a.small c),d,if_neg (by decide),b]
 rfl
theorem zs4{m:Mach}{d:List Int}(a:MOk m):z9r d m.inputs=if 256<d.length then 3 else if d.any (zck m)=true then 1 else 0:=by
 have b:=a.i1;have c:=a.i2
 by_cases h:256<d.length
 ·rw [if_pos h,zsd (.inr h)]
 ·rw [if_neg h]
  by_cases hb:d.any (zck m)=true
  ·rw [if_pos hb,zrl (by omega) (.inr hb)]
  ·rw [if_neg hb]
   exact zr2 (by omega) (fun k=>k.elim (fun k=>by omega) hb)
theorem q69{N:Nat}{m:Mach}{d:List Int}(b:MOk m)(c:z9r d m.inputs=0)(g:400≤N):z1y N m d N [] 0=some (if zju m d=true then Ex.rt 12 else Ex.go ()):=by
 have n:=b.r2
 have hw':=zsv c
 refine uk (σ:=List (List Int)) (fun F k X=>z1y N m d F X (k:Int)) m.rows.length (fun k X=>X=(List.range k).map (fun j:Nat=>vv m (j:Int) d)∧(List.range k).any (zo1 m d)=false) _ (fun F k X f hi=>?_) (fun F X hi=>?_) N 0 [] (Nat.zero_le _) (by omega) ⟨rfl,rfl⟩
 ·obtain⟨rfl,a⟩:=hi
  have hlen:((List.range k).map (fun j:Nat=>vv m (j:Int) d)).length=k:=by simp
  have hany:((List.range k).map (fun j:Nat=>vv m (j:Int) d)).any (fun z=>decide (z=vv m (k:Int) d))=zo1 m d k:=by unfold zo1;rw [List.any_map];rfl
  simp only [z1y]
  rw [uy (by omega),qc (q3q b f c g),qc (zzi (p:=fun z=>decide (z=vv m (k:Int) d)) (fun j h=>by
   unfold zaz
   have l:(((List.range k).map (fun j:Nat=>vv m (j:Int) d)).getD j default).length≤256:=by
    obtain⟨i,_,e⟩:=List.mem_map.1 (lq h)
    rw [←e,z2j];exact hw'.2
   exact qc (zjj (by omega) (by omega))) (by omega) (by omega)),hany]
  cases hd:zo1 m d k
  ·right
   refine⟨(List.range k).map (fun j:Nat=>vv m (j:Int) d)++[vv m (k:Int) d],⟨by rw [List.range_succ,List.map_append];rfl,by rw [zni,a,hd];rfl⟩,?_⟩
   have hfit:fits 24 ((List.range k).map (fun j:Nat=>vv m (j:Int) d)) ([vv m (k:Int) d]:List (List Int)):=⟨by rw [List.length_singleton];omega,by rw [List.length_singleton];omega⟩
   rw [cf rfl,zk hfit,zk (qm (by omega))];rfl
  ·left
   rw [ct rfl,if_pos (show zju m d=true from zm9 f hd)]
 ·obtain⟨rfl,a⟩:=hi
  simp only [z1y]
  rw [uo (by omega),if_neg (by unfold zju;rw [a];decide)]
theorem q6m{N:Nat}{m:Mach}{d:List Int}(c:Small m)(j:d.length≤300)(e:400≤N):z6q N m d=some (canI m d):=by
 unfold z6q canI
 rw [qc (zxs c (by omega))]
 by_cases h:properM m=0
 ·obtain⟨a,f,b,g⟩:=zm2 h
  rw [uo (by omega),if_neg (by omega),qc (zpc (by omega) (by omega)),zs4 a]
  by_cases h1:256<d.length
  ·rw [if_pos h1,if_pos h1,uy (by decide)]
  rw [if_neg h1,if_neg h1]
  by_cases h2:d.any (zck m)=true
  ·rw [if_pos h2,if_pos h2,uy (by decide)]
  have i:z9r d m.inputs=0:=by rw [zs4 a,if_neg h1,if_neg h2]
  rw [if_neg h2,if_neg h2,uo (by decide),qc (zzk a (by omega) (q50 a b (by omega))),uo (show¬((knotsL m,(0:Int)).2≠0) from fun h=>h rfl)]
  by_cases h3:1<(knotsL m).length
  ·rw [if_pos h3,uy (show (1:Int)<((knotsL m).length:Int) by omega)]
  rw [if_neg h3,uo (show¬(1:Int)<((knotsL m).length:Int) by omega),qc (q69 a i e)]
  cases zju m d<;>rfl
 ·rw [uy h,if_pos h]
theorem q4y{N:Nat}{m:Mach}{d:List Int}(a:MOk m)(b:WOk m.inputs d)(g:d.length≤256)(l:400≤N){k:Nat}(c:k<m.rows.length):
 oz N m d (k:Int) N 0=some (if zo1 m d k=true then Ex.rt (Ex.rt 12) else Ex.go ()):=by
 have n:=a.r2
 refine uk (σ:=Unit) (fun F j _=>oz N m d (k:Int) F (j:Int)) k (fun j _=>(List.range j).any (fun j:Nat=>decide (vv m (j:Int) d=vv m (k:Int) d))=false) _ (fun F j _ f hi=>?_) (fun F _ hi=>?_) N 0 () (Nat.zero_le _) (by omega) rfl
 ·simp only [oz]
  have hrun: ∀ i:Nat,i<m.rows.length→z0z N m (i:Int) d=some (vv m (i:Int) d):=fun i h=>q3j a (.inr ⟨by omega,by omega⟩) b (by omega) (by omega)
  rw [uy (by omega),qc (hrun k c),qc (hrun j (by omega)),qc (zt2 (by rw [z2j];omega) (by rw [z2j];omega))]
  by_cases h:vv m (j:Int) d=vv m (k:Int) d
  ·left
   rw [uy h.symm,if_pos (show zo1 m d k=true from zm9 f (decide_eq_true h))]
  ·right
   refine⟨(),by rw [zni,hi,decide_eq_false h];rfl,?_⟩
   rw [uo (fun e=>h e.symm),zk (qm (by omega))];rfl
 ·simp only [oz]
  rw [uo (by omega),if_neg (by unfold zo1;rw [hi];decide)]
theorem q3c{N:Nat}{m:Mach}{d:List Int}(a:MOk m)(c:WOk m.inputs d)(e:d.length≤256)(f:400≤N):
 aa N m d N 0=some (if zju m d=true then Ex.rt 12 else Ex.go ()):=by
 have g:=a.r2
 refine uk (σ:=Unit) (fun F k _=>aa N m d F (k:Int)) m.rows.length (fun k _=>(List.range k).any (zo1 m d)=false) _ (fun F k _ b hi=>?_) (fun F _ hi=>?_) N 0 () (Nat.zero_le _) (by omega) rfl
 ·simp only [aa]
  rw [uy (by omega),qc (q4y a c e f b)]
  cases h:zo1 m d k
  ·right
   refine⟨(),by rw [zni,hi,h];rfl,?_⟩
   rw [if_neg Bool.false_ne_true,zkt]
   exact zk (qm (by omega))
  ·left
   rw [if_pos rfl,if_pos (show zju m d=true from zm9 b h)];rfl
 ·simp only [aa]
  rw [uo (by omega),if_neg (by unfold zju;rw [hi];decide)]
theorem q3n{N:Nat}{m:Mach}{d:List Int}(b:Small m)(j:d.length≤300)(c:400≤N):z4t N m d=some (canI m d):=by
 unfold z4t canI
 rw [qc (ztf b (by omega))]
 by_cases h:properM m=0
 ·obtain⟨a,e,f,g⟩:=zm2 h
  rw [uo (by omega),if_neg (by omega)]
  by_cases h1:256<d.length
  ·rw [if_pos h1,uy (by omega)]
  rw [if_neg h1,uo (by omega),qc (zxm (by omega) (by omega))]
  cases h2:d.any (zck m)
  ·have i:=zqg h2
   rw [if_neg Bool.false_ne_true]
   refine(cf rfl).trans ?_
   rw [qc (zzj a (by omega))]
   by_cases h3:1<(knotsL m).length
   ·rw [if_pos h3,uy (by omega)]
   rw [if_neg h3,uo (by omega),qc (q3c a i (by omega) c)]
   cases zju m d<;>rfl
  ·rw [if_pos rfl];exact ct rfl
 ·rw [uy h,if_pos h]
/-! ### The law-/
end GV
end Go.Proofs.YtplgbkaollfmkaaGreat

namespace Go.Proofs.YtplgbkaollfmkaaGreat
namespace GV
theorem wf_u8{x:Int}(h:(Lit.int .u8 x).wf=true):0≤x∧x≤255:=by simpa [Lit.wf,IntKind.min,IntKind.max,IntKind.signed,IntKind.bits] using h
theorem wf_u16{x:Int}(h:(Lit.int .u16 x).wf=true):0≤x∧x≤65535:=by simpa [Lit.wf,IntKind.min,IntKind.max,IntKind.signed,IntKind.bits] using h
theorem zwk{x:Sa}(h:q3y x):CDOk x:=⟨wf_u8 h.1,wf_u8 h.2.1,wf_u8 h.2.2.1,fun k a=>wf_u8 (h.2.2.2.1.1 _ (lq a)),fun k a=>wf_u16 (h.2.2.2.2.1 _ (lq a))⟩
theorem u8L{l:List Int}(h:q2y l): ∀ k,k<l.length→0≤l.getD k default∧l.getD k default≤255:=fun k a=>wf_u8 (h.1 _ (lq a))
end GV
end Go.Proofs.YtplgbkaollfmkaaGreat
