
import Derived.Test.YtplgbkaollfmkaaGreatKnots39c
import Derived.Test.YtplgbkaollfmkaaGreatLaw39a
import Derived.Test.YtplgbkaollfmkaaGreatSpec04b
import Derived.Test.YtplgbkaollfmkaaGreatSpec09e
import Derived.Test.YtplgbkaollfmkaaGreatShOpens
set_option linter.unusedVariables false
set_option linter.unusedSimpArgs false
namespace Go.Proofs.YtplgbkaollfmkaaGreat
namespace GV
set_option maxRecDepth 100000
/-! ### Words and runs,the program's-/
theorem zp8{N:Nat}{w:List Int}{n:Int}(b:w.length<N)(c:w.length≤4611686018427387904):z8f N w n=some (z9f w n):=by
 unfold z8f
 by_cases h:16<n∨256<w.length
 ·rw [ct (by simp;omega),zs2 h]
 ·rw [cf (by simp;omega)]
  rw [zek (fun _=>zow (p:=zgs n) (fun j d=>rfl) b c)]
  by_cases h1:n<1∨w.any (zgs n)=true
  ·rw [zsn h h1]
   refine ct ?_
   by_cases a:n<1
   ·rw [decide_eq_true a];rfl
   ·rw [decide_eq_false a];exact h1.resolve_left a
  ·rw [zss h h1]
   refine cf ?_
   rw [decide_eq_false (fun a=>h1 (.inl a))]
   exact Bool.eq_false_iff.2 fun a=>h1 (.inr a)
theorem q6q{N:Nat}{m:Mach}(e:MOk m){s:Int}{w:List Int}(g:SOk m s)(f:WOk m.inputs w)(j:w.length<N)(l:w.length≤1000000):z8z N m s w=some (z4c m s w,uk m s w):=by
 unfold z8z
 rw [zh ⟨by omega,by omega,by omega⟩,z6f]
 refine Eq.trans (q8 (x:=(uk m s w,z4c m s w)) ?_) rfl
 refine kz (σ:=Int×List Int) (fun F k x=>z1q N m w F x.1 (k:Int) x.2) w.length (fun k x=>x.1=uk m s (w.take k)∧x.2=z4c m s (w.take k)++List.replicate (w.length-k) (0:Int)) _ (fun F k x a hi=> .inr ?_) (fun F x hi=>?_) N 0 (s,List.replicate w.length 0) (Nat.zero_le _) (by omega) (by simp [uk,z4c])
 ·obtain⟨t,X⟩:=x
  obtain⟨rfl,rfl⟩:=hi
  have d:=zlg m e s (w.take k) g (zhp f k)
  have b:=f k a
  refine⟨(uk m s (w.take (k+1)),z4c m s (w.take (k+1))++List.replicate (w.length-(k+1)) (0:Int)),⟨rfl,rfl⟩,?_⟩
  simp only [z1q]
  rw [ui (by omega),zh (ql a),show z3t N=some ⟨-1,-1⟩ from rfl,zpx]
  have i:(bif decide (uk m s (w.take k)≠ -1) then gd (okI m.rows (uk m s (w.take k)))<|gd (okI (ix m.rows (uk m s (w.take k))) (ix w (k:Int)))<|some ((ix (ix m.rows (uk m s (w.take k))) (ix w (k:Int))).to,(ix (ix m.rows (uk m s (w.take k))) (ix w (k:Int))).out) else some ((-1:Int),(-1:Int)))=
   some ((z1m m (uk m s (w.take k)) (w.getD k default)).to,(z1m m (uk m s (w.take k)) (w.getD k default)).out):=by
   rcases d with h|h
   ·rw [h];rfl
   ·have hrow:=e.row (uk m s (w.take k)).toNat (by omega)
    rw [ui (by omega),zh h,zh (show okI (ix m.rows (uk m s (w.take k))) (ix w (k:Int)) from⟨b.1,show w.getD k default<((m.rows.getD (uk m s (w.take k)).toNat default).length:Int) from by rw [hrow];exact b.2⟩)]
    unfold z1m
    rw [if_neg (by omega)];rfl
  refine Eq.trans (q8 i) ?_
  have c:=z8a m s (w.take k)
  rw [List.length_take] at c
  rw [zh (ql (by rw [List.length_append,List.length_replicate,c];omega)),zh (qh (by omega)),z1n,q39 _ _ _ _ (by omega) a,←zg6 m s w k a,←zoo m s w k a];rfl
 ·obtain⟨t,X⟩:=x
  obtain⟨rfl,rfl⟩:=hi
  simp only [z1q]
  rw [uh (by omega),List.take_length,Nat.sub_self,List.replicate_zero,List.append_nil]
theorem q3o{N:Nat}{m:Mach}{d:List Int}(b:MOk m){s:Nat}(e:s<m.rows.length)(c:z9f d m.inputs=0)(f:400≤N):z8s N m (s:Int) d=some (z4c m (s:Int) d,0):=by
 have hw':=zrw c
 have a:z6t N m (s:Int)=some 0:=by
  unfold z6t
  rw [q8 (q2a b (by omega)),uh (by decide),cf (by rw [←Bool.not_eq_true,Bool.or_eq_true,decide_eq_true_iff,decide_eq_true_iff];omega)]
 unfold z8s
 rw [q8 a,uh (by decide),q8 (zp8 (by omega) (by omega)),c,uh (by decide),q8 (q6q b (.inr ⟨by omega,by omega⟩) hw'.1 (by omega) (by omega))]
/-! ### Which of a list's words answers so-/
theorem zyb{N:Nat}{s:List (List Int)}{f:List Int→Option Bool}{p:List Int→Bool}(c: ∀ k,k<s.length→f (s.getD k default)=some (p (s.getD k default)))(e:s.length<N)(g:s.length≤4611686018427387904):
 z0r N s f=some (s.any p):=by
 obtain⟨r,h,d⟩: ∃ r,yz N s f N 0=some r∧((s.any p=true∧ ∃ k:Nat,r=Ex.rt (k:Int))∨(s.any p=false∧r=Ex.go ())):=by
  refine iy (σ:=Unit) (fun F k _=>yz N s f F (k:Int)) s.length (fun k _=>(s.take k).any p=false) _ (fun F k _ a hi=>?_) (fun F _ hi=>?_) N 0 () (Nat.zero_le _) (by omega) (by simp)
  ·simp only [yz]
   rw [ui (by omega),zh (ql a),dn,q8 (c k a)]
   cases hp:p (s.getD k default)
   ·right
    refine⟨(),by rw [z7j p s k a,hi,hp];rfl,?_⟩
    rw [cf rfl,zh (qh (by omega))];rfl
   ·left
    rw [ct rfl]
    exact⟨_,rfl,.inl ⟨List.any_eq_true.2 ⟨_,l8 a,hp⟩,k,rfl⟩⟩
  ·simp only [yz]
   rw [uh (by omega)]
   rw [List.take_length] at hi
   exact⟨_,rfl,.inr ⟨hi,rfl⟩⟩
 unfold z0r z4m
 rw [q8 h]
 rcases d with⟨b,k,rfl⟩|⟨b,rfl⟩
 ·rw [b]
  refine(q8 (x:=(k:Int)) rfl).trans ?_
  rw [decide_eq_true (by omega)]
 ·rw [b];rfl
/-! ### Can-/
def znr(m:Mach)(d:List Int)(k:Nat):Bool:=(List.range k).any fun j=>decide (z4c m (j:Int) d=z4c m (k:Int) d)
def zqn(m:Mach)(d:List Int):Bool:=(List.range m.rows.length).any (znr m d)
noncomputable def canI(m:Mach)(d:List Int):Int:=if properM m≠0 then properM m else if 256<d.length then 3 else if d.any (ze1 m)=true then 1 else if 1<(knotsL m).length then 7 else if zqn m d=true then 12 else 0
theorem znl(p:Nat→Bool)(k:Nat):(List.range (k+1)).any p=((List.range k).any p||p k):=by rw [List.range_succ,List.any_append];simp
theorem zuw{p:Nat→Bool}{k n:Nat}(a:k<n)(h:p k=true):(List.range n).any p=true:=List.any_eq_true.2 ⟨k,List.mem_range.2 a,h⟩
theorem zi7{m:Mach}(h:properM m=0):MOk m∧mr m=true∧connB m=true∧zno m=true:=by
 unfold properM at h
 by_cases hc:z2w m=0
 ·rw [if_neg (by omega)] at h
  refine⟨(z5u m).1 hc,?_⟩
  cases h1:mr m
  ·rw [h1,if_pos rfl] at h;omega
  cases h2:connB m
  ·rw [h1,h2,if_neg Bool.noConfusion,if_pos rfl] at h;omega
  cases h3:zno m
  ·rw [h1,h2,h3,if_neg Bool.noConfusion,if_neg Bool.noConfusion,if_pos rfl] at h;omega
  exact⟨rfl,rfl,rfl⟩
 ·rw [if_pos hc] at h;exact absurd h hc
theorem q40{N:Nat}{m:Mach}(a:MOk m)(b:connB m=true)(c:200≤N):z8g N m=some 0:=by
 have d:=(z5u m).2 a
 unfold z8g
 rw [q8 (zim a.small c),d,if_neg (by decide),b]
 rfl
theorem zrc{m:Mach}{d:List Int}(a:MOk m):z9f d m.inputs=if 256<d.length then 3 else if d.any (ze1 m)=true then 1 else 0:=by
 have b:=a.i1;have c:=a.i2
 by_cases h:256<d.length
 ·rw [if_pos h,zs2 (.inr h)]
 ·rw [if_neg h]
  by_cases hb:d.any (ze1 m)=true
  ·rw [if_pos hb,zsn (by omega) (.inr hb)]
  ·rw [if_neg hb]
   exact zss (by omega) (fun k=>k.elim (fun k=>by omega) hb)
theorem q66{N:Nat}{m:Mach}{d:List Int}(b:MOk m)(c:z9f d m.inputs=0)(g:400≤N):z2h N m d N [] 0=some (if zqn m d=true then Ex.rt 12 else Ex.go ()):=by
 have n:=b.r2
 have hw':=zrw c
 refine kz (σ:=List (List Int)) (fun F k X=>z2h N m d F X (k:Int)) m.rows.length (fun k X=>X=(List.range k).map (fun j:Nat=>z4c m (j:Int) d)∧(List.range k).any (znr m d)=false) _ (fun F k X f hi=>?_) (fun F X hi=>?_) N 0 [] (Nat.zero_le _) (by omega) ⟨rfl,rfl⟩
 ·obtain⟨rfl,a⟩:=hi
  have hlen:((List.range k).map (fun j:Nat=>z4c m (j:Int) d)).length=k:=by simp
  have hany:((List.range k).map (fun j:Nat=>z4c m (j:Int) d)).any (fun z=>decide (z=z4c m (k:Int) d))=znr m d k:=by unfold znr;rw [List.any_map];rfl
  simp only [z2h]
  rw [ui (by omega),q8 (q3o b f c g),q8 (zyb (p:=fun z=>decide (z=z4c m (k:Int) d)) (fun j h=>by
   unfold zal
   have l:(((List.range k).map (fun j:Nat=>z4c m (j:Int) d)).getD j default).length≤256:=by
    obtain⟨i,_,e⟩:=List.mem_map.1 (l8 h)
    rw [←e,z8a];exact hw'.2
   exact q8 (zjc (by omega) (by omega))) (by omega) (by omega)),hany]
  cases hd:znr m d k
  ·right
   refine⟨(List.range k).map (fun j:Nat=>z4c m (j:Int) d)++[z4c m (k:Int) d],⟨by rw [List.range_succ,List.map_append];rfl,by rw [znl,a,hd];rfl⟩,?_⟩
   have hfit:fits 24 ((List.range k).map (fun j:Nat=>z4c m (j:Int) d)) ([z4c m (k:Int) d]:List (List Int)):=⟨by rw [List.length_singleton];omega,by rw [List.length_singleton];omega⟩
   rw [cf rfl,zh hfit,zh (qh (by omega))];rfl
  ·left
   rw [ct rfl,if_pos (show zqn m d=true from zuw f hd)]
 ·obtain⟨rfl,a⟩:=hi
  simp only [z2h]
  rw [uh (by omega),if_neg (by unfold zqn;rw [a];decide)]
theorem zqk{N:Nat}{m:Mach}{d:List Int}(c:Small m)(j:d.length≤300)(e:400≤N):z6r N m d=some (canI m d):=by
 unfold z6r canI
 rw [q8 (zym c (by omega))]
 by_cases h:properM m=0
 ·obtain⟨a,f,b,g⟩:=zi7 h
  rw [uh (by omega),if_neg (by omega),q8 (zp8 (by omega) (by omega)),zrc a]
  by_cases h1:256<d.length
  ·rw [if_pos h1,if_pos h1,ui (by decide)]
  rw [if_neg h1,if_neg h1]
  by_cases h2:d.any (ze1 m)=true
  ·rw [if_pos h2,if_pos h2,ui (by decide)]
  have i:z9f d m.inputs=0:=by rw [zrc a,if_neg h1,if_neg h2]
  rw [if_neg h2,if_neg h2,uh (by decide),q8 (zz4 a (by omega) (q40 a b (by omega))),uh (show¬((knotsL m,(0:Int)).2≠0) from fun h=>h rfl)]
  by_cases h3:1<(knotsL m).length
  ·rw [if_pos h3,ui (show (1:Int)<((knotsL m).length:Int) by omega)]
  rw [if_neg h3,uh (show¬(1:Int)<((knotsL m).length:Int) by omega),q8 (q66 a i e)]
  cases zqn m d<;>rfl
 ·rw [ui h,if_pos h]
theorem q4h{N:Nat}{m:Mach}{d:List Int}(a:MOk m)(b:WOk m.inputs d)(g:d.length≤256)(l:400≤N){k:Nat}(c:k<m.rows.length):
 aa N m d (k:Int) N 0=some (if znr m d k=true then Ex.rt (Ex.rt 12) else Ex.go ()):=by
 have n:=a.r2
 refine kz (σ:=Unit) (fun F j _=>aa N m d (k:Int) F (j:Int)) k (fun j _=>(List.range j).any (fun j:Nat=>decide (z4c m (j:Int) d=z4c m (k:Int) d))=false) _ (fun F j _ f hi=>?_) (fun F _ hi=>?_) N 0 () (Nat.zero_le _) (by omega) rfl
 ·simp only [aa]
  have hrun: ∀ i:Nat,i<m.rows.length→z1k N m (i:Int) d=some (z4c m (i:Int) d):=fun i h=>q5d a (.inr ⟨by omega,by omega⟩) b (by omega) (by omega)
  rw [ui (by omega),q8 (hrun k c),q8 (hrun j (by omega)),q8 (zf0 (by rw [z8a];omega) (by rw [z8a];omega))]
  by_cases h:z4c m (j:Int) d=z4c m (k:Int) d
  ·left
   rw [ui h.symm,if_pos (show znr m d k=true from zuw f (decide_eq_true h))]
  ·right
   refine⟨(),by rw [znl,hi,decide_eq_false h];rfl,?_⟩
   rw [uh (fun e=>h e.symm),zh (qh (by omega))];rfl
 ·simp only [aa]
  rw [uh (by omega),if_neg (by unfold znr;rw [hi];decide)]
theorem q5a{N:Nat}{m:Mach}{d:List Int}(a:MOk m)(c:WOk m.inputs d)(e:d.length≤256)(f:400≤N):
 oq N m d N 0=some (if zqn m d=true then Ex.rt 12 else Ex.go ()):=by
 have g:=a.r2
 refine kz (σ:=Unit) (fun F k _=>oq N m d F (k:Int)) m.rows.length (fun k _=>(List.range k).any (znr m d)=false) _ (fun F k _ b hi=>?_) (fun F _ hi=>?_) N 0 () (Nat.zero_le _) (by omega) rfl
 ·simp only [oq]
  rw [ui (by omega),q8 (q4h a c e f b)]
  cases h:znr m d k
  ·right
   refine⟨(),by rw [znl,hi,h];rfl,?_⟩
   rw [if_neg Bool.false_ne_true,zi9]
   exact zh (qh (by omega))
  ·left
   rw [if_pos rfl,if_pos (show zqn m d=true from zuw b h)];rfl
 ·simp only [oq]
  rw [uh (by omega),if_neg (by unfold zqn;rw [hi];decide)]
theorem zwb{N:Nat}{m:Mach}{d:List Int}(b:Small m)(j:d.length≤300)(c:400≤N):z3a N m d=some (canI m d):=by
 unfold z3a canI
 rw [q8 (zvb b (by omega))]
 by_cases h:properM m=0
 ·obtain⟨a,e,f,g⟩:=zi7 h
  rw [uh (by omega),if_neg (by omega)]
  by_cases h1:256<d.length
  ·rw [if_pos h1,ui (by omega)]
  rw [if_neg h1,uh (by omega),q8 (zxq (by omega) (by omega))]
  cases h2:d.any (ze1 m)
  ·have i:=zqt h2
   rw [if_neg Bool.false_ne_true]
   refine(cf rfl).trans ?_
   rw [q8 (zz1 a (by omega))]
   by_cases h3:1<(knotsL m).length
   ·rw [if_pos h3,ui (by omega)]
   rw [if_neg h3,uh (by omega),q8 (q5a a i (by omega) c)]
   cases zqn m d<;>rfl
  ·rw [if_pos rfl];exact ct rfl
 ·rw [ui h,if_pos h]
/-! ### The law-/
end GV
end Go.Proofs.YtplgbkaollfmkaaGreat

namespace Go.Proofs.YtplgbkaollfmkaaGreat
namespace GV
theorem wf_u8{x:Int}(h:(Lit.int .u8 x).wf=true):0≤x∧x≤255:=by simpa [Lit.wf,IntKind.min,IntKind.max,IntKind.signed,IntKind.bits] using h
theorem wf_u16{x:Int}(h:(Lit.int .u16 x).wf=true):0≤x∧x≤65535:=by simpa [Lit.wf,IntKind.min,IntKind.max,IntKind.signed,IntKind.bits] using h
theorem zx2{x:Sd}(h:q7s x):CDOk x:=⟨wf_u8 h.1,wf_u8 h.2.1,wf_u8 h.2.2.1,fun k a=>wf_u8 (h.2.2.2.1.1 _ (l8 a)),fun k a=>wf_u16 (h.2.2.2.2.1 _ (l8 a))⟩
theorem u8L{l:List Int}(h:q0d l): ∀ k,k<l.length→0≤l.getD k default∧l.getD k default≤255:=fun k a=>wf_u8 (h.1 _ (l8 a))
end GV
end Go.Proofs.YtplgbkaollfmkaaGreat
