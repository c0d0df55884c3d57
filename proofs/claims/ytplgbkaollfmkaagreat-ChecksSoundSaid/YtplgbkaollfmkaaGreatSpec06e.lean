
import Derived.Test.YtplgbkaollfmkaaGreatBfs06
import Derived.Test.YtplgbkaollfmkaaGreatSpec06a
set_option linter.unusedVariables false
set_option linter.unusedSimpArgs false
namespace Go.Proofs.YtplgbkaollfmkaaGreat
namespace GV
set_option maxRecDepth 100000
def z1o(n:Nat)(All:List BE):List Bool:=(List.range n).map fun s=>occ All s
theorem z5b(n:Nat)(All:List BE):(z1o n All).length=n:=by simp [z1o]
theorem z9q{n:Nat}{All:List BE}{t:Nat}(h:t<n):(z1o n All).getD t default=occ All t:=by
 simp [z1o,List.getD_eq_getElem?_getD,h]
theorem q0r(All:List BE)(e:BE)(t:Nat):occ (All++[e]) t=(occ All t||decide (e.st=t)):=by simp [occ]
theorem zxc{n:Nat}{All:List BE}{e:BE}(h:e.st<n):(z1o n All).set e.st true=z1o n (All++[e]):=by
 refine z5s (by rw [List.length_set,z5b,z5b]) fun k a=>?_
 rw [List.length_set,z5b] at a
 rw [z9q a,q0r,List.getD_eq_getElem?_getD,List.getElem?_set]
 by_cases hek:e.st=k
 ·subst hek
  rw [if_pos rfl,z5b,if_pos h];simp
 ·rw [if_neg hek,←List.getD_eq_getElem?_getD,z9q a];simp [hek]
theorem zwp{n:Nat}{All:List BE}{t:Int}(a:0≤t)(h:t<n):ix (z1o n All) t=occ All t.toNat:=by
 rw [zem,z9q (by omega)]
theorem q23{m:Mach}{g p:Nat}{All:List BE}(h: ¬p<All.length):bfs m g p All=All:=by
 cases g with
 |zero=>rfl
 |succ g=>unfold bfs;rw [if_neg h]
end GV
end Go.Proofs.YtplgbkaollfmkaaGreat

namespace Go.Proofs.YtplgbkaollfmkaaGreat
namespace GV
set_option maxRecDepth 100000
def wdOf(P:List BE)(t:Nat):List Int:=((P.find? fun e=>decide (e.st=t)).map (·.wd)).getD []
def z0y(n:Nat)(P:List BE):List (List Int):=(List.range n).map (wdOf P)
theorem z3u(n:Nat)(P:List BE):(z0y n P).length=n:=by simp [z0y]
theorem z9m{n:Nat}{P:List BE}{t:Nat}(h:t<n):(z0y n P).getD t default=wdOf P t:=by
 simp [z0y,List.getD_eq_getElem?_getD,h]
theorem zoc(P:List BE)(e:BE)(t:Nat):wdOf (P++[e]) t=if occ P t=true then wdOf P t else if e.st=t then e.wd else []:=by
 unfold wdOf occ
 rw [List.find?_append]
 by_cases h:(P.any fun e=>decide (e.st=t))=true
 ·rw [if_pos h]
  obtain⟨x,a,b⟩:=List.any_eq_true.1 h
  cases hf:P.find? (fun e=>decide (e.st=t)) with
  |none=>exact absurd b (by simpa using List.find?_eq_none.1 hf x a)
  |some y=>rfl
 ·rw [if_neg h]
  have c:P.find? (fun e=>decide (e.st=t))=none:=List.find?_eq_none.2 fun x a b=>h (List.any_eq_true.2 ⟨x,a,b⟩)
  rw [c]
  by_cases he:e.st=t
  ·simp [he]
  ·simp [he]
theorem zyj{P:List BE}{t:Nat}(h:occ P t=false):wdOf P t=[]:=by
 unfold wdOf occ at*
 have a:P.find? (fun e=>decide (e.st=t))=none:=List.find?_eq_none.2 fun x b c=>by
  have:(P.any fun e=>decide (e.st=t))=true:=List.any_eq_true.2 ⟨x,b,c⟩
  rw [h] at this;cases this
 rw [a];rfl
theorem zv4{n:Nat}{P:List BE}{e:BE}(b:e.st<n)(c:occ P e.st=false):(z0y n P).set e.st e.wd=z0y n (P++[e]):=by
 refine z5s (by rw [List.length_set,z3u,z3u]) fun k a=>?_
 rw [List.length_set,z3u] at a
 rw [z9m a,zoc,List.getD_eq_getElem?_getD,List.getElem?_set]
 by_cases hek:e.st=k
 ·subst hek
  rw [if_pos rfl,z3u,if_pos b,c];simp
 ·rw [if_neg hek,←List.getD_eq_getElem?_getD,z9m a,if_neg hek]
  by_cases h:occ P k=true
  ·rw [if_pos h]
  ·rw [if_neg h,zyj (Bool.eq_false_iff.2 h)]
theorem zgh(P:List BE)(k:Nat)(h:k<P.length):P.take (k+1)=P.take k++[P.getD k default]:=by
 rw [List.take_add_one];simp [List.getD_eq_getElem?_getD,h]
section rch
variable {m : Mach} {s0 : Nat} {P : List BE}
theorem Rch.find(h:Rch m s0 P){j:Nat}: ∀ k,k≤P.length→j<k→wdOf (P.take k) (P.getD j default).st=(P.getD j default).wd
 |0,_,c=>by omega
 |k+1,f,c=>by
  rw [zgh P k (by omega),zoc]
  by_cases e:j=k
  ·subst e
   have a:occ (P.take j) (P.getD j default).st=false:=by
    cases hc:occ (P.take j) (P.getD j default).st with
    |false=>rfl
    |true=>
     obtain⟨i,hi,b⟩:=z4z.1 hc
     rw [List.length_take] at hi
     have d:(P.take j).getD i default=P.getD i default:=by simp only [List.getD_eq_getElem?_getD,List.getElem?_take,if_pos (show i<j by omega)]
     rw [d] at b
     have:=h.dis i j (by omega) (by omega) b
     omega
   rw [a,if_neg (by decide),if_pos rfl]
  ·have ih:=Rch.find h k (by omega) (show j<k by omega)
   have a:occ (P.take k) (P.getD j default).st=true:=z4z.2 ⟨j,by rw [List.length_take];omega,by simp only [List.getD_eq_getElem?_getD,List.getElem?_take,if_pos (show j<k by omega)]⟩
   rw [if_pos a,ih]
theorem Rch.fresh(h:Rch m s0 P){k:Nat}(b:k<P.length):occ (P.take k) (P.getD k default).st=false:=by
 cases hc:occ (P.take k) (P.getD k default).st with
 |false=>rfl
 |true=>
  obtain⟨i,hi,a⟩:=z4z.1 hc
  rw [List.length_take] at hi
  have c:(P.take k).getD i default=P.getD i default:=by simp only [List.getD_eq_getElem?_getD,List.getElem?_take,if_pos (show i<k by omega)]
  rw [c] at a
  have:=h.dis i k (by omega) b a
  omega
theorem Rch.wdOf(h:Rch m s0 P){j:Nat}(a:j<P.length):wdOf P (P.getD j default).st=(P.getD j default).wd:=by
 have:=h.find P.length (Nat.le_refl _) a
 rwa [List.take_length] at this
end rch
end GV
end Go.Proofs.YtplgbkaollfmkaaGreat

namespace Go.Proofs.YtplgbkaollfmkaaGreat
namespace GV
set_option maxRecDepth 100000
def nxt(K:Int):List Int→Option (List Int)
 | []=>none
 |d::r=>match nxt K r with
  |some r'=>some (d::r')
  |none=>if d+1<K then some ((d+1)::List.replicate r.length 0) else none
def zad(K:Int)(w:List Int):List Int:=(nxt K w).getD (List.replicate w.length 0++[0])
def Dg(K:Int)(w:List Int):Prop:= ∀ d∈w,0≤d∧d<K
theorem zum{K:Int}{w:List Int}:Dg K w↔WOk K w:=by
 constructor
 ·intro h k a;exact h _ (lq a)
 ·intro h d b
  obtain⟨k,a,rfl⟩:=List.mem_iff_getElem.1 b
  have:=h k a
  simpa [List.getD_eq_getElem?_getD,a] using this
theorem zew: ∀ {v:List Int} {n:Nat},(∀ d∈v,0≤d)→ ¬z8p v (List.replicate n 0)
 | [],_,_,h=>h
 |_::_,0,_,h=>h
 |d::v,n+1,a,h=>by
  rw [List.replicate_succ] at h
  have:=a d (by simp)
  rcases h with h|⟨_,h⟩
  ·omega
  ·exact zew (fun x b=>a x (by simp [b])) h
theorem zlh{K:Int}: ∀ {w v:List Int},nxt K w=none→Dg K v→ ¬z8p w v
 | [],_,_,_,h=>h
 |_::_,[],_,_,h=>h
 |d::r,e::v,a,b,h=>by
  unfold nxt at a
  cases hr:nxt K r with
  |some r'=>rw [hr] at a;cases a
  |none=>
   rw [hr] at a
   simp only at a
   split at a
   ·cases a
   ·have:=b e (by simp)
    rcases h with h|⟨_,h⟩
    ·omega
    ·exact zlh hr (fun x c=>b x (by simp [c])) h
theorem zly{K:Int}: ∀ {w u:List Int},nxt K w=some u→u.length=w.length∧(Dg K w→Dg K u)∧z8p w u∧ ∀ v,Dg K v→z8p v u→ ¬z8p w v
 | [],_,h=>by cases h
 |d::r,u,h=>by
  unfold nxt at h
  cases hr:nxt K r with
  |some r'=>
   rw [hr] at h
   simp only [Option.some.injEq] at h
   subst h
   obtain⟨i,j,k,l⟩:=zly hr
   refine⟨by simp [i],fun c x b=>?_,.inr ⟨rfl,k⟩,fun v g a hlt'=>?_⟩
   ·rcases List.mem_cons.1 b with rfl|b
    ·exact c _ (by simp)
    ·exact j (fun y m=>c y (by simp [m])) x b
   ·cases v with
    |nil=>exact a
    |cons e v=>
     rcases a with a|⟨rfl,a⟩
     ·rcases hlt' with hlt'|⟨rfl,_⟩<;>omega
     ·rcases hlt' with hlt'|⟨_,hlt'⟩
      ·omega
      ·exact l v (fun x b=>g x (by simp [b])) a hlt'
  |none=>
   rw [hr] at h
   simp only at h
   split at h
   ·rename_i hK
    simp only [Option.some.injEq] at h
    subst h
    refine⟨by simp,fun c x b=>?_,.inl (by omega),fun v g a hlt'=>?_⟩
    ·rcases List.mem_cons.1 b with rfl|b
     ·have:=c d (by simp);omega
     ·have:=(List.mem_replicate.1 b).2
      have:=c d (by simp);omega
    ·cases v with
     |nil=>exact a
     |cons e v=>
      have f:Dg K v:=fun x b=>g x (by simp [b])
      rcases a with a|⟨rfl,a⟩
      ·rcases hlt' with hlt'|⟨rfl,hlt'⟩
       ·omega
       ·exact zlh hr f hlt'
      ·exact zew (fun x b=>(f x b).1) a
   ·cases h
theorem zru{K:Int}(q:1≤K){w:List Int}(i:Dg K w):Dg K (zad K w)∧llt w (zad K w)∧ ∀ v,Dg K v→llt v (zad K w)→lle v w:=by
 unfold zad
 cases h:nxt K w with
 |some u=>
  obtain⟨j,l,m,n⟩:=zly h
  refine⟨l i,.inr ⟨j.symm,m⟩,fun v f c=>?_⟩
  rcases c with c|⟨g,c⟩
  ·exact .inr (.inl (by simp only [Option.getD_some] at c;omega))
  ·simp only [Option.getD_some] at g c
   rcases zbs (a:=v) (b:=w) (by omega) with k|rfl|k
   ·exact .inr (.inr ⟨by omega,k⟩)
   ·exact .inl rfl
   ·exact absurd k (n v f c)
 |none=>
  simp only [Option.getD_none]
  have e:List.replicate w.length (0:Int)++[0]=List.replicate (w.length+1) 0:=by rw [List.replicate_succ']
  rw [e]
  refine⟨fun d o=>by rw [(List.mem_replicate.1 o).2];omega,.inl (by simp),fun v f c=>?_⟩
  rcases c with c|⟨g,c⟩
  ·rw [List.length_replicate] at c
   by_cases hvl:v.length=w.length
   ·rcases zbs hvl with k|rfl|k
    ·exact .inr (.inr ⟨hvl,k⟩)
    ·exact .inl rfl
    ·exact absurd k (zlh h f)
   ·exact .inr (.inl (by omega))
  ·exact absurd c (zew fun x p=>(f x p).1)
theorem zw1{K:Int}{b b':List Int}(h:nxt K b=some b'): ∀ a:List Int,nxt K (a++b)=some (a++b')
 | []=>h
 |d::a=>by
  show (match nxt K (a++b) with|some r'=>some (d::r')|none=>_)=_
  rw [zw1 h a];rfl
theorem q4k{K:Int}{w:List Int}:w.length≤(zad K w).length∧(zad K w).length≤w.length+1:=by
 unfold zad
 cases h:nxt K w with
 |some u=>have:=(zly h).1;simp only [Option.getD_some];omega
 |none=>simp
theorem set_mid{A B:List Int}{c v:Int}:((A++[c])++B).set A.length v=A++v::B:=by
 rw [List.append_assoc,List.set_append_right _ _ (Nat.le_refl _),Nat.sub_self];rfl
theorem zzs{N:Nat}{K:Int}{w:List Int}(o:w.length<N)(q:w.length≤100000)(l:Dg K w)(r:K≤1000):z1u N w K=some (zad K w):=by
 unfold z1u
 have f:fits 8 ([]:List Int) w:=⟨by simp only [List.length_nil];omega,by simp only [List.length_nil];omega⟩
 rw [zk f,List.nil_append]
 have m:pg N K N ((w.length:Int)-1) w=some (match nxt K w with|some u=>Ex.rt u|none=>Ex.go (List.replicate w.length 0)):=by
  have key:=uk (σ:=List Int) (fun F k s=>pg N K F ((w.length:Int)-1-(k:Int)) s) w.length
   (fun k s=>k≤w.length∧s=w.take (w.length-k)++List.replicate k 0∧nxt K (w.drop (w.length-k))=none) (match nxt K w with|some u=>Ex.rt u|none=>Ex.go (List.replicate w.length 0)) (fun F k s t hi=>?_) (fun F s hi=>?_) N 0 w (Nat.zero_le _) (by omega) ⟨Nat.zero_le _,by simp,by rw [Nat.sub_zero,List.drop_length];rfl⟩
  ·simpa using key
  ·obtain⟨_,rfl,e⟩:=hi
   have b:w.length-1-k<w.length:=by omega
   generalize hpe:w.length-1-k=p at b
   have hidx:(w.length:Int)-1-(k:Int)=(p:Int):=by omega
   have htake:w.take (w.length-k)=w.take p++[w.getD p default]:=by rw [show w.length-k=p+1 by omega];exact zcm w p b
   have hdrop:w.drop p=w.getD p default::w.drop (w.length-k):=by rw [zfj w p b,show p+1=w.length-k by omega]
   have a:(w.take (w.length-k)++List.replicate k (0:Int)).length=w.length:=by simp;omega
   have g:ix (w.take (w.length-k)++List.replicate k (0:Int)) (p:Int)=w.getD p default:=by
    rw [ak,List.getD_eq_getElem?_getD,List.getElem?_append_left (by rw [List.length_take];omega),List.getElem?_take,if_pos (by omega),←List.getD_eq_getElem?_getD]
   have n:=zum.1 l p b
   have hsplit:w=w.take p++(w.getD p default::w.drop (w.length-k)):=by rw [←hdrop,List.take_append_drop]
   have hset: ∀ v,up (w.take (w.length-k)++List.replicate k (0:Int)) (p:Int) v=w.take p++v::List.replicate k 0:=fun v=>by
    rw [z4g,htake]
    have:=set_mid (A:=w.take p) (B:=List.replicate k (0:Int)) (c:=w.getD p default) (v:=v)
    rwa [List.length_take,Nat.min_eq_left (by omega)] at this
   have i:(w.drop (w.length-k)).length=k:=by rw [List.length_drop];omega
   have d:nxt K (w.getD p default::w.drop (w.length-k))=if w.getD p default+1<K then some ((w.getD p default+1)::List.replicate k 0) else none:=by
    show (match nxt K (w.drop (w.length-k)) with|some r'=>_|none=>_)=_
    rw [e,i]
   simp only [pg]
   simp only [hidx,g]
   rw [uy (by omega),zk (qo (by rw [a];exact b)),zk (qm (by omega))]
   by_cases hc:w.getD p default+1<K
   ·left
    rw [uy hc,zk (qo (by rw [a];exact b)),zk (qm (by omega)),zk (qo (by rw [a];exact b)),hset]
    rw [if_pos hc] at d
    have hw':nxt K w=some (w.take p++((w.getD p default+1)::List.replicate k 0)):=by
     have:=zw1 d (w.take p)
     rwa [←hsplit] at this
    rw [hw']
   ·right
    refine⟨w.take p++0::List.replicate k 0,⟨by omega,?_,?_⟩,?_⟩
    ·rw [show w.length-(k+1)=p by omega,List.replicate_succ]
    ·rw [show w.length-(k+1)=p by omega,hdrop,d,if_neg hc]
    ·rw [uo hc,zk (qo (by rw [a];exact b)),zk (qm (by omega)),hset]
     congr 1
     omega
  ·obtain⟨_,rfl,e⟩:=hi
   rw [Nat.sub_self,List.drop_zero] at e
   simp only [pg]
   rw [uo (by omega),e,Nat.sub_self,List.take_zero,List.nil_append]
 rw [qc (show (gd (in64 ((w.length:Int)-1)) (pg N K N ((w.length:Int)-1) w))=some (match nxt K w with|some u=>Ex.rt u|none=>Ex.go (List.replicate w.length 0)) from by rw [zk (qm (by omega)),m])]
 unfold zad
 cases h:nxt K w with
 |some u=>rfl
 |none=>
  simp only
  rw [zkt]
  have j:fits 8 (List.replicate w.length (0:Int)) ([0]:List Int):=⟨by simp only [List.length_replicate,List.length_singleton];omega,by simp only [List.length_replicate,List.length_singleton];omega⟩
  rw [zk j];rfl
def zlc(K:Int):Nat→List Int
 |0=>[]
 |k+1=>zad K (zlc K k)
theorem ztt: ∀ K,1≤K→K≤3→6≤(zlc K 364).length:=by
 intro K a b
 have:K=1∨K=2∨K=3:=by omega
 rcases this with rfl|rfl|rfl<;>decide+kernel
theorem zr4{K:Int}(a:1≤K): ∀ k,Dg K (zlc K k)
 |0=>fun d b=>by simp [zlc] at b
 |k+1=>(zru a (zr4 a k)).1
theorem zxo{N:Nat}{m:Mach}(D:MOk m)(hN:400≤N)(h6:m.rows.length≤6)(h3:m.inputs≤3){s0:Nat}(hs:s0<m.rows.length):z1b N m (s0:Int)=some (z0y m.rows.length (rch m s0),z1o m.rows.length (rch m s0)):=by
 have o:=zh5 D hs
 generalize hPe:rch m s0=P at o⊢
 have v:=D.i1
 unfold z1b
 rw [zk ⟨by omega,by omega,by omega⟩,zk ⟨by omega,by omega,by omega⟩]
 have e1:mk (m.rows.length:Int) ([]:List Int)=z0y m.rows.length (P.take 0):=by
  rw [z7v]
  refine z5s (by rw [List.length_replicate,z3u]) fun k u=>?_
  rw [List.length_replicate] at u
  rw [z9m u]
  simp [List.getD_eq_getElem?_getD,u,wdOf]
 have e2:mk (m.rows.length:Int) false=z1o m.rows.length (P.take 0):=by
  rw [z7v]
  refine z5s (by rw [List.length_replicate,z5b]) fun k u=>?_
  rw [List.length_replicate] at u
  rw [z9q u]
  simp [List.getD_eq_getElem?_getD,u,occ]
 have hL:yg N m (s0:Int) N [] (mk (m.rows.length:Int) ([]:List Int)) (mk (m.rows.length:Int) false)=some (z0y m.rows.length P,z1o m.rows.length P):=by
  refine uk (σ:=List Int×List (List Int)×List Bool) (fun F k s=>yg N m (s0:Int) F s.1 s.2.1 s.2.2) 364
   (fun k s=>s.1=zlc m.inputs k∧s.1.length≤6∧ ∃ c,c≤P.length∧s.2=(z0y m.rows.length (P.take c),z1o m.rows.length (P.take c))∧(∀ j,j<c→llt (P.getD j default).wd s.1)∧ ∀ j,c≤j→j<P.length→lle s.1 (P.getD j default).wd)
   _ (fun F k s u hi=>?_) (fun F s hi=>?_) N 0 ([],_,_) (Nat.zero_le _) (by omega) ⟨rfl,by simp,0,Nat.zero_le _,Prod.ext e1 e2,fun j d=>by omega,fun j _ d=>?_⟩
  ·obtain⟨w,l,is⟩:=s
   obtain⟨B,x,c,hc,p,q,f⟩:=hi
   simp only at B x p q f
   obtain⟨rfl,rfl⟩:=Prod.mk.inj p
   have y:=B▸zr4 v k
   have z:=zum.1 y
   simp only [yg]
   by_cases hlen:w.length<m.rows.length
   ·right
    rw [uy (by omega)]
    have haft:=zhi (N:=N) D N (s0:Int) w (.inr ⟨by omega,by omega⟩) z (by omega)
    have E:=zhg m D (s0:Int) w (.inr ⟨by omega,by omega⟩) z
    obtain⟨ah,M,O⟩:=zru v y
    have ai:=q4k (K:=m.inputs) (w:=w)
    have G:=zzs (N:=N) (K:=m.inputs) (w:=w) (by omega) (by omega) y (by omega)
    have go: ∀ c',c'≤P.length→(∀ j,j<c'→lle (P.getD j default).wd w)→(∀ j,c'≤j→j<P.length→llt w (P.getD j default).wd)→
     (zad m.inputs w=zlc m.inputs (k+1)∧(zad m.inputs w).length≤6∧ ∃ c,c≤P.length∧(z0y m.rows.length (P.take c'),z1o m.rows.length (P.take c'))=(z0y m.rows.length (P.take c),z1o m.rows.length (P.take c))∧(∀ j,j<c→llt (P.getD j default).wd (zad m.inputs w))∧ ∀ j,c≤j→j<P.length→lle (zad m.inputs w) (P.getD j default).wd):=fun c' hc' C Q=>
     ⟨by rw [B];rfl,by omega,c',hc',rfl,fun j d=>zqa (C j d) M,fun j d g=>by
      rcases zxp (zad m.inputs w) (P.getD j default).wd with h|h|h
      ·exact .inr h
      ·exact .inl h
      ·exact absurd (Q j d g) (zdn (O _ (zum.2 (o.wok j g).1) h))⟩
    have strict: ∀ j,j<P.length→lle w (P.getD j default).wd→(P.getD j default).wd≠w→llt w (P.getD j default).wd:=fun j d h R=>h.resolve_left fun e=>R e.symm
    have hsame:w9 m (s0:Int) w= -1∨(0≤w9 m (s0:Int) w∧ix (z1o m.rows.length (P.take c)) (w9 m (s0:Int) w)=true)→
     ∃ s':List Int×List (List Int)×List Bool,(s'.1=zlc m.inputs (k+1)∧s'.1.length≤6∧ ∃ c,c≤P.length∧s'.2=(z0y m.rows.length (P.take c),z1o m.rows.length (P.take c))∧(∀ j,j<c→llt (P.getD j default).wd s'.1)∧ ∀ j,c≤j→j<P.length→lle s'.1 (P.getD j default).wd)∧
     (bd (bd (vg N N m (s0:Int) w) fun n=>gd ((true&&((decide (0≤n))==true))=true→okI (z1o m.rows.length (P.take c)) n)<|bif (decide (0≤n))&&(!(ix (z1o m.rows.length (P.take c)) n)) then(gd (okI (z1o m.rows.length (P.take c)) n)<|gd (okI (z0y m.rows.length (P.take c)) n)<|some ((up (z0y m.rows.length (P.take c)) n w),(up (z1o m.rows.length (P.take c)) n true))) else(some (z0y m.rows.length (P.take c),z1o m.rows.length (P.take c)))) fun H=>bd (z1u N w m.inputs) fun I=>yg N m (s0:Int) F I H.1 H.2)=yg N m (s0:Int) F s'.1 s'.2.1 s'.2.2:=fun hcase=>by
     refine⟨(zad m.inputs w,z0y m.rows.length (P.take c),z1o m.rows.length (P.take c)),go c hc (fun j d=> .inr (q j d)) (fun j d g=>strict j g (f j d g) fun e=>?_),?_⟩
     ·have S:=o.aft j g
      rw [e] at S
      rcases hcase with h|⟨h0,h⟩
      ·rw [S] at h;omega
      ·rw [S,zwp (by omega) (by have:=o.rng j g;omega)] at h
       obtain⟨i,hi,r⟩:=z4z.1 h
       rw [List.length_take] at hi
       have hg:(P.take c).getD i default=P.getD i default:=by simp only [List.getD_eq_getElem?_getD,List.getElem?_take,if_pos (show i<c by omega)]
       rw [hg] at r
       have:=o.dis i j (by omega) g (by omega)
       omega
     ·rw [qc (show _=some (z0y m.rows.length (P.take c),z1o m.rows.length (P.take c)) from by
       rw [qc haft]
       rcases hcase with h|⟨h0,h⟩
       ·rw [h,zk (by simp)];rfl
       ·have T:w9 m (s0:Int) w<m.rows.length:=by rcases E with e|e<;>omega
        rw [zk (fun _=>⟨h0,by rw [z5b];exact T⟩),h,cf (by simp)]),qc G]
    by_cases ht:w9 m (s0:Int) w= -1
    ·exact hsame (.inl ht)
    ·obtain⟨J,U⟩:=E.resolve_left ht
     by_cases hseen:ix (z1o m.rows.length (P.take c)) (w9 m (s0:Int) w)=true
     ·exact hsame (.inr ⟨J,hseen⟩)
     ·obtain⟨j,d,r,V⟩:=o.least D _ w rfl z ht
      have W:c≤j:=by
       rcases Nat.lt_or_ge j c with h|h
       ·exfalso
        apply hseen
        rw [zwp J U]
        refine z4z.2 ⟨j,by rw [List.length_take];omega,?_⟩
        simp only [List.getD_eq_getElem?_getD,List.getElem?_take,if_pos h]
        rw [←List.getD_eq_getElem?_getD];omega
       ·exact h
      have t:(P.getD j default).wd=w:=by
       rcases V with h|h
       ·exact h
       ·exact absurd h (zdn (f j W d))
      have X:j=c:=by
       rcases Nat.lt_or_ge c j with h|h
       ·have C:=o.inc c j h d
        rw [t] at C
        exact absurd C (zdn (f c (Nat.le_refl _) (by omega)))
       ·omega
      subst X
      have L:=o.rng j d
      have Y:=o.fresh d
      refine⟨(zad m.inputs w,z0y m.rows.length (P.take (j+1)),z1o m.rows.length (P.take (j+1))),go (j+1) (by omega) (fun i hi=>?_) (fun i hi Z=>?_),?_⟩
      ·by_cases e:i=j
       ·subst e;rw [t];exact .inl rfl
       ·exact .inr (q i (by omega))
      ·have:=o.inc j i (by omega) Z
       rwa [t] at this
      ·rw [qc (show _=some (z0y m.rows.length (P.take (j+1)),z1o m.rows.length (P.take (j+1))) from by
        rw [qc haft,←r]
        rw [←r] at hseen
        rw [zk (fun _=>qo (by rw [z5b];exact L)),ct (by rw [Bool.eq_false_iff.2 hseen];simp),zk (qo (by rw [z5b];exact L)),zk (qo (by rw [z3u];exact L)),z4g,z4g,zxc L,←zgh P j d]
        have:=zv4 L Y
        rw [t,←zgh P j d] at this
        rw [this]),qc G]
   ·left
    rw [uo (by omega)]
    have A:c=P.length:=by
     rcases Nat.lt_or_ge c P.length with h|h
     ·have C:=(o.wok c h).2
      have Q:=o.le
      exact absurd (show llt (P.getD c default).wd w from .inl (by omega)) (zdn (f c (Nat.le_refl _) h))
     ·omega
    rw [A,List.take_length]
  ·obtain⟨w,l,is⟩:=s
   obtain⟨B,x,c,hc,p,q,f⟩:=hi
   simp only at B x p q f
   obtain⟨rfl,rfl⟩:=Prod.mk.inj p
   have h6':=ztt m.inputs v h3
   rw [←B] at h6'
   simp only [yg]
   rw [uo (by omega)]
   have A:c=P.length:=by
    rcases Nat.lt_or_ge c P.length with h|h
    ·have C:=(o.wok c h).2
     have Q:=o.le
     exact absurd (show llt (P.getD c default).wd w from .inl (by omega)) (zdn (f c (Nat.le_refl _) h))
    ·omega
   rw [A,List.take_length]
  ·show lle [] _
   cases hwd:(P.getD j default).wd with
   |nil=>exact .inl rfl
   |cons a b=>exact .inr (.inl (by simp))
 rw [qc hL]
end GV
end Go.Proofs.YtplgbkaollfmkaaGreat

namespace Go.Proofs.YtplgbkaollfmkaaGreat
namespace GV
set_option maxRecDepth 100000
theorem q1v{N:Nat}{m:Mach}(a:MOk m)(b:200≤N):lu N m=some 0:=by rw [zhx a.small b,(z5l m).2 a]
theorem zuq{N:Nat}{m:Mach}(a:MOk m)(b:400≤N)(c:m.rows.length≤6)(d:m.inputs≤3):z1z N m=some (z0y m.rows.length (rch m 0),z1o m.rows.length (rch m 0)):=by
 have e:=a.r1
 unfold z1z
 rw [qc (show z1b N m 0=_ from zxo a b c d (s0:=0) (by omega))]
def z4n(P:List BE):List Int:=P.map fun e=>(e.st:Int)
end GV
end Go.Proofs.YtplgbkaollfmkaaGreat
