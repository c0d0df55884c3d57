
import Derived.Test.YtncblcdhmcmkmaaBfs06
import Derived.Test.YtncblcdhmcmkmaaSpec06a
set_option linter.unusedVariables false
set_option linter.unusedSimpArgs false
namespace Go.Proofs.Ytncblcdhmcmkmaa
namespace GV
set_option maxRecDepth 100000
def toA(e:BE):Sa:=⟨(e.st:Int),e.par,e.inp⟩
def xm(n:Nat)(All:List BE):List Bool:=(List.range n).map fun s=>occ All s
theorem ou(n:Nat)(All:List BE):(xm n All).length=n:=by simp [xm]
theorem z0n{n:Nat}{All:List BE}{t:Nat}(h:t<n):(xm n All).getD t default=occ All t:=by
 simp [xm,List.getD_eq_getElem?_getD,h]
theorem zj6(All:List BE)(e:BE)(t:Nat):occ (All++[e]) t=(occ All t||decide (e.st=t)):=by simp [occ]
theorem z9z{n:Nat}{All:List BE}{e:BE}(h:e.st<n):(xm n All).set e.st true=xm n (All++[e]):=by
 refine z0q (by rw [List.length_set,ou,ou]) fun k a=>?_
 rw [List.length_set,ou] at a
 rw [z0n a,zj6,List.getD_eq_getElem?_getD,List.getElem?_set]
 by_cases hek:e.st=k
 ·subst hek
  rw [if_pos rfl,ou,if_pos h];simp
 ·rw [if_neg hek,←List.getD_eq_getElem?_getD,z0n a];simp [hek]
theorem zgv{n:Nat}{All:List BE}{t:Int}(a:0≤t)(h:t<n):ix (xm n All) t=occ All t.toNat:=by
 rw [zkr,z0n (by omega)]
theorem zd4{All:List BE}{p:Nat}(a:p<All.length):ix ((All.drop p).map toA) 0=toA (All.getD p default):=by
 rw [z7r All p a];rfl
theorem zm7{All:List BE}{p:Nat}:cut ((All.drop p).map toA) 1 (((All.drop p).map toA).length:Int)=(All.drop (p+1)).map toA:=by
 unfold cut
 rw [Int.toNat_natCast,show (1:Int).toNat=1 from rfl,←List.map_drop,List.drop_drop,List.take_of_length_le (by simp only [List.length_map,List.length_drop];omega)]
theorem zr5{N:Nat}{m:Mach}(a:MOk m)(t:200≤N){σ:Type}{s0 p:Nat}{All:List BE}(h:Inv m s0 p 0 All)(b:p<All.length)(s:σ):
 mf N σ m ((All.drop p).map toA) N s 0 (xm m.rows.length All) ((All.drop (p+1)).map toA)=some (.go (s,xm m.rows.length (oq m (All.getD p default) All m.inputs.toNat),((oq m (All.getD p default) All m.inputs.toNat).drop (p+1)).map toA)):=by
 have hi1:=a.i1
 have hi2:=a.i2
 have l:=h.rng p b
 have hrow:=a.row _ l
 refine xu (σ:=List Bool×List Sa) (fun F k st=>mf N σ m ((All.drop p).map toA) F s (k:Int) st.1 st.2) m.inputs.toNat
  (fun k st=>st=(xm m.rows.length (oq m (All.getD p default) All k),((oq m (All.getD p default) All k).drop (p+1)).map toA)) _ (fun F k st n hi=>?_) (fun F st hi=>?_) N 0 _ (Nat.zero_le _) (by omega) rfl
 ·subst hi
  right
  refine⟨_,rfl,?_⟩
  have hinv:=zbm a h b k (by omega)
  have hpre:=z2z m (All.getD p default) All k
  have o:p<(oq m (All.getD p default) All k).length:=by have:=hpre.length_le;omega
  have hlen:=za1 hinv
  have q:=a.r2
  simp only [mf,zd4 b]
  simp only [show ∀ e:BE,(toA e).fB=(e.st:Int) from fun _=>rfl,bf]
  rw [mo (by omega)]
  refine(q9 (x:=(s,xm m.rows.length (oq m (All.getD p default) All (k+1)),((oq m (All.getD p default) All (k+1)).drop (p+1)).map toA)) ?_).trans ?_
  ·rw [zh (qo (by omega))]
   have f:((m.rows.getD (All.getD p default).st default).getD k default).to=ed m (All.getD p default).st k:=rfl
   rw [f]
   have g:=zbh a l n
   have i:oq m (All.getD p default) All (k+1)=push m (All.getD p default) (oq m (All.getD p default) All k) k:=rfl
   rw [i]
   unfold push
   by_cases h1:ed m (All.getD p default).st k= -1
   ·rw [if_pos h1,zh (by rw [h1];simp),h1];rfl
   ·obtain⟨c,j⟩:=g.resolve_left h1
    rw [if_neg h1,zh (fun _=>⟨c,by rw [ou];exact j⟩),zgv c j]
    by_cases d:occ (oq m (All.getD p default) All k) (ed m (All.getD p default).st k).toNat=true
    ·rw [if_pos d,d]
     rw [cf (by simp)]
    ·have h4':=Bool.eq_false_iff.2 d
     have hfit:fits 24 (((oq m (All.getD p default) All k).drop (p+1)).map toA) ([⟨ed m (All.getD p default).st k,((All.getD p default).st:Int),(k:Int)⟩]:List Sa):=by
      have:(((oq m (All.getD p default) All k).drop (p+1)).map toA).length≤64:=by rw [List.length_map,List.length_drop];omega
      exact⟨by simp only [List.length_singleton];omega,by simp only [List.length_singleton];omega⟩
     have r:((oq m (All.getD p default) All k).drop (p+1)).map toA++[(⟨ed m (All.getD p default).st k,((All.getD p default).st:Int),(k:Int)⟩:Sa)]=((oq m (All.getD p default) All k++[(⟨(ed m (All.getD p default).st k).toNat,((All.getD p default).st:Int),(k:Int),(All.getD p default).wd++[(k:Int)]⟩:BE)]).drop (p+1)).map toA:=by
      rw [List.drop_append_of_le_length (by omega),List.map_append]
      congr 1
      show [_]=[_]
      simp only [toA,Int.toNat_of_nonneg c]
     rw [if_neg d,ct (by rw [decide_eq_true h1,h4'];rfl),zh ⟨c,by rw [ou];exact j⟩,zh hfit]
     exact congrArg some (Prod.ext rfl (Prod.ext (z9z (e:=⟨(ed m (All.getD p default).st k).toNat,((All.getD p default).st:Int),(k:Int),(All.getD p default).wd++[(k:Int)]⟩) (by show (ed m _ _).toNat<_;omega)) r))
  ·rw [zh (qm (by omega))];rfl
 ·subst hi
  simp only [mf,zd4 b]
  simp only [show ∀ e:BE,(toA e).fB=(e.st:Int) from fun _=>rfl,bf]
  rw [bu (by omega)]
theorem z97{m:Mach}{g p:Nat}{All:List BE}(h: ¬p<All.length):bfs m g p All=All:=by
 cases g with
 |zero=>rfl
 |succ g=>unfold bfs;rw [if_neg h]
theorem zlc{N:Nat}{m:Mach}(a:MOk m)(c:200≤N){σ:Type}{s0:Nat}(B:Sa→σ→Option (Bool×σ))(f:Nat→σ): ∀ (g p F:Nat) (All:List BE),p+g=m.rows.length→p≤All.length→Inv m s0 p 0 All→g<F→
 (∀ k,p≤k→k<(bfs m g p All).length→B (toA ((bfs m g p All).getD k default)) (f k)=some (true,f (k+1)))→
 su N σ B m F (f p) (xm m.rows.length All) ((All.drop p).map toA)=some (f (bfs m g p All).length)
 |g,p,0,All,_,_,_,i,_=>by omega
 |g,p,F+1,All,o,j,h,i,b=>by
  simp only [su]
  by_cases hp:p<All.length
  ·have hlen:=za1 h
   obtain⟨g',rfl⟩: ∃ g',g=g'+1:=⟨g-1,by omega⟩
   have hbfs:bfs m (g'+1) p All=bfs m g' (p+1) (oq m (All.getD p default) All m.inputs.toNat):=by
    show (if p<All.length then _ else _)=_
    rw [if_pos hp]
   have l:((All.drop p).map toA).length=All.length-p:=by simp
   have hget:(bfs m (g'+1) p All).getD p default=All.getD p default:=zi1 (zh0 m _ p All) hp
   have d:=(zh0 m (g'+1) p All).length_le
   have e:=b p (Nat.le_refl _) (by omega)
   rw [hget] at e
   refine(q9 (x:=(Ex.go (f (p+1),xm m.rows.length (oq m (All.getD p default) All m.inputs.toNat),((oq m (All.getD p default) All m.inputs.toNat).drop (p+1)).map toA):Ex (σ×List Bool×List Sa) σ)) ?_).trans ?_
   ·rw [mo (by omega),zh ⟨by omega,by omega⟩,zh ⟨by omega,by omega,by omega⟩,zd4 hp,q9 (show B ⟨(toA (All.getD p default)).fB,(toA (All.getD p default)).fH,(toA (All.getD p default)).fG⟩ (f p)=some (true,f (p+1)) from e)]
    simp only [Bool.not_true,cond_false]
    rw [zh (show okI m.rows (toA (All.getD p default)).fB from qo (h.rng p hp)),zm7]
    exact zr5 a c h hp _
   ·rw [zdo]
    have hpre:=(z2z m (All.getD p default) All m.inputs.toNat).length_le
    rw [hbfs] at b⊢
    exact zlc a c B f g' (p+1) F _ (by omega) (by omega) (zek (zbm a h hp _ (Nat.le_refl _)) (by omega)) (by omega) fun k q hk'=>b k (by omega) hk'
  ·have n:p=All.length:=by omega
   have l:((All.drop p).map toA).length=0:=by simp;omega
   rw [bu (by omega),zra,zv1,z97 hp,←n]
theorem zon{N:Nat}{m:Mach}(b:MOk m)(d:200≤N){σ:Type}{s0:Nat}(c:s0<m.rows.length)(B:Sa→σ→Option (Bool×σ))(f:Nat→σ)
 (g: ∀ k,k<(rch m s0).length→B (toA ((rch m s0).getD k default)) (f k)=some (true,f (k+1))):z0a N m (s0:Int) σ B (f 0)=some (f (rch m s0).length):=by
 have h:=b.r2
 have i:=b.r1
 unfold z0a
 rw [zh ⟨by omega,by omega,by omega⟩,z7o,zh (qo (by rw [List.length_replicate];exact c)),z2v]
 have:=zlc (N:=N) b d B f m.rows.length 0 N [⟨s0,-1,-1,[]⟩] (by omega) (Nat.zero_le _) (zeo c) (by omega) (fun k _ a=>g k a)
 have e:(List.replicate m.rows.length false).set s0 true=xm m.rows.length [⟨s0,-1,-1,[]⟩]:=by
  have:=z9z (n:=m.rows.length) (All:=[]) (e:=⟨s0,-1,-1,[]⟩) c
  rw [List.nil_append] at this
  rw [←this]
  congr 1
  refine z0q (by rw [List.length_replicate,ou]) fun k a=>?_
  rw [List.length_replicate] at a
  rw [z0n a]
  simp [List.getD_eq_getElem?_getD,a,occ]
 rw [e]
 exact this
end GV
end Go.Proofs.Ytncblcdhmcmkmaa

namespace Go.Proofs.Ytncblcdhmcmkmaa
namespace GV
set_option maxRecDepth 100000
def wdOf(P:List BE)(t:Nat):List Int:=((P.find? fun e=>decide (e.st=t)).map (·.wd)).getD []
def uy(n:Nat)(P:List BE):List (List Int):=(List.range n).map (wdOf P)
theorem uz(n:Nat)(P:List BE):(uy n P).length=n:=by simp [uy]
theorem ae{n:Nat}{P:List BE}{t:Nat}(h:t<n):(uy n P).getD t default=wdOf P t:=by
 simp [uy,List.getD_eq_getElem?_getD,h]
theorem zd5(P:List BE)(e:BE)(t:Nat):wdOf (P++[e]) t=if occ P t=true then wdOf P t else if e.st=t then e.wd else []:=by
 unfold wdOf occ
 rw [List.find?_append]
 by_cases h:(P.any fun e=>decide (e.st=t))=true
 ·rw [if_pos h]
  obtain⟨x,a,b⟩:=List.any_eq_true.1 h
  cases hf:P.find? (fun e=>decide (e.st=t)) with
  |none=>exact absurd b (by simpa using List.find?_eq_none.1 hf x a)
  |some y=>rfl
 ·rw [if_neg h]
  have c:P.find? (fun e=>decide (e.st=t))=none:=List.find?_eq_none.2 fun x a b=>h (List.any_eq_true.2 ⟨x,a,b⟩)
  rw [c]
  by_cases he:e.st=t
  ·simp [he]
  ·simp [he]
theorem zgl{P:List BE}{t:Nat}(h:occ P t=false):wdOf P t=[]:=by
 unfold wdOf occ at*
 have a:P.find? (fun e=>decide (e.st=t))=none:=List.find?_eq_none.2 fun x b c=>by
  have:(P.any fun e=>decide (e.st=t))=true:=List.any_eq_true.2 ⟨x,b,c⟩
  rw [h] at this;cases this
 rw [a];rfl
theorem zf2{n:Nat}{P:List BE}{e:BE}(b:e.st<n)(c:occ P e.st=false):(uy n P).set e.st e.wd=uy n (P++[e]):=by
 refine z0q (by rw [List.length_set,uz,uz]) fun k a=>?_
 rw [List.length_set,uz] at a
 rw [ae a,zd5,List.getD_eq_getElem?_getD,List.getElem?_set]
 by_cases hek:e.st=k
 ·subst hek
  rw [if_pos rfl,uz,if_pos b,c];simp
 ·rw [if_neg hek,←List.getD_eq_getElem?_getD,ae a,if_neg hek]
  by_cases h:occ P k=true
  ·rw [if_pos h]
  ·rw [if_neg h,zgl (Bool.eq_false_iff.2 h)]
theorem z2t(P:List BE)(k:Nat)(h:k<P.length):P.take (k+1)=P.take k++[P.getD k default]:=by
 rw [List.take_add_one];simp [List.getD_eq_getElem?_getD,h]
section rch
variable {m : Mach} {s0 : Nat} {P : List BE}
theorem Rch.find(h:Rch m s0 P){j:Nat}: ∀ k,k≤P.length→j<k→wdOf (P.take k) (P.getD j default).st=(P.getD j default).wd
 |0,_,c=>by omega
 |k+1,f,c=>by
  rw [z2t P k (by omega),zd5]
  by_cases e:j=k
  ·subst e
   have a:occ (P.take j) (P.getD j default).st=false:=by
    cases hc:occ (P.take j) (P.getD j default).st with
    |false=>rfl
    |true=>
     obtain⟨i,hi,b⟩:=z13.1 hc
     rw [List.length_take] at hi
     have d:(P.take j).getD i default=P.getD i default:=by simp only [List.getD_eq_getElem?_getD,List.getElem?_take,if_pos (show i<j by omega)]
     rw [d] at b
     have:=h.dis i j (by omega) (by omega) b
     omega
   rw [a,if_neg (by decide),if_pos rfl]
  ·have ih:=Rch.find h k (by omega) (show j<k by omega)
   have a:occ (P.take k) (P.getD j default).st=true:=z13.2 ⟨j,by rw [List.length_take];omega,by simp only [List.getD_eq_getElem?_getD,List.getElem?_take,if_pos (show j<k by omega)]⟩
   rw [if_pos a,ih]
theorem Rch.fresh(h:Rch m s0 P){k:Nat}(b:k<P.length):occ (P.take k) (P.getD k default).st=false:=by
 cases hc:occ (P.take k) (P.getD k default).st with
 |false=>rfl
 |true=>
  obtain⟨i,hi,a⟩:=z13.1 hc
  rw [List.length_take] at hi
  have c:(P.take k).getD i default=P.getD i default:=by simp only [List.getD_eq_getElem?_getD,List.getElem?_take,if_pos (show i<k by omega)]
  rw [c] at a
  have:=h.dis i k (by omega) b a
  omega
theorem Rch.wdOf(h:Rch m s0 P){j:Nat}(a:j<P.length):wdOf P (P.getD j default).st=(P.getD j default).wd:=by
 have:=h.find P.length (Nat.le_refl _) a
 rwa [List.take_length] at this
end rch
theorem zpv{N:Nat}{s:List Int}(a:s.length≤1000000):fe N s=some s:=by
 have:fits 8 ([]:List Int) s:=⟨by simp only [List.length_nil];omega,by simp only [List.length_nil];omega⟩
 unfold fe
 rw [zh this,List.nil_append]
theorem zgs{N:Nat}{s:List Int}:ry N s=some s:=by
 unfold ry
 rw [zh (zqs s),zr7]
theorem zf1{N:Nat}{m:Mach}(l:MOk m)(s:200≤N){s0:Nat}(p:s0<m.rows.length):z1u N m (s0:Int)=some (uy m.rows.length (rch m s0),xm m.rows.length (rch m s0)):=by
 have t:=l.r2
 have e:=z5p l p
 generalize hPe:rch m s0=P at e⊢
 unfold z1u
 rw [zh ⟨by omega,by omega,by omega⟩,zh ⟨by omega,by omega,by omega⟩]
 rw [q9 (show z1p N m (s0:Int)=some (m,(s0:Int)) from rfl)]
 have u:mk (m.rows.length:Int) ([]:List Int)=uy m.rows.length (P.take 0):=by
  rw [z7o]
  refine z0q (by rw [List.length_replicate,uz]) fun k c=>?_
  rw [List.length_replicate] at c
  rw [ae c]
  simp [List.getD_eq_getElem?_getD,c,GV.wdOf]
 have v:mk (m.rows.length:Int) false=xm m.rows.length (P.take 0):=by
  rw [z7o]
  refine z0q (by rw [List.length_replicate,ou]) fun k c=>?_
  rw [List.length_replicate] at c
  rw [z0n c]
  simp [List.getD_eq_getElem?_getD,c,occ]
 rw [u,v]
 have key:=zon (N:=N) l s p (σ:=List (List Int)×List Bool) (fun a b=>
  gd (okI b.2 a.fB)<|
  bif decide (a.fH≠(-1)) then(
  gd (okI b.1 a.fH)<|
  bd (fe N (ix b.1 a.fH)) fun d=>
  gd (fits 8 d ([a.fG]:List Int))<|
  bd (ry N (d++([a.fG]:List Int))) fun f=>
  gd (okI b.1 a.fB)<|
  some (true,((up b.1 a.fB f),(up b.2 a.fB true)))) else(
  some (true,(b.1,(up b.2 a.fB true))))) (fun k=>(uy m.rows.length (P.take k),xm m.rows.length (P.take k))) (fun k c=>?_)
 ·rw [q9 key,hPe,List.take_length]
 ·rw [hPe] at c⊢
  have h:=e.rng k c
  have n:=e.fresh c
  have hset:up (xm m.rows.length (P.take k)) ((P.getD k default).st:Int) true=xm m.rows.length (P.take (k+1)):=by
   rw [z2v,z9z h,←z2t P k c]
  show gd (okI (xm m.rows.length (P.take k)) ((P.getD k default).st:Int)) (bif decide ((P.getD k default).par≠(-1)) then(
   gd (okI (uy m.rows.length (P.take k)) (P.getD k default).par)<|
   bd (fe N (ix (uy m.rows.length (P.take k)) (P.getD k default).par)) fun d=>
   gd (fits 8 d ([(P.getD k default).inp]:List Int))<|
   bd (ry N (d++([(P.getD k default).inp]:List Int))) fun f=>
   gd (okI (uy m.rows.length (P.take k)) ((P.getD k default).st:Int))<|
   some (true,((up (uy m.rows.length (P.take k)) ((P.getD k default).st:Int) f),(up (xm m.rows.length (P.take k)) ((P.getD k default).st:Int) true)))) else(
   some (true,((uy m.rows.length (P.take k)),(up (xm m.rows.length (P.take k)) ((P.getD k default).st:Int) true)))))=_
  rw [zh (qo (by rw [ou];exact h)),hset]
  by_cases h0:k=0
  ·subst h0
   rw [bu (by rw [e.root];simp)]
   congr 3
   rw [z2t P 0 c]
   refine z0q (by rw [uz,uz]) fun j o=>?_
   rw [uz] at o
   rw [ae o,ae o,zd5,e.root]
   simp [GV.wdOf,occ]
  ·obtain⟨q,i,w,hi,r,x,y,_⟩:=e.par k (by omega) c
   have z:=e.wok q (by omega)
   have hple:=e.le
   have g:=e.rng q (by omega)
   rw [mo (by rw [r];omega),r,zh (qo (by rw [uz];exact g)),bf,ae g,e.find k (by omega) w,q9 (zpv (by omega))]
   have hfit:fits 8 (P.getD q default).wd ([(P.getD k default).inp]:List Int):=⟨by simp only [List.length_singleton];omega,by simp only [List.length_singleton];omega⟩
   rw [zh hfit,q9 zgs,zh (qo (by rw [uz];exact h)),z2v,x,←y,zf2 h n,←z2t P k c]
end GV
end Go.Proofs.Ytncblcdhmcmkmaa

namespace Go.Proofs.Ytncblcdhmcmkmaa
namespace GV
set_option maxRecDepth 100000
def nxt(K:Int):List Int→Option (List Int)
 | []=>none
 |d::r=>match nxt K r with
  |some r'=>some (d::r')
  |none=>if d+1<K then some ((d+1)::List.replicate r.length 0) else none
def z5g(K:Int)(w:List Int):List Int:=(nxt K w).getD (List.replicate w.length 0++[0])
def Dg(K:Int)(w:List Int):Prop:= ∀ d∈w,0≤d∧d<K
theorem zjq{K:Int}{w:List Int}:Dg K w↔WOk K w:=by
 constructor
 ·intro h k a;exact h _ (z1a a)
 ·intro h d b
  obtain⟨k,a,rfl⟩:=List.mem_iff_getElem.1 b
  have:=h k a
  simpa [List.getD_eq_getElem?_getD,a] using this
theorem z9s: ∀ {v:List Int} {n:Nat},(∀ d∈v,0≤d)→ ¬z4k v (List.replicate n 0)
 | [],_,_,h=>h
 |_::_,0,_,h=>h
 |d::v,n+1,a,h=>by
  rw [List.replicate_succ] at h
  have:=a d (by simp)
  rcases h with h|⟨_,h⟩
  ·omega
  ·exact z9s (fun x b=>a x (by simp [b])) h
theorem zfa{K:Int}: ∀ {w v:List Int},nxt K w=none→Dg K v→ ¬z4k w v
 | [],_,_,_,h=>h
 |_::_,[],_,_,h=>h
 |d::r,e::v,a,b,h=>by
  unfold nxt at a
  cases hr:nxt K r with
  |some r'=>rw [hr] at a;cases a
  |none=>
   rw [hr] at a
   simp only at a
   split at a
   ·cases a
   ·have:=b e (by simp)
    rcases h with h|⟨_,h⟩
    ·omega
    ·exact zfa hr (fun x c=>b x (by simp [c])) h
theorem zep{K:Int}: ∀ {w u:List Int},nxt K w=some u→u.length=w.length∧(Dg K w→Dg K u)∧z4k w u∧ ∀ v,Dg K v→z4k v u→ ¬z4k w v
 | [],_,h=>by cases h
 |d::r,u,h=>by
  unfold nxt at h
  cases hr:nxt K r with
  |some r'=>
   rw [hr] at h
   simp only [Option.some.injEq] at h
   subst h
   obtain⟨i,j,k,l⟩:=zep hr
   refine⟨by simp [i],fun c x b=>?_,.inr ⟨rfl,k⟩,fun v g a hlt'=>?_⟩
   ·rcases List.mem_cons.1 b with rfl|b
    ·exact c _ (by simp)
    ·exact j (fun y m=>c y (by simp [m])) x b
   ·cases v with
    |nil=>exact a
    |cons e v=>
     rcases a with a|⟨rfl,a⟩
     ·rcases hlt' with hlt'|⟨rfl,_⟩<;>omega
     ·rcases hlt' with hlt'|⟨_,hlt'⟩
      ·omega
      ·exact l v (fun x b=>g x (by simp [b])) a hlt'
  |none=>
   rw [hr] at h
   simp only at h
   split at h
   ·rename_i hK
    simp only [Option.some.injEq] at h
    subst h
    refine⟨by simp,fun c x b=>?_,.inl (by omega),fun v g a hlt'=>?_⟩
    ·rcases List.mem_cons.1 b with rfl|b
     ·have:=c d (by simp);omega
     ·have:=(List.mem_replicate.1 b).2
      have:=c d (by simp);omega
    ·cases v with
     |nil=>exact a
     |cons e v=>
      have f:Dg K v:=fun x b=>g x (by simp [b])
      rcases a with a|⟨rfl,a⟩
      ·rcases hlt' with hlt'|⟨rfl,hlt'⟩
       ·omega
       ·exact zfa hr f hlt'
      ·exact z9s (fun x b=>(f x b).1) a
   ·cases h
theorem zjh{K:Int}(q:1≤K){w:List Int}(i:Dg K w):Dg K (z5g K w)∧llt w (z5g K w)∧ ∀ v,Dg K v→llt v (z5g K w)→lle v w:=by
 unfold z5g
 cases h:nxt K w with
 |some u=>
  obtain⟨j,l,m,n⟩:=zep h
  refine⟨l i,.inr ⟨j.symm,m⟩,fun v f c=>?_⟩
  rcases c with c|⟨g,c⟩
  ·exact .inr (.inl (by simp only [Option.getD_some] at c;omega))
  ·simp only [Option.getD_some] at g c
   rcases z7f (a:=v) (b:=w) (by omega) with k|rfl|k
   ·exact .inr (.inr ⟨by omega,k⟩)
   ·exact .inl rfl
   ·exact absurd k (n v f c)
 |none=>
  simp only [Option.getD_none]
  have e:List.replicate w.length (0:Int)++[0]=List.replicate (w.length+1) 0:=by rw [List.replicate_succ']
  rw [e]
  refine⟨fun d o=>by rw [(List.mem_replicate.1 o).2];omega,.inl (by simp),fun v f c=>?_⟩
  rcases c with c|⟨g,c⟩
  ·rw [List.length_replicate] at c
   by_cases hvl:v.length=w.length
   ·rcases z7f hvl with k|rfl|k
    ·exact .inr (.inr ⟨hvl,k⟩)
    ·exact .inl rfl
    ·exact absurd k (zfa h f)
   ·exact .inr (.inl (by omega))
  ·exact absurd c (z9s fun x p=>(f x p).1)
theorem zl2{K:Int}{b b':List Int}(h:nxt K b=some b'): ∀ a:List Int,nxt K (a++b)=some (a++b')
 | []=>h
 |d::a=>by
  show (match nxt K (a++b) with|some r'=>some (d::r')|none=>_)=_
  rw [zl2 h a];rfl
theorem zru{K:Int}{w:List Int}:w.length≤(z5g K w).length∧(z5g K w).length≤w.length+1:=by
 unfold z5g
 cases h:nxt K w with
 |some u=>have:=(zep h).1;simp only [Option.getD_some];omega
 |none=>simp
theorem set_mid{A B:List Int}{c v:Int}:((A++[c])++B).set A.length v=A++v::B:=by
 rw [List.append_assoc,List.set_append_right _ _ (Nat.le_refl _),Nat.sub_self];rfl
theorem zqf{N:Nat}{K:Int}{w:List Int}(o:w.length<N)(q:w.length≤100000)(l:Dg K w)(r:K≤1000):z04 N w K=some (z5g K w):=by
 unfold z04
 have f:fits 8 ([]:List Int) w:=⟨by simp only [List.length_nil];omega,by simp only [List.length_nil];omega⟩
 rw [zh f,List.nil_append]
 have m:xz N K N ((w.length:Int)-1) w=some (match nxt K w with|some u=>Ex.rt u|none=>Ex.go (List.replicate w.length 0)):=by
  have key:=xu (σ:=List Int) (fun F k s=>xz N K F ((w.length:Int)-1-(k:Int)) s) w.length
   (fun k s=>k≤w.length∧s=w.take (w.length-k)++List.replicate k 0∧nxt K (w.drop (w.length-k))=none) (match nxt K w with|some u=>Ex.rt u|none=>Ex.go (List.replicate w.length 0)) (fun F k s t hi=>?_) (fun F s hi=>?_) N 0 w (Nat.zero_le _) (by omega) ⟨Nat.zero_le _,by simp,by rw [Nat.sub_zero,List.drop_length];rfl⟩
  ·simpa using key
  ·obtain⟨_,rfl,e⟩:=hi
   have b:w.length-1-k<w.length:=by omega
   generalize hpe:w.length-1-k=p at b
   have hidx:(w.length:Int)-1-(k:Int)=(p:Int):=by omega
   have htake:w.take (w.length-k)=w.take p++[w.getD p default]:=by rw [show w.length-k=p+1 by omega];exact z4r w p b
   have hdrop:w.drop p=w.getD p default::w.drop (w.length-k):=by rw [z7r w p b,show p+1=w.length-k by omega]
   have a:(w.take (w.length-k)++List.replicate k (0:Int)).length=w.length:=by simp;omega
   have g:ix (w.take (w.length-k)++List.replicate k (0:Int)) (p:Int)=w.getD p default:=by
    rw [bf,List.getD_eq_getElem?_getD,List.getElem?_append_left (by rw [List.length_take];omega),List.getElem?_take,if_pos (by omega),←List.getD_eq_getElem?_getD]
   have n:=zjq.1 l p b
   have hsplit:w=w.take p++(w.getD p default::w.drop (w.length-k)):=by rw [←hdrop,List.take_append_drop]
   have hset: ∀ v,up (w.take (w.length-k)++List.replicate k (0:Int)) (p:Int) v=w.take p++v::List.replicate k 0:=fun v=>by
    rw [z2v,htake]
    have:=set_mid (A:=w.take p) (B:=List.replicate k (0:Int)) (c:=w.getD p default) (v:=v)
    rwa [List.length_take,Nat.min_eq_left (by omega)] at this
   have i:(w.drop (w.length-k)).length=k:=by rw [List.length_drop];omega
   have d:nxt K (w.getD p default::w.drop (w.length-k))=if w.getD p default+1<K then some ((w.getD p default+1)::List.replicate k 0) else none:=by
    show (match nxt K (w.drop (w.length-k)) with|some r'=>_|none=>_)=_
    rw [e,i]
   simp only [xz]
   simp only [hidx,g]
   rw [mo (by omega),zh (qo (by rw [a];exact b)),zh (qm (by omega))]
   by_cases hc:w.getD p default+1<K
   ·left
    rw [mo hc,zh (qo (by rw [a];exact b)),zh (qm (by omega)),zh (qo (by rw [a];exact b)),hset]
    rw [if_pos hc] at d
    have hw':nxt K w=some (w.take p++((w.getD p default+1)::List.replicate k 0)):=by
     have:=zl2 d (w.take p)
     rwa [←hsplit] at this
    rw [hw']
   ·right
    refine⟨w.take p++0::List.replicate k 0,⟨by omega,?_,?_⟩,?_⟩
    ·rw [show w.length-(k+1)=p by omega,List.replicate_succ]
    ·rw [show w.length-(k+1)=p by omega,hdrop,d,if_neg hc]
    ·rw [bu hc,zh (qo (by rw [a];exact b)),zh (qm (by omega)),hset]
     congr 1
     omega
  ·obtain⟨_,rfl,e⟩:=hi
   rw [Nat.sub_self,List.drop_zero] at e
   simp only [xz]
   rw [bu (by omega),e,Nat.sub_self,List.take_zero,List.nil_append]
 rw [q9 (show (gd (in64 ((w.length:Int)-1)) (xz N K N ((w.length:Int)-1) w))=some (match nxt K w with|some u=>Ex.rt u|none=>Ex.go (List.replicate w.length 0)) from by rw [zh (qm (by omega)),m])]
 unfold z5g
 cases h:nxt K w with
 |some u=>rfl
 |none=>
  simp only
  rw [zdo]
  have j:fits 8 (List.replicate w.length (0:Int)) ([0]:List Int):=⟨by simp only [List.length_replicate,List.length_singleton];omega,by simp only [List.length_replicate,List.length_singleton];omega⟩
  rw [zh j];rfl
def ze4(K:Int):Nat→List Int
 |0=>[]
 |k+1=>z5g K (ze4 K k)
theorem zkd: ∀ K,1≤K→K≤3→6≤(ze4 K 364).length:=by
 intro K a b
 have:K=1∨K=2∨K=3:=by omega
 rcases this with rfl|rfl|rfl<;>decide+kernel
theorem zjf{K:Int}(a:1≤K): ∀ k,Dg K (ze4 K k)
 |0=>fun d b=>by simp [ze4] at b
 |k+1=>(zjh a (zjf a k)).1
theorem zg2{N:Nat}{m:Mach}(C:MOk m)(hN:400≤N)(h6:m.rows.length≤6)(h3:m.inputs≤3){s0:Nat}(hs:s0<m.rows.length):sj N m (s0:Int)=some (uy m.rows.length (rch m s0),xm m.rows.length (rch m s0)):=by
 have o:=z5p C hs
 generalize hPe:rch m s0=P at o⊢
 have hi1:=C.i1
 unfold sj
 rw [zh ⟨by omega,by omega,by omega⟩,zh ⟨by omega,by omega,by omega⟩]
 have e1:mk (m.rows.length:Int) ([]:List Int)=uy m.rows.length (P.take 0):=by
  rw [z7o]
  refine z0q (by rw [List.length_replicate,uz]) fun k u=>?_
  rw [List.length_replicate] at u
  rw [ae u]
  simp [List.getD_eq_getElem?_getD,u,wdOf]
 have e2:mk (m.rows.length:Int) false=xm m.rows.length (P.take 0):=by
  rw [z7o]
  refine z0q (by rw [List.length_replicate,ou]) fun k u=>?_
  rw [List.length_replicate] at u
  rw [z0n u]
  simp [List.getD_eq_getElem?_getD,u,occ]
 have hL:vv N m (s0:Int) N [] (mk (m.rows.length:Int) ([]:List Int)) (mk (m.rows.length:Int) false)=some (uy m.rows.length P,xm m.rows.length P):=by
  refine xu (σ:=List Int×List (List Int)×List Bool) (fun F k s=>vv N m (s0:Int) F s.1 s.2.1 s.2.2) 364
   (fun k s=>s.1=ze4 m.inputs k∧s.1.length≤6∧ ∃ c,c≤P.length∧s.2=(uy m.rows.length (P.take c),xm m.rows.length (P.take c))∧(∀ j,j<c→llt (P.getD j default).wd s.1)∧ ∀ j,c≤j→j<P.length→lle s.1 (P.getD j default).wd)
   _ (fun F k s u hi=>?_) (fun F s hi=>?_) N 0 ([],_,_) (Nat.zero_le _) (by omega) ⟨rfl,by simp,0,Nat.zero_le _,Prod.ext e1 e2,fun j d=>by omega,fun j _ d=>?_⟩
  ·obtain⟨w,l,is⟩:=s
   obtain⟨A,v,c,Z,p,q,f⟩:=hi
   simp only at A v p q f
   obtain⟨rfl,rfl⟩:=Prod.mk.inj p
   have x:=A▸zjf hi1 k
   have y:=zjq.1 x
   simp only [vv]
   by_cases hlen:w.length<m.rows.length
   ·right
    rw [mo (by omega)]
    have haft:=zdt (N:=N) C N (s0:Int) w (.inr ⟨by omega,by omega⟩) y (by omega)
    have D:=zhg m C (s0:Int) w (.inr ⟨by omega,by omega⟩) y
    obtain⟨ah,L,M⟩:=zjh hi1 x
    have ai:=zru (K:=m.inputs) (w:=w)
    have E:=zqf (N:=N) (K:=m.inputs) (w:=w) (by omega) (by omega) x (by omega)
    have go: ∀ c',c'≤P.length→(∀ j,j<c'→lle (P.getD j default).wd w)→(∀ j,c'≤j→j<P.length→llt w (P.getD j default).wd)→
     (z5g m.inputs w=ze4 m.inputs (k+1)∧(z5g m.inputs w).length≤6∧ ∃ c,c≤P.length∧(uy m.rows.length (P.take c'),xm m.rows.length (P.take c'))=(uy m.rows.length (P.take c),xm m.rows.length (P.take c))∧(∀ j,j<c→llt (P.getD j default).wd (z5g m.inputs w))∧ ∀ j,c≤j→j<P.length→lle (z5g m.inputs w) (P.getD j default).wd):=fun c' hc' B O=>
     ⟨by rw [A];rfl,by omega,c',hc',rfl,fun j d=>zlz (B j d) L,fun j d g=>by
      rcases zn2 (z5g m.inputs w) (P.getD j default).wd with h|h|h
      ·exact .inr h
      ·exact .inl h
      ·exact absurd (O j d g) (zbz (M _ (zjq.2 (o.wok j g).1) h))⟩
    have strict: ∀ j,j<P.length→lle w (P.getD j default).wd→(P.getD j default).wd≠w→llt w (P.getD j default).wd:=fun j d h Q=>h.resolve_left fun e=>Q e.symm
    have hsame:z2r m (s0:Int) w= -1∨(0≤z2r m (s0:Int) w∧ix (xm m.rows.length (P.take c)) (z2r m (s0:Int) w)=true)→
     ∃ s':List Int×List (List Int)×List Bool,(s'.1=ze4 m.inputs (k+1)∧s'.1.length≤6∧ ∃ c,c≤P.length∧s'.2=(uy m.rows.length (P.take c),xm m.rows.length (P.take c))∧(∀ j,j<c→llt (P.getD j default).wd s'.1)∧ ∀ j,c≤j→j<P.length→lle s'.1 (P.getD j default).wd)∧
     (bd (bd (gq N N m (s0:Int) w) fun n=>gd ((true&&((decide (0≤n))==true))=true→okI (xm m.rows.length (P.take c)) n)<|bif (decide (0≤n))&&(!(ix (xm m.rows.length (P.take c)) n)) then(gd (okI (xm m.rows.length (P.take c)) n)<|gd (okI (uy m.rows.length (P.take c)) n)<|some ((up (uy m.rows.length (P.take c)) n w),(up (xm m.rows.length (P.take c)) n true))) else(some (uy m.rows.length (P.take c),xm m.rows.length (P.take c)))) fun G=>bd (z04 N w m.inputs) fun H=>vv N m (s0:Int) F H G.1 G.2)=vv N m (s0:Int) F s'.1 s'.2.1 s'.2.2:=fun hcase=>by
     refine⟨(z5g m.inputs w,uy m.rows.length (P.take c),xm m.rows.length (P.take c)),go c Z (fun j d=> .inr (q j d)) (fun j d g=>strict j g (f j d g) fun e=>?_),?_⟩
     ·have R:=o.aft j g
      rw [e] at R
      rcases hcase with h|⟨h0,h⟩
      ·rw [R] at h;omega
      ·rw [R,zgv (by omega) (by have:=o.rng j g;omega)] at h
       obtain⟨i,hi,r⟩:=z13.1 h
       rw [List.length_take] at hi
       have hg:(P.take c).getD i default=P.getD i default:=by simp only [List.getD_eq_getElem?_getD,List.getElem?_take,if_pos (show i<c by omega)]
       rw [hg] at r
       have:=o.dis i j (by omega) g (by omega)
       omega
     ·rw [q9 (show _=some (uy m.rows.length (P.take c),xm m.rows.length (P.take c)) from by
       rw [q9 haft]
       rcases hcase with h|⟨h0,h⟩
       ·rw [h,zh (by simp)];rfl
       ·have S:z2r m (s0:Int) w<m.rows.length:=by rcases D with e|e<;>omega
        rw [zh (fun _=>⟨h0,by rw [ou];exact S⟩),h,cf (by simp)]),q9 E]
    by_cases ht:z2r m (s0:Int) w= -1
    ·exact hsame (.inl ht)
    ·obtain⟨I,T⟩:=D.resolve_left ht
     by_cases hseen:ix (xm m.rows.length (P.take c)) (z2r m (s0:Int) w)=true
     ·exact hsame (.inr ⟨I,hseen⟩)
     ·obtain⟨j,d,r,U⟩:=o.least C _ w rfl y ht
      have V:c≤j:=by
       rcases Nat.lt_or_ge j c with h|h
       ·exfalso
        apply hseen
        rw [zgv I T]
        refine z13.2 ⟨j,by rw [List.length_take];omega,?_⟩
        simp only [List.getD_eq_getElem?_getD,List.getElem?_take,if_pos h]
        rw [←List.getD_eq_getElem?_getD];omega
       ·exact h
      have t:(P.getD j default).wd=w:=by
       rcases U with h|h
       ·exact h
       ·exact absurd h (zbz (f j V d))
      have W:j=c:=by
       rcases Nat.lt_or_ge c j with h|h
       ·have B:=o.inc c j h d
        rw [t] at B
        exact absurd B (zbz (f c (Nat.le_refl _) (by omega)))
       ·omega
      subst W
      have J:=o.rng j d
      have X:=o.fresh d
      refine⟨(z5g m.inputs w,uy m.rows.length (P.take (j+1)),xm m.rows.length (P.take (j+1))),go (j+1) (by omega) (fun i hi=>?_) (fun i hi Y=>?_),?_⟩
      ·by_cases e:i=j
       ·subst e;rw [t];exact .inl rfl
       ·exact .inr (q i (by omega))
      ·have:=o.inc j i (by omega) Y
       rwa [t] at this
      ·rw [q9 (show _=some (uy m.rows.length (P.take (j+1)),xm m.rows.length (P.take (j+1))) from by
        rw [q9 haft,←r]
        rw [←r] at hseen
        rw [zh (fun _=>qo (by rw [ou];exact J)),ct (by rw [Bool.eq_false_iff.2 hseen];simp),zh (qo (by rw [ou];exact J)),zh (qo (by rw [uz];exact J)),z2v,z2v,z9z J,←z2t P j d]
        have:=zf2 J X
        rw [t,←z2t P j d] at this
        rw [this]),q9 E]
   ·left
    rw [bu (by omega)]
    have z:c=P.length:=by
     rcases Nat.lt_or_ge c P.length with h|h
     ·have B:=(o.wok c h).2
      have O:=o.le
      exact absurd (show llt (P.getD c default).wd w from .inl (by omega)) (zbz (f c (Nat.le_refl _) h))
     ·omega
    rw [z,List.take_length]
  ·obtain⟨w,l,is⟩:=s
   obtain⟨A,v,c,Z,p,q,f⟩:=hi
   simp only at A v p q f
   obtain⟨rfl,rfl⟩:=Prod.mk.inj p
   have h6':=zkd m.inputs hi1 h3
   rw [←A] at h6'
   simp only [vv]
   rw [bu (by omega)]
   have z:c=P.length:=by
    rcases Nat.lt_or_ge c P.length with h|h
    ·have B:=(o.wok c h).2
     have O:=o.le
     exact absurd (show llt (P.getD c default).wd w from .inl (by omega)) (zbz (f c (Nat.le_refl _) h))
    ·omega
   rw [z,List.take_length]
  ·show lle [] _
   cases hwd:(P.getD j default).wd with
   |nil=>exact .inl rfl
   |cons a b=>exact .inr (.inl (by simp))
 rw [q9 hL]
end GV
end Go.Proofs.Ytncblcdhmcmkmaa

namespace Go.Proofs.Ytncblcdhmcmkmaa
namespace GV
set_option maxRecDepth 100000
theorem zcg{N:Nat}{m:Mach}(a:MOk m)(b:200≤N):mh N m=some 0:=by rw [zei a.small b,(z8v m).2 a]
theorem zmg{N:Nat}{m:Mach}(a:MOk m)(b:200≤N):z3d N m=some (uy m.rows.length (rch m 0),xm m.rows.length (rch m 0),0):=by
 have c:=a.r1
 unfold z3d
 rw [q9 (zcg a b),bu (by simp),q9 (show z1u N m 0=_ from zf1 a b (s0:=0) (by omega))]
theorem z8h{N:Nat}{m:Mach}(a:MOk m)(b:400≤N)(c:m.rows.length≤6)(d:m.inputs≤3):tu N m=some (uy m.rows.length (rch m 0),xm m.rows.length (rch m 0)):=by
 have e:=a.r1
 unfold tu
 rw [q9 (show sj N m 0=_ from zg2 a b c d (s0:=0) (by omega))]
def rz(P:List BE):List Int:=P.map fun e=>(e.st:Int)
theorem z7b{N:Nat}{m:Mach}(c:MOk m)(f:200≤N):z0w N m=some (rz (rch m 0)):=by
 have g:=c.r1
 have h:=c.r2
 have d:=z5p c (s0:=0) (by omega)
 generalize hPe:rch m 0=P at d⊢
 have hple:=d.le
 unfold z0w
 rw [q9 (show z1p N m 0=some (m,0) from rfl)]
 have key:=zon (N:=N) c f (s0:=0) (by omega) (σ:=List Int) (fun a b=>
  gd (fits 8 b ([a.fB]:List Int))<|
  some (true,(b++([a.fB]:List Int)))) (fun k=>rz (P.take k)) (fun k e=>?_)
 ·rw [q9 (show z0a N m 0 (List Int) _ ([]:List Int)=_ from key),hPe,List.take_length]
 ·rw [hPe] at e⊢
  have hfit:fits 8 (rz (P.take k)) ([((P.getD k default).st:Int)]:List Int):=by
   have:(rz (P.take k)).length≤64:=by unfold rz;rw [List.length_map,List.length_take];omega
   exact⟨by simp only [List.length_singleton];omega,by simp only [List.length_singleton];omega⟩
  show gd (fits 8 (rz (P.take k)) ([((P.getD k default).st:Int)]:List Int)) (some (true,(rz (P.take k)++([((P.getD k default).st:Int)]:List Int))))=_
  rw [zh hfit,z2t P k e]
  unfold rz
  rw [List.map_append];rfl
theorem znj{N:Nat}{l:List Int}(d:l.length<N)(e:l.length≤1000000){σ:Type}(B:Int→σ→Option (Bool×σ))(f:Nat→σ)(c: ∀ k,k<l.length→B (l.getD k default) (f k)=some (true,f (k+1))):z0u N l σ B (f 0)=some (f l.length):=by
 unfold z0u
 refine xu (σ:=σ) (fun F k s=>cz N σ B l F s (k:Int)) l.length (fun k s=>s=f k) _ (fun F k s a hi=>?_) (fun F s hi=>?_) N 0 (f 0) (Nat.zero_le _) (by omega) rfl
 ·subst hi
  right
  refine⟨_,rfl,?_⟩
  simp only [cz]
  rw [mo (by omega),zh (qo a),bf]
  refine(q9 (c k a)).trans ?_
  refine(cf (b:= !(true,f (k+1)).1) rfl).trans ?_
  exact zh (qm (by omega))
 ·subst hi
  simp only [cz]
  rw [bu (by omega)]
theorem zmk{N:Nat}{s l:List Int}(c:l.length<N)(e:s.length+l.length≤1000000):il N s l=some (s++l):=by
 unfold il
 have key:=znj (N:=N) c (by omega) (fun a b=>
  gd (fits 8 b ([a]:List Int))<|
  some (true,(b++([a]:List Int)))) (fun k=>s++l.take k) (fun k d=>?_)
 ·rw [List.take_zero,List.append_nil,List.take_length] at key
  rw [q9 key]
 ·have hfit:fits 8 (s++l.take k) ([l.getD k default]:List Int):=by
   have:(s++l.take k).length≤1000000:=by rw [List.length_append,List.length_take];omega
   exact⟨by simp only [List.length_singleton];omega,by simp only [List.length_singleton];omega⟩
  rw [zh hfit,z4r l k d,List.append_assoc]
theorem zn4{N:Nat}{l:List Int}(a:l.length<N)(b:0<l.length)(d:l.length≤1000000):z1d N l=some (z2n l):=by
 unfold z1d z18
 rw [q9 (show (bd (il N [] l) fun c=>some c)=some l from by rw [q9 (zmk a (by simp;omega))];rfl)]
 unfold slices_Sort_int
 rw [zh ⟨b,by omega⟩];rfl
theorem zfb{N:Nat}{m:Mach}(a:MOk m)(b:200≤N):z1t N m=some (z2n (rz (rch m 0)),0):=by
 have d:=a.r1
 have e:=a.r2
 have c:=z5p a (s0:=0) (by omega)
 have g:(rz (rch m 0)).length=(rch m 0).length:=by simp [rz]
 have f:=c.le
 have hpos:=c.pos
 unfold z1t
 rw [q9 (zcg a b),bu (by simp),q9 (z7b a b),q9 (show z2o N _=some _ from rfl),q9 (zn4 (by omega) (by omega) (by omega)),q9 zgs]
def z4f(n:Nat)(P:List BE):List Int:=((List.range n).filter fun s=>occ P s).map fun s=>((s:Nat):Int)
theorem zkx(n:Nat)(P:List BE):(z4f n P).Pairwise (· ≤ ·):=by
 unfold z4f
 rw [List.pairwise_map]
 exact((List.pairwise_lt_range (n:=n)).filter _).imp fun h=>by omega
theorem zi6{m:Mach}{s0:Nat}{P:List BE}(h:Rch m s0 P):z2n (rz P)=z4f m.rows.length P:=by
 refine z6e ((zav _).trans ?_) (zbc _) (zkx _ _)
 unfold rz z4f
 have e:(P.map fun e=>(e.st:Int))=(P.map (·.st)).map fun s=>((s:Nat):Int):=by rw [List.map_map];rfl
 rw [e]
 refine List.Perm.map _ ?_
 have d:(P.map (·.st)).Nodup:=by
  rw [List.nodup_iff_pairwise_ne,List.pairwise_iff_getElem]
  intro i j hi b g e
  rw [List.length_map] at hi b
  rw [List.getElem_map,List.getElem_map] at e
  have:=h.dis i j hi b (by simpa [List.getD_eq_getElem?_getD,b,hi] using e)
  omega
 have c:((List.range m.rows.length).filter fun s=>occ P s).Nodup:=List.Pairwise.filter _ List.nodup_range
 rw [List.perm_ext_iff_of_nodup d c]
 intro a
 rw [List.mem_map,List.mem_filter,List.mem_range,z13]
 constructor
 ·rintro⟨x,k,rfl⟩
  obtain⟨j,b,rfl⟩:=List.mem_iff_getElem.1 k
  have f:P.getD j default=P[j]:=by simp [List.getD_eq_getElem?_getD,b]
  exact⟨by rw [←f];exact h.rng j b,j,b,by rw [f]⟩
 ·rintro⟨_,j,b,rfl⟩
  exact⟨_,z1a b,rfl⟩
theorem zik{N:Nat}{m:Mach}(a:MOk m)(b:200≤N){l:List Int}(c: ∀ s∈l,0≤s∧s<(m.rows.length:Int))(hlen:l.length≤10):z3y N m l=some 0:=by
 unfold z3y
 rw [q9 (zcg a b),bu (by simp),q9 (zmh (p:=fun s=>decide (s<0)||decide ((m.rows.length:Int)≤s)) (fun k e=>rfl) (by omega) (by omega))]
 have:(l.any fun s=>decide (s<0)||decide ((m.rows.length:Int)≤s))=false:=by
  rw [List.any_eq_false]
  intro s d
  have:=c s d
  simp;omega
 rw [this];rfl
theorem zm1{N:Nat}{m:Mach}(b:MOk m)(c:200≤N){s t:Nat}(e:s<m.rows.length)(a:t<m.rows.length):z11 N m (s:Int) (t:Int)=some (wdOf (rch m s) t,occ (rch m s) t,0):=by
 unfold z11
 rw [q9 (zik b c (l:=[(s:Int),(t:Int)]) (fun x d=>by simp at d;rcases d with rfl|rfl<;>omega) (by simp)),bu (by simp),q9 (zf1 b c e)]
 rw [zh (qo (by rw [uz];exact a)),zh (qo (by rw [ou];exact a)),bf,bf,ae a,z0n a]
def z3t(P:List BE)(t:Nat):Int:=if occ P t=true then((wdOf P t).length:Int) else-1
def z4h(n:Nat)(P:List BE):List Int:=(List.range n).map (z3t P)
theorem z8e(n:Nat)(P:List BE):(z4h n P).length=n:=by simp [z4h]
theorem zcv{n t:Nat}{P:List BE}(h:t<n):(z4h n P).getD t default=z3t P t:=by simp [z4h,List.getD_eq_getElem?_getD,h]
theorem zlo{N:Nat}{m:Mach}(a:MOk m)(d:200≤N){s:Nat}(e:s<m.rows.length):lw N m (s:Int)=some (z4h m.rows.length (rch m s),0):=by
 have g:=a.r2
 have h:=z5p a e
 unfold lw
 rw [q9 (zik a d (l:=[(s:Int)]) (fun x f=>by simp at f;subst f;omega) (by simp)),bu (by simp),q9 (zf1 a d e)]
 generalize rch m s=P at h⊢
 have c:=uz m.rows.length P
 dsimp only
 rw [zh ⟨by omega,by omega,by omega⟩]
 have i:og N (uy m.rows.length P,xm m.rows.length P) N 0 (mk ((uy m.rows.length P).length:Int) (0:Int))=some (z4h m.rows.length P):=by
  refine xu (σ:=List Int) (fun F k st=>og N (uy m.rows.length P,xm m.rows.length P) F (k:Int) st) m.rows.length
   (fun k st=>st=(List.range k).map (z3t P)++List.replicate (m.rows.length-k) 0) _ (fun F k st b hi=>?_) (fun F st hi=>?_) N 0 _ (Nat.zero_le _) (by omega) (by rw [z7o,c];simp)
  ·subst hi
   right
   refine⟨_,rfl,?_⟩
   have j:((List.range k).map (z3t P)).length=k:=by simp
   have hlen:((List.range k).map (z3t P)++List.replicate (m.rows.length-k) (0:Int)).length=m.rows.length:=by simp;omega
   have hnext: ∀ z,((List.range k).map (z3t P)++List.replicate (m.rows.length-k) (0:Int)).set k z=((List.range k).map (z3t P)++[z])++List.replicate (m.rows.length-(k+1)) 0:=fun z=>zoz _ _ _ _ j b
   simp only [og]
   rw [mo (by omega)]
   refine(q9 (x:=(List.range (k+1)).map (z3t P)++List.replicate (m.rows.length-(k+1)) 0) ?_).trans ?_
   ·rw [zh (qo (by omega)),zh (qo (by omega)),zh (qo (by rw [ou];exact b))]
    simp only [bf,z0n b,ae b]
    rw [zb0]
    cases ho:occ P k
    ·rw [cf rfl,z2v,hnext]
     unfold z3t
     rw [ho,if_neg (by decide)]
    ·rw [ct rfl,zh (qo (by rw [z2v,List.length_set];omega)),z2v,z2v,List.set_set,hnext]
     unfold z3t
     rw [ho,if_pos rfl]
   ·rw [zh (qm (by omega))];rfl
  ·subst hi
   simp only [og]
   rw [bu (by omega),Nat.sub_self,List.replicate_zero,List.append_nil]
   rfl
 rw [q9 i]
end GV
end Go.Proofs.Ytncblcdhmcmkmaa
