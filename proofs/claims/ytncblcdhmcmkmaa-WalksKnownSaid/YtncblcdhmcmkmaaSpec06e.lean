
import Derived.Test.YtncblcdhmcmkmaaBfs06
import Derived.Test.YtncblcdhmcmkmaaSpec06a
set_option linter.unusedVariables false
set_option linter.unusedSimpArgs false
namespace Go.Proofs.Ytncblcdhmcmkmaa
namespace GV
set_option maxRecDepth 100000
def toA(e:BE):Sa:=⟨(e.st:Int),e.par,e.inp⟩
def xm(n:Nat)(All:List BE):List Bool:=(List.range n).map fun s=>occ All s
theorem ou(n:Nat)(All:List BE):(xm n All).length=n:=by simp [xm]
theorem z0n{n:Nat}{All:List BE}{t:Nat}(h:t<n):(xm n All).getD t default=occ All t:=by
 simp [xm,List.getD_eq_getElem?_getD,h]
theorem zjn(All:List BE)(e:BE)(t:Nat):occ (All++[e]) t=(occ All t||decide (e.st=t)):=by simp [occ]
theorem za9{n:Nat}{All:List BE}{e:BE}(h:e.st<n):(xm n All).set e.st true=xm n (All++[e]):=by
 refine z0t (by rw [List.length_set,ou,ou]) fun k a=>?_
 rw [List.length_set,ou] at a
 rw [z0n a,zjn,List.getD_eq_getElem?_getD,List.getElem?_set]
 by_cases hek:e.st=k
 ·subst hek
  rw [if_pos rfl,ou,if_pos h];simp
 ·rw [if_neg hek,←List.getD_eq_getElem?_getD,z0n a];simp [hek]
theorem zgw{n:Nat}{All:List BE}{t:Int}(a:0≤t)(h:t<n):ix (xm n All) t=occ All t.toNat:=by
 rw [zjv,z0n (by omega)]
theorem zcn{All:List BE}{p:Nat}(a:p<All.length):ix ((All.drop p).map toA) 0=toA (All.getD p default):=by
 rw [z7s All p a];rfl
theorem znb{All:List BE}{p:Nat}:cut ((All.drop p).map toA) 1 (((All.drop p).map toA).length:Int)=(All.drop (p+1)).map toA:=by
 unfold cut
 rw [Int.toNat_natCast,show (1:Int).toNat=1 from rfl,←List.map_drop,List.drop_drop,List.take_of_length_le (by simp only [List.length_map,List.length_drop];omega)]
theorem zr6{N:Nat}{m:Mach}(a:MOk m)(t:200≤N){σ:Type}{s0 p:Nat}{All:List BE}(h:Inv m s0 p 0 All)(b:p<All.length)(s:σ):
 ma N σ m ((All.drop p).map toA) N s 0 (xm m.rows.length All) ((All.drop (p+1)).map toA)=some (.go (s,xm m.rows.length (oq m (All.getD p default) All m.inputs.toNat),((oq m (All.getD p default) All m.inputs.toNat).drop (p+1)).map toA)):=by
 have hi1:=a.i1
 have hi2:=a.i2
 have l:=h.rng p b
 have hrow:=a.row _ l
 refine xw (σ:=List Bool×List Sa) (fun F k st=>ma N σ m ((All.drop p).map toA) F s (k:Int) st.1 st.2) m.inputs.toNat
  (fun k st=>st=(xm m.rows.length (oq m (All.getD p default) All k),((oq m (All.getD p default) All k).drop (p+1)).map toA)) _ (fun F k st n hi=>?_) (fun F st hi=>?_) N 0 _ (Nat.zero_le _) (by omega) rfl
 ·subst hi
  right
  refine⟨_,rfl,?_⟩
  have hinv:=zbw a h b k (by omega)
  have hpre:=z2y m (All.getD p default) All k
  have o:p<(oq m (All.getD p default) All k).length:=by have:=hpre.length_le;omega
  have hlen:=zaa hinv
  have q:=a.r2
  simp only [ma,zcn b]
  simp only [show ∀ e:BE,(toA e).fB=(e.st:Int) from fun _=>rfl,gu]
  rw [mo (by omega)]
  refine(q9 (x:=(s,xm m.rows.length (oq m (All.getD p default) All (k+1)),((oq m (All.getD p default) All (k+1)).drop (p+1)).map toA)) ?_).trans ?_
  ·rw [zh (qo (by omega))]
   have f:((m.rows.getD (All.getD p default).st default).getD k default).to=ed m (All.getD p default).st k:=rfl
   rw [f]
   have g:=zbn a l n
   have i:oq m (All.getD p default) All (k+1)=push m (All.getD p default) (oq m (All.getD p default) All k) k:=rfl
   rw [i]
   unfold push
   by_cases h1:ed m (All.getD p default).st k= -1
   ·rw [if_pos h1,zh (by rw [h1];simp),h1];rfl
   ·obtain⟨c,j⟩:=g.resolve_left h1
    rw [if_neg h1,zh (fun _=>⟨c,by rw [ou];exact j⟩),zgw c j]
    by_cases d:occ (oq m (All.getD p default) All k) (ed m (All.getD p default).st k).toNat=true
    ·rw [if_pos d,d]
     rw [cf (by simp)]
    ·have h4':=Bool.eq_false_iff.2 d
     have hfit:fits 24 (((oq m (All.getD p default) All k).drop (p+1)).map toA) ([⟨ed m (All.getD p default).st k,((All.getD p default).st:Int),(k:Int)⟩]:List Sa):=by
      have:(((oq m (All.getD p default) All k).drop (p+1)).map toA).length≤64:=by rw [List.length_map,List.length_drop];omega
      exact⟨by simp only [List.length_singleton];omega,by simp only [List.length_singleton];omega⟩
     have r:((oq m (All.getD p default) All k).drop (p+1)).map toA++[(⟨ed m (All.getD p default).st k,((All.getD p default).st:Int),(k:Int)⟩:Sa)]=((oq m (All.getD p default) All k++[(⟨(ed m (All.getD p default).st k).toNat,((All.getD p default).st:Int),(k:Int),(All.getD p default).wd++[(k:Int)]⟩:BE)]).drop (p+1)).map toA:=by
      rw [List.drop_append_of_le_length (by omega),List.map_append]
      congr 1
      show [_]=[_]
      simp only [toA,Int.toNat_of_nonneg c]
     rw [if_neg d,ct (by rw [decide_eq_true h1,h4'];rfl),zh ⟨c,by rw [ou];exact j⟩,zh hfit]
     exact congrArg some (Prod.ext rfl (Prod.ext (za9 (e:=⟨(ed m (All.getD p default).st k).toNat,((All.getD p default).st:Int),(k:Int),(All.getD p default).wd++[(k:Int)]⟩) (by show (ed m _ _).toNat<_;omega)) r))
  ·rw [zh (qm (by omega))];rfl
 ·subst hi
  simp only [ma,zcn b]
  simp only [show ∀ e:BE,(toA e).fB=(e.st:Int) from fun _=>rfl,gu]
  rw [bu (by omega)]
theorem z9k{m:Mach}{g p:Nat}{All:List BE}(h: ¬p<All.length):bfs m g p All=All:=by
 cases g with
 |zero=>rfl
 |succ g=>unfold bfs;rw [if_neg h]
theorem zl3{N:Nat}{m:Mach}(a:MOk m)(c:200≤N){σ:Type}{s0:Nat}(B:Sa→σ→Option (Bool×σ))(f:Nat→σ): ∀ (g p F:Nat) (All:List BE),p+g=m.rows.length→p≤All.length→Inv m s0 p 0 All→g<F→
 (∀ k,p≤k→k<(bfs m g p All).length→B (toA ((bfs m g p All).getD k default)) (f k)=some (true,f (k+1)))→
 r9 N σ B m F (f p) (xm m.rows.length All) ((All.drop p).map toA)=some (f (bfs m g p All).length)
 |g,p,0,All,_,_,_,i,_=>by omega
 |g,p,F+1,All,o,j,h,i,b=>by
  simp only [r9]
  by_cases hp:p<All.length
  ·have hlen:=zaa h
   obtain⟨g',rfl⟩: ∃ g',g=g'+1:=⟨g-1,by omega⟩
   have hbfs:bfs m (g'+1) p All=bfs m g' (p+1) (oq m (All.getD p default) All m.inputs.toNat):=by
    show (if p<All.length then _ else _)=_
    rw [if_pos hp]
   have l:((All.drop p).map toA).length=All.length-p:=by simp
   have hget:(bfs m (g'+1) p All).getD p default=All.getD p default:=zhw (zh5 m _ p All) hp
   have d:=(zh5 m (g'+1) p All).length_le
   have e:=b p (Nat.le_refl _) (by omega)
   rw [hget] at e
   refine(q9 (x:=(Ex.go (f (p+1),xm m.rows.length (oq m (All.getD p default) All m.inputs.toNat),((oq m (All.getD p default) All m.inputs.toNat).drop (p+1)).map toA):Ex (σ×List Bool×List Sa) σ)) ?_).trans ?_
   ·rw [mo (by omega),zh ⟨by omega,by omega⟩,zh ⟨by omega,by omega,by omega⟩,zcn hp,q9 (show B ⟨(toA (All.getD p default)).fB,(toA (All.getD p default)).fH,(toA (All.getD p default)).fG⟩ (f p)=some (true,f (p+1)) from e)]
    simp only [Bool.not_true,cond_false]
    rw [zh (show okI m.rows (toA (All.getD p default)).fB from qo (h.rng p hp)),znb]
    exact zr6 a c h hp _
   ·rw [zdl]
    have hpre:=(z2y m (All.getD p default) All m.inputs.toNat).length_le
    rw [hbfs] at b⊢
    exact zl3 a c B f g' (p+1) F _ (by omega) (by omega) (zei (zbw a h hp _ (Nat.le_refl _)) (by omega)) (by omega) fun k q hk'=>b k (by omega) hk'
  ·have n:p=All.length:=by omega
   have l:((All.drop p).map toA).length=0:=by simp;omega
   rw [bu (by omega),zrx,zuy,z9k hp,←n]
theorem zpj{N:Nat}{m:Mach}(b:MOk m)(d:200≤N){σ:Type}{s0:Nat}(c:s0<m.rows.length)(B:Sa→σ→Option (Bool×σ))(f:Nat→σ)
 (g: ∀ k,k<(rch m s0).length→B (toA ((rch m s0).getD k default)) (f k)=some (true,f (k+1))):z08 N m (s0:Int) σ B (f 0)=some (f (rch m s0).length):=by
 have h:=b.r2
 have i:=b.r1
 unfold z08
 rw [zh ⟨by omega,by omega,by omega⟩,z7j,zh (qo (by rw [List.length_replicate];exact c)),z3a]
 have:=zl3 (N:=N) b d B f m.rows.length 0 N [⟨s0,-1,-1,[]⟩] (by omega) (Nat.zero_le _) (zfa c) (by omega) (fun k _ a=>g k a)
 have e:(List.replicate m.rows.length false).set s0 true=xm m.rows.length [⟨s0,-1,-1,[]⟩]:=by
  have:=za9 (n:=m.rows.length) (All:=[]) (e:=⟨s0,-1,-1,[]⟩) c
  rw [List.nil_append] at this
  rw [←this]
  congr 1
  refine z0t (by rw [List.length_replicate,ou]) fun k a=>?_
  rw [List.length_replicate] at a
  rw [z0n a]
  simp [List.getD_eq_getElem?_getD,a,occ]
 rw [e]
 exact this
end GV
end Go.Proofs.Ytncblcdhmcmkmaa

namespace Go.Proofs.Ytncblcdhmcmkmaa
namespace GV
set_option maxRecDepth 100000
def wdOf(P:List BE)(t:Nat):List Int:=((P.find? fun e=>decide (e.st=t)).map (·.wd)).getD []
def uy(n:Nat)(P:List BE):List (List Int):=(List.range n).map (wdOf P)
theorem uu(n:Nat)(P:List BE):(uy n P).length=n:=by simp [uy]
theorem eu{n:Nat}{P:List BE}{t:Nat}(h:t<n):(uy n P).getD t default=wdOf P t:=by
 simp [uy,List.getD_eq_getElem?_getD,h]
theorem zcp(P:List BE)(e:BE)(t:Nat):wdOf (P++[e]) t=if occ P t=true then wdOf P t else if e.st=t then e.wd else []:=by
 unfold wdOf occ
 rw [List.find?_append]
 by_cases h:(P.any fun e=>decide (e.st=t))=true
 ·rw [if_pos h]
  obtain⟨x,a,b⟩:=List.any_eq_true.1 h
  cases hf:P.find? (fun e=>decide (e.st=t)) with
  |none=>exact absurd b (by simpa using List.find?_eq_none.1 hf x a)
  |some y=>rfl
 ·rw [if_neg h]
  have c:P.find? (fun e=>decide (e.st=t))=none:=List.find?_eq_none.2 fun x a b=>h (List.any_eq_true.2 ⟨x,a,b⟩)
  rw [c]
  by_cases he:e.st=t
  ·simp [he]
  ·simp [he]
theorem zfw{P:List BE}{t:Nat}(h:occ P t=false):wdOf P t=[]:=by
 unfold wdOf occ at*
 have a:P.find? (fun e=>decide (e.st=t))=none:=List.find?_eq_none.2 fun x b c=>by
  have:(P.any fun e=>decide (e.st=t))=true:=List.any_eq_true.2 ⟨x,b,c⟩
  rw [h] at this;cases this
 rw [a];rfl
theorem zew{n:Nat}{P:List BE}{e:BE}(b:e.st<n)(c:occ P e.st=false):(uy n P).set e.st e.wd=uy n (P++[e]):=by
 refine z0t (by rw [List.length_set,uu,uu]) fun k a=>?_
 rw [List.length_set,uu] at a
 rw [eu a,zcp,List.getD_eq_getElem?_getD,List.getElem?_set]
 by_cases hek:e.st=k
 ·subst hek
  rw [if_pos rfl,uu,if_pos b,c];simp
 ·rw [if_neg hek,←List.getD_eq_getElem?_getD,eu a,if_neg hek]
  by_cases h:occ P k=true
  ·rw [if_pos h]
  ·rw [if_neg h,zfw (Bool.eq_false_iff.2 h)]
theorem z2w(P:List BE)(k:Nat)(h:k<P.length):P.take (k+1)=P.take k++[P.getD k default]:=by
 rw [List.take_add_one];simp [List.getD_eq_getElem?_getD,h]
section rch
variable {m : Mach} {s0 : Nat} {P : List BE}
theorem Rch.find(h:Rch m s0 P){j:Nat}: ∀ k,k≤P.length→j<k→wdOf (P.take k) (P.getD j default).st=(P.getD j default).wd
 |0,_,c=>by omega
 |k+1,f,c=>by
  rw [z2w P k (by omega),zcp]
  by_cases e:j=k
  ·subst e
   have a:occ (P.take j) (P.getD j default).st=false:=by
    cases hc:occ (P.take j) (P.getD j default).st with
    |false=>rfl
    |true=>
     obtain⟨i,hi,b⟩:=z13.1 hc
     rw [List.length_take] at hi
     have d:(P.take j).getD i default=P.getD i default:=by simp only [List.getD_eq_getElem?_getD,List.getElem?_take,if_pos (show i<j by omega)]
     rw [d] at b
     have:=h.dis i j (by omega) (by omega) b
     omega
   rw [a,if_neg (by decide),if_pos rfl]
  ·have ih:=Rch.find h k (by omega) (show j<k by omega)
   have a:occ (P.take k) (P.getD j default).st=true:=z13.2 ⟨j,by rw [List.length_take];omega,by simp only [List.getD_eq_getElem?_getD,List.getElem?_take,if_pos (show j<k by omega)]⟩
   rw [if_pos a,ih]
theorem Rch.fresh(h:Rch m s0 P){k:Nat}(b:k<P.length):occ (P.take k) (P.getD k default).st=false:=by
 cases hc:occ (P.take k) (P.getD k default).st with
 |false=>rfl
 |true=>
  obtain⟨i,hi,a⟩:=z13.1 hc
  rw [List.length_take] at hi
  have c:(P.take k).getD i default=P.getD i default:=by simp only [List.getD_eq_getElem?_getD,List.getElem?_take,if_pos (show i<k by omega)]
  rw [c] at a
  have:=h.dis i k (by omega) b a
  omega
theorem Rch.wdOf(h:Rch m s0 P){j:Nat}(a:j<P.length):wdOf P (P.getD j default).st=(P.getD j default).wd:=by
 have:=h.find P.length (Nat.le_refl _) a
 rwa [List.take_length] at this
end rch
theorem zq3{N:Nat}{s:List Int}(a:s.length≤1000000):fq N s=some s:=by
 have:fits 8 ([]:List Int) s:=⟨by simp only [List.length_nil];omega,by simp only [List.length_nil];omega⟩
 unfold fq
 rw [zh this,List.nil_append]
theorem zhj{N:Nat}{s:List Int}:rz N s=some s:=by
 unfold rz
 rw [zh (zr1 s),zs7]
theorem zea{N:Nat}{m:Mach}(l:MOk m)(s:200≤N){s0:Nat}(p:s0<m.rows.length):z1q N m (s0:Int)=some (uy m.rows.length (rch m s0),xm m.rows.length (rch m s0)):=by
 have t:=l.r2
 have e:=z5o l p
 generalize hPe:rch m s0=P at e⊢
 unfold z1q
 rw [zh ⟨by omega,by omega,by omega⟩,zh ⟨by omega,by omega,by omega⟩]
 rw [q9 (show z1p N m (s0:Int)=some (m,(s0:Int)) from rfl)]
 have u:mk (m.rows.length:Int) ([]:List Int)=uy m.rows.length (P.take 0):=by
  rw [z7j]
  refine z0t (by rw [List.length_replicate,uu]) fun k c=>?_
  rw [List.length_replicate] at c
  rw [eu c]
  simp [List.getD_eq_getElem?_getD,c,GV.wdOf]
 have v:mk (m.rows.length:Int) false=xm m.rows.length (P.take 0):=by
  rw [z7j]
  refine z0t (by rw [List.length_replicate,ou]) fun k c=>?_
  rw [List.length_replicate] at c
  rw [z0n c]
  simp [List.getD_eq_getElem?_getD,c,occ]
 rw [u,v]
 have key:=zpj (N:=N) l s p (σ:=List (List Int)×List Bool) (fun a b=>
  gd (okI b.2 a.fB)<|
  bif decide (a.fH≠(-1)) then(
  gd (okI b.1 a.fH)<|
  bd (fq N (ix b.1 a.fH)) fun d=>
  gd (fits 8 d ([a.fG]:List Int))<|
  bd (rz N (d++([a.fG]:List Int))) fun f=>
  gd (okI b.1 a.fB)<|
  some (true,((up b.1 a.fB f),(up b.2 a.fB true)))) else(
  some (true,(b.1,(up b.2 a.fB true))))) (fun k=>(uy m.rows.length (P.take k),xm m.rows.length (P.take k))) (fun k c=>?_)
 ·rw [q9 key,hPe,List.take_length]
 ·rw [hPe] at c⊢
  have h:=e.rng k c
  have n:=e.fresh c
  have hset:up (xm m.rows.length (P.take k)) ((P.getD k default).st:Int) true=xm m.rows.length (P.take (k+1)):=by
   rw [z3a,za9 h,←z2w P k c]
  show gd (okI (xm m.rows.length (P.take k)) ((P.getD k default).st:Int)) (bif decide ((P.getD k default).par≠(-1)) then(
   gd (okI (uy m.rows.length (P.take k)) (P.getD k default).par)<|
   bd (fq N (ix (uy m.rows.length (P.take k)) (P.getD k default).par)) fun d=>
   gd (fits 8 d ([(P.getD k default).inp]:List Int))<|
   bd (rz N (d++([(P.getD k default).inp]:List Int))) fun f=>
   gd (okI (uy m.rows.length (P.take k)) ((P.getD k default).st:Int))<|
   some (true,((up (uy m.rows.length (P.take k)) ((P.getD k default).st:Int) f),(up (xm m.rows.length (P.take k)) ((P.getD k default).st:Int) true)))) else(
   some (true,((uy m.rows.length (P.take k)),(up (xm m.rows.length (P.take k)) ((P.getD k default).st:Int) true)))))=_
  rw [zh (qo (by rw [ou];exact h)),hset]
  by_cases h0:k=0
  ·subst h0
   rw [bu (by rw [e.root];simp)]
   congr 3
   rw [z2w P 0 c]
   refine z0t (by rw [uu,uu]) fun j o=>?_
   rw [uu] at o
   rw [eu o,eu o,zcp,e.root]
   simp [GV.wdOf,occ]
  ·obtain⟨q,i,w,hi,r,x,y,_⟩:=e.par k (by omega) c
   have z:=e.wok q (by omega)
   have hple:=e.le
   have g:=e.rng q (by omega)
   rw [mo (by rw [r];omega),r,zh (qo (by rw [uu];exact g)),gu,eu g,e.find k (by omega) w,q9 (zq3 (by omega))]
   have hfit:fits 8 (P.getD q default).wd ([(P.getD k default).inp]:List Int):=⟨by simp only [List.length_singleton];omega,by simp only [List.length_singleton];omega⟩
   rw [zh hfit,q9 zhj,zh (qo (by rw [uu];exact h)),z3a,x,←y,zew h n,←z2w P k c]
end GV
end Go.Proofs.Ytncblcdhmcmkmaa

namespace Go.Proofs.Ytncblcdhmcmkmaa
namespace GV
set_option maxRecDepth 100000
def nxt(K:Int):List Int→Option (List Int)
 | []=>none
 |d::r=>match nxt K r with
  |some r'=>some (d::r')
  |none=>if d+1<K then some ((d+1)::List.replicate r.length 0) else none
def z5m(K:Int)(w:List Int):List Int:=(nxt K w).getD (List.replicate w.length 0++[0])
def Dg(K:Int)(w:List Int):Prop:= ∀ d∈w,0≤d∧d<K
theorem zk7{K:Int}{w:List Int}:Dg K w↔WOk K w:=by
 constructor
 ·intro h k a;exact h _ (z1g a)
 ·intro h d b
  obtain⟨k,a,rfl⟩:=List.mem_iff_getElem.1 b
  have:=h k a
  simpa [List.getD_eq_getElem?_getD,a] using this
theorem z9x: ∀ {v:List Int} {n:Nat},(∀ d∈v,0≤d)→ ¬z4i v (List.replicate n 0)
 | [],_,_,h=>h
 |_::_,0,_,h=>h
 |d::v,n+1,a,h=>by
  rw [List.replicate_succ] at h
  have:=a d (by simp)
  rcases h with h|⟨_,h⟩
  ·omega
  ·exact z9x (fun x b=>a x (by simp [b])) h
theorem zfi{K:Int}: ∀ {w v:List Int},nxt K w=none→Dg K v→ ¬z4i w v
 | [],_,_,_,h=>h
 |_::_,[],_,_,h=>h
 |d::r,e::v,a,b,h=>by
  unfold nxt at a
  cases hr:nxt K r with
  |some r'=>rw [hr] at a;cases a
  |none=>
   rw [hr] at a
   simp only at a
   split at a
   ·cases a
   ·have:=b e (by simp)
    rcases h with h|⟨_,h⟩
    ·omega
    ·exact zfi hr (fun x c=>b x (by simp [c])) h
theorem zfe{K:Int}: ∀ {w u:List Int},nxt K w=some u→u.length=w.length∧(Dg K w→Dg K u)∧z4i w u∧ ∀ v,Dg K v→z4i v u→ ¬z4i w v
 | [],_,h=>by cases h
 |d::r,u,h=>by
  unfold nxt at h
  cases hr:nxt K r with
  |some r'=>
   rw [hr] at h
   simp only [Option.some.injEq] at h
   subst h
   obtain⟨i,j,k,l⟩:=zfe hr
   refine⟨by simp [i],fun c x b=>?_,.inr ⟨rfl,k⟩,fun v g a hlt'=>?_⟩
   ·rcases List.mem_cons.1 b with rfl|b
    ·exact c _ (by simp)
    ·exact j (fun y m=>c y (by simp [m])) x b
   ·cases v with
    |nil=>exact a
    |cons e v=>
     rcases a with a|⟨rfl,a⟩
     ·rcases hlt' with hlt'|⟨rfl,_⟩<;>omega
     ·rcases hlt' with hlt'|⟨_,hlt'⟩
      ·omega
      ·exact l v (fun x b=>g x (by simp [b])) a hlt'
  |none=>
   rw [hr] at h
   simp only at h
   split at h
   ·rename_i hK
    simp only [Option.some.injEq] at h
    subst h
    refine⟨by simp,fun c x b=>?_,.inl (by omega),fun v g a hlt'=>?_⟩
    ·rcases List.mem_cons.1 b with rfl|b
     ·have:=c d (by simp);omega
     ·have:=(List.mem_replicate.1 b).2
      have:=c d (by simp);omega
    ·cases v with
     |nil=>exact a
     |cons e v=>
      have f:Dg K v:=fun x b=>g x (by simp [b])
      rcases a with a|⟨rfl,a⟩
      ·rcases hlt' with hlt'|⟨rfl,hlt'⟩
       ·omega
       ·exact zfi hr f hlt'
      ·exact z9x (fun x b=>(f x b).1) a
   ·cases h
theorem zhs{K:Int}(q:1≤K){w:List Int}(i:Dg K w):Dg K (z5m K w)∧llt w (z5m K w)∧ ∀ v,Dg K v→llt v (z5m K w)→lle v w:=by
 unfold z5m
 cases h:nxt K w with
 |some u=>
  obtain⟨j,l,m,n⟩:=zfe h
  refine⟨l i,.inr ⟨j.symm,m⟩,fun v f c=>?_⟩
  rcases c with c|⟨g,c⟩
  ·exact .inr (.inl (by simp only [Option.getD_some] at c;omega))
  ·simp only [Option.getD_some] at g c
   rcases z7f (a:=v) (b:=w) (by omega) with k|rfl|k
   ·exact .inr (.inr ⟨by omega,k⟩)
   ·exact .inl rfl
   ·exact absurd k (n v f c)
 |none=>
  simp only [Option.getD_none]
  have e:List.replicate w.length (0:Int)++[0]=List.replicate (w.length+1) 0:=by rw [List.replicate_succ']
  rw [e]
  refine⟨fun d o=>by rw [(List.mem_replicate.1 o).2];omega,.inl (by simp),fun v f c=>?_⟩
  rcases c with c|⟨g,c⟩
  ·rw [List.length_replicate] at c
   by_cases hvl:v.length=w.length
   ·rcases z7f hvl with k|rfl|k
    ·exact .inr (.inr ⟨hvl,k⟩)
    ·exact .inl rfl
    ·exact absurd k (zfi h f)
   ·exact .inr (.inl (by omega))
  ·exact absurd c (z9x fun x p=>(f x p).1)
theorem zlt{K:Int}{b b':List Int}(h:nxt K b=some b'): ∀ a:List Int,nxt K (a++b)=some (a++b')
 | []=>h
 |d::a=>by
  show (match nxt K (a++b) with|some r'=>some (d::r')|none=>_)=_
  rw [zlt h a];rfl
theorem zqp{K:Int}{w:List Int}:w.length≤(z5m K w).length∧(z5m K w).length≤w.length+1:=by
 unfold z5m
 cases h:nxt K w with
 |some u=>have:=(zfe h).1;simp only [Option.getD_some];omega
 |none=>simp
theorem set_mid{A B:List Int}{c v:Int}:((A++[c])++B).set A.length v=A++v::B:=by
 rw [List.append_assoc,List.set_append_right _ _ (Nat.le_refl _),Nat.sub_self];rfl
theorem zp9{N:Nat}{K:Int}{w:List Int}(o:w.length<N)(q:w.length≤100000)(l:Dg K w)(r:K≤1000):z09 N w K=some (z5m K w):=by
 unfold z09
 have f:fits 8 ([]:List Int) w:=⟨by simp only [List.length_nil];omega,by simp only [List.length_nil];omega⟩
 rw [zh f,List.nil_append]
 have m:gm N K N ((w.length:Int)-1) w=some (match nxt K w with|some u=>Ex.rt u|none=>Ex.go (List.replicate w.length 0)):=by
  have key:=xw (σ:=List Int) (fun F k s=>gm N K F ((w.length:Int)-1-(k:Int)) s) w.length
   (fun k s=>k≤w.length∧s=w.take (w.length-k)++List.replicate k 0∧nxt K (w.drop (w.length-k))=none) (match nxt K w with|some u=>Ex.rt u|none=>Ex.go (List.replicate w.length 0)) (fun F k s t hi=>?_) (fun F s hi=>?_) N 0 w (Nat.zero_le _) (by omega) ⟨Nat.zero_le _,by simp,by rw [Nat.sub_zero,List.drop_length];rfl⟩
  ·simpa using key
  ·obtain⟨_,rfl,e⟩:=hi
   have b:w.length-1-k<w.length:=by omega
   generalize hpe:w.length-1-k=p at b
   have hidx:(w.length:Int)-1-(k:Int)=(p:Int):=by omega
   have htake:w.take (w.length-k)=w.take p++[w.getD p default]:=by rw [show w.length-k=p+1 by omega];exact z4y w p b
   have hdrop:w.drop p=w.getD p default::w.drop (w.length-k):=by rw [z7s w p b,show p+1=w.length-k by omega]
   have a:(w.take (w.length-k)++List.replicate k (0:Int)).length=w.length:=by simp;omega
   have g:ix (w.take (w.length-k)++List.replicate k (0:Int)) (p:Int)=w.getD p default:=by
    rw [gu,List.getD_eq_getElem?_getD,List.getElem?_append_left (by rw [List.length_take];omega),List.getElem?_take,if_pos (by omega),←List.getD_eq_getElem?_getD]
   have n:=zk7.1 l p b
   have hsplit:w=w.take p++(w.getD p default::w.drop (w.length-k)):=by rw [←hdrop,List.take_append_drop]
   have hset: ∀ v,up (w.take (w.length-k)++List.replicate k (0:Int)) (p:Int) v=w.take p++v::List.replicate k 0:=fun v=>by
    rw [z3a,htake]
    have:=set_mid (A:=w.take p) (B:=List.replicate k (0:Int)) (c:=w.getD p default) (v:=v)
    rwa [List.length_take,Nat.min_eq_left (by omega)] at this
   have i:(w.drop (w.length-k)).length=k:=by rw [List.length_drop];omega
   have d:nxt K (w.getD p default::w.drop (w.length-k))=if w.getD p default+1<K then some ((w.getD p default+1)::List.replicate k 0) else none:=by
    show (match nxt K (w.drop (w.length-k)) with|some r'=>_|none=>_)=_
    rw [e,i]
   simp only [gm]
   simp only [hidx,g]
   rw [mo (by omega),zh (qo (by rw [a];exact b)),zh (qm (by omega))]
   by_cases hc:w.getD p default+1<K
   ·left
    rw [mo hc,zh (qo (by rw [a];exact b)),zh (qm (by omega)),zh (qo (by rw [a];exact b)),hset]
    rw [if_pos hc] at d
    have hw':nxt K w=some (w.take p++((w.getD p default+1)::List.replicate k 0)):=by
     have:=zlt d (w.take p)
     rwa [←hsplit] at this
    rw [hw']
   ·right
    refine⟨w.take p++0::List.replicate k 0,⟨by omega,?_,?_⟩,?_⟩
    ·rw [show w.length-(k+1)=p by omega,List.replicate_succ]
    ·rw [show w.length-(k+1)=p by omega,hdrop,d,if_neg hc]
    ·rw [bu hc,zh (qo (by rw [a];exact b)),zh (qm (by omega)),hset]
     congr 1
     omega
  ·obtain⟨_,rfl,e⟩:=hi
   rw [Nat.sub_self,List.drop_zero] at e
   simp only [gm]
   rw [bu (by omega),e,Nat.sub_self,List.take_zero,List.nil_append]
 rw [q9 (show (gd (in64 ((w.length:Int)-1)) (gm N K N ((w.length:Int)-1) w))=some (match nxt K w with|some u=>Ex.rt u|none=>Ex.go (List.replicate w.length 0)) from by rw [zh (qm (by omega)),m])]
 unfold z5m
 cases h:nxt K w with
 |some u=>rfl
 |none=>
  simp only
  rw [zdl]
  have j:fits 8 (List.replicate w.length (0:Int)) ([0]:List Int):=⟨by simp only [List.length_replicate,List.length_singleton];omega,by simp only [List.length_replicate,List.length_singleton];omega⟩
  rw [zh j];rfl
def zf0(K:Int):Nat→List Int
 |0=>[]
 |k+1=>z5m K (zf0 K k)
theorem zk9: ∀ K,1≤K→K≤3→6≤(zf0 K 364).length:=by
 intro K a b
 have:K=1∨K=2∨K=3:=by omega
 rcases this with rfl|rfl|rfl<;>decide+kernel
theorem zio{K:Int}(a:1≤K): ∀ k,Dg K (zf0 K k)
 |0=>fun d b=>by simp [zf0] at b
 |k+1=>(zhs a (zio a k)).1
theorem zgh{N:Nat}{m:Mach}(C:MOk m)(hN:400≤N)(h6:m.rows.length≤6)(h3:m.inputs≤3){s0:Nat}(hs:s0<m.rows.length):su N m (s0:Int)=some (uy m.rows.length (rch m s0),xm m.rows.length (rch m s0)):=by
 have o:=z5o C hs
 generalize hPe:rch m s0=P at o⊢
 have hi1:=C.i1
 unfold su
 rw [zh ⟨by omega,by omega,by omega⟩,zh ⟨by omega,by omega,by omega⟩]
 have e1:mk (m.rows.length:Int) ([]:List Int)=uy m.rows.length (P.take 0):=by
  rw [z7j]
  refine z0t (by rw [List.length_replicate,uu]) fun k u=>?_
  rw [List.length_replicate] at u
  rw [eu u]
  simp [List.getD_eq_getElem?_getD,u,wdOf]
 have e2:mk (m.rows.length:Int) false=xm m.rows.length (P.take 0):=by
  rw [z7j]
  refine z0t (by rw [List.length_replicate,ou]) fun k u=>?_
  rw [List.length_replicate] at u
  rw [z0n u]
  simp [List.getD_eq_getElem?_getD,u,occ]
 have hL:yj N m (s0:Int) N [] (mk (m.rows.length:Int) ([]:List Int)) (mk (m.rows.length:Int) false)=some (uy m.rows.length P,xm m.rows.length P):=by
  refine xw (σ:=List Int×List (List Int)×List Bool) (fun F k s=>yj N m (s0:Int) F s.1 s.2.1 s.2.2) 364
   (fun k s=>s.1=zf0 m.inputs k∧s.1.length≤6∧ ∃ c,c≤P.length∧s.2=(uy m.rows.length (P.take c),xm m.rows.length (P.take c))∧(∀ j,j<c→llt (P.getD j default).wd s.1)∧ ∀ j,c≤j→j<P.length→lle s.1 (P.getD j default).wd)
   _ (fun F k s u hi=>?_) (fun F s hi=>?_) N 0 ([],_,_) (Nat.zero_le _) (by omega) ⟨rfl,by simp,0,Nat.zero_le _,Prod.ext e1 e2,fun j d=>by omega,fun j _ d=>?_⟩
  ·obtain⟨w,l,is⟩:=s
   obtain⟨A,v,c,Z,p,q,f⟩:=hi
   simp only at A v p q f
   obtain⟨rfl,rfl⟩:=Prod.mk.inj p
   have x:=A▸zio hi1 k
   have y:=zk7.1 x
   simp only [yj]
   by_cases hlen:w.length<m.rows.length
   ·right
    rw [mo (by omega)]
    have haft:=zdy (N:=N) C N (s0:Int) w (.inr ⟨by omega,by omega⟩) y (by omega)
    have D:=zh0 m C (s0:Int) w (.inr ⟨by omega,by omega⟩) y
    obtain⟨ag,L,M⟩:=zhs hi1 x
    have ah:=zqp (K:=m.inputs) (w:=w)
    have E:=zp9 (N:=N) (K:=m.inputs) (w:=w) (by omega) (by omega) x (by omega)
    have go: ∀ c',c'≤P.length→(∀ j,j<c'→lle (P.getD j default).wd w)→(∀ j,c'≤j→j<P.length→llt w (P.getD j default).wd)→
     (z5m m.inputs w=zf0 m.inputs (k+1)∧(z5m m.inputs w).length≤6∧ ∃ c,c≤P.length∧(uy m.rows.length (P.take c'),xm m.rows.length (P.take c'))=(uy m.rows.length (P.take c),xm m.rows.length (P.take c))∧(∀ j,j<c→llt (P.getD j default).wd (z5m m.inputs w))∧ ∀ j,c≤j→j<P.length→lle (z5m m.inputs w) (P.getD j default).wd):=fun c' hc' B O=>
     ⟨by rw [A];rfl,by omega,c',hc',rfl,fun j d=>zlk (B j d) L,fun j d g=>by
      rcases zn0 (z5m m.inputs w) (P.getD j default).wd with h|h|h
      ·exact .inr h
      ·exact .inl h
      ·exact absurd (O j d g) (zbe (M _ (zk7.2 (o.wok j g).1) h))⟩
    have strict: ∀ j,j<P.length→lle w (P.getD j default).wd→(P.getD j default).wd≠w→llt w (P.getD j default).wd:=fun j d h Q=>h.resolve_left fun e=>Q e.symm
    have hsame:z2q m (s0:Int) w= -1∨(0≤z2q m (s0:Int) w∧ix (xm m.rows.length (P.take c)) (z2q m (s0:Int) w)=true)→
     ∃ s':List Int×List (List Int)×List Bool,(s'.1=zf0 m.inputs (k+1)∧s'.1.length≤6∧ ∃ c,c≤P.length∧s'.2=(uy m.rows.length (P.take c),xm m.rows.length (P.take c))∧(∀ j,j<c→llt (P.getD j default).wd s'.1)∧ ∀ j,c≤j→j<P.length→lle s'.1 (P.getD j default).wd)∧
     (bd (bd (gq N N m (s0:Int) w) fun n=>gd ((true&&((decide (0≤n))==true))=true→okI (xm m.rows.length (P.take c)) n)<|bif (decide (0≤n))&&(!(ix (xm m.rows.length (P.take c)) n)) then(gd (okI (xm m.rows.length (P.take c)) n)<|gd (okI (uy m.rows.length (P.take c)) n)<|some ((up (uy m.rows.length (P.take c)) n w),(up (xm m.rows.length (P.take c)) n true))) else(some (uy m.rows.length (P.take c),xm m.rows.length (P.take c)))) fun G=>bd (z09 N w m.inputs) fun H=>yj N m (s0:Int) F H G.1 G.2)=yj N m (s0:Int) F s'.1 s'.2.1 s'.2.2:=fun hcase=>by
     refine⟨(z5m m.inputs w,uy m.rows.length (P.take c),xm m.rows.length (P.take c)),go c Z (fun j d=> .inr (q j d)) (fun j d g=>strict j g (f j d g) fun e=>?_),?_⟩
     ·have R:=o.aft j g
      rw [e] at R
      rcases hcase with h|⟨h0,h⟩
      ·rw [R] at h;omega
      ·rw [R,zgw (by omega) (by have:=o.rng j g;omega)] at h
       obtain⟨i,hi,r⟩:=z13.1 h
       rw [List.length_take] at hi
       have hg:(P.take c).getD i default=P.getD i default:=by simp only [List.getD_eq_getElem?_getD,List.getElem?_take,if_pos (show i<c by omega)]
       rw [hg] at r
       have:=o.dis i j (by omega) g (by omega)
       omega
     ·rw [q9 (show _=some (uy m.rows.length (P.take c),xm m.rows.length (P.take c)) from by
       rw [q9 haft]
       rcases hcase with h|⟨h0,h⟩
       ·rw [h,zh (by simp)];rfl
       ·have S:z2q m (s0:Int) w<m.rows.length:=by rcases D with e|e<;>omega
        rw [zh (fun _=>⟨h0,by rw [ou];exact S⟩),h,cf (by simp)]),q9 E]
    by_cases ht:z2q m (s0:Int) w= -1
    ·exact hsame (.inl ht)
    ·obtain⟨I,T⟩:=D.resolve_left ht
     by_cases hseen:ix (xm m.rows.length (P.take c)) (z2q m (s0:Int) w)=true
     ·exact hsame (.inr ⟨I,hseen⟩)
     ·obtain⟨j,d,r,U⟩:=o.least C _ w rfl y ht
      have V:c≤j:=by
       rcases Nat.lt_or_ge j c with h|h
       ·exfalso
        apply hseen
        rw [zgw I T]
        refine z13.2 ⟨j,by rw [List.length_take];omega,?_⟩
        simp only [List.getD_eq_getElem?_getD,List.getElem?_take,if_pos h]
        rw [←List.getD_eq_getElem?_getD];omega
       ·exact h
      have t:(P.getD j default).wd=w:=by
       rcases U with h|h
       ·exact h
       ·exact absurd h (zbe (f j V d))
      have W:j=c:=by
       rcases Nat.lt_or_ge c j with h|h
       ·have B:=o.inc c j h d
        rw [t] at B
        exact absurd B (zbe (f c (Nat.le_refl _) (by omega)))
       ·omega
      subst W
      have J:=o.rng j d
      have X:=o.fresh d
      refine⟨(z5m m.inputs w,uy m.rows.length (P.take (j+1)),xm m.rows.length (P.take (j+1))),go (j+1) (by omega) (fun i hi=>?_) (fun i hi Y=>?_),?_⟩
      ·by_cases e:i=j
       ·subst e;rw [t];exact .inl rfl
       ·exact .inr (q i (by omega))
      ·have:=o.inc j i (by omega) Y
       rwa [t] at this
      ·rw [q9 (show _=some (uy m.rows.length (P.take (j+1)),xm m.rows.length (P.take (j+1))) from by
        rw [q9 haft,←r]
        rw [←r] at hseen
        rw [zh (fun _=>qo (by rw [ou];exact J)),ct (by rw [Bool.eq_false_iff.2 hseen];simp),zh (qo (by rw [ou];exact J)),zh (qo (by rw [uu];exact J)),z3a,z3a,za9 J,←z2w P j d]
        have:=zew J X
        rw [t,←z2w P j d] at this
        rw [this]),q9 E]
   ·left
    rw [bu (by omega)]
    have z:c=P.length:=by
     rcases Nat.lt_or_ge c P.length with h|h
     ·have B:=(o.wok c h).2
      have O:=o.le
      exact absurd (show llt (P.getD c default).wd w from .inl (by omega)) (zbe (f c (Nat.le_refl _) h))
     ·omega
    rw [z,List.take_length]
  ·obtain⟨w,l,is⟩:=s
   obtain⟨A,v,c,Z,p,q,f⟩:=hi
   simp only at A v p q f
   obtain⟨rfl,rfl⟩:=Prod.mk.inj p
   have h6':=zk9 m.inputs hi1 h3
   rw [←A] at h6'
   simp only [yj]
   rw [bu (by omega)]
   have z:c=P.length:=by
    rcases Nat.lt_or_ge c P.length with h|h
    ·have B:=(o.wok c h).2
     have O:=o.le
     exact absurd (show llt (P.getD c default).wd w from .inl (by omega)) (zbe (f c (Nat.le_refl _) h))
    ·omega
   rw [z,List.take_length]
  ·show lle [] _
   cases hwd:(P.getD j default).wd with
   |nil=>exact .inl rfl
   |cons a b=>exact .inr (.inl (by simp))
 rw [q9 hL]
end GV
end Go.Proofs.Ytncblcdhmcmkmaa

namespace Go.Proofs.Ytncblcdhmcmkmaa
namespace GV
set_option maxRecDepth 100000
theorem zd3{N:Nat}{m:Mach}(a:MOk m)(b:200≤N):mh N m=some 0:=by rw [zf1 a.small b,(z8s m).2 a]
theorem zn9{N:Nat}{m:Mach}(a:MOk m)(b:200≤N):z3h N m=some (uy m.rows.length (rch m 0),xm m.rows.length (rch m 0),0):=by
 have c:=a.r1
 unfold z3h
 rw [q9 (zd3 a b),bu (by simp),q9 (show z1q N m 0=_ from zea a b (s0:=0) (by omega))]
theorem z8k{N:Nat}{m:Mach}(a:MOk m)(b:400≤N)(c:m.rows.length≤6)(d:m.inputs≤3):tu N m=some (uy m.rows.length (rch m 0),xm m.rows.length (rch m 0)):=by
 have e:=a.r1
 unfold tu
 rw [q9 (show su N m 0=_ from zgh a b c d (s0:=0) (by omega))]
def ry(P:List BE):List Int:=P.map fun e=>(e.st:Int)
theorem z7c{N:Nat}{m:Mach}(c:MOk m)(f:200≤N):z0w N m=some (ry (rch m 0)):=by
 have g:=c.r1
 have h:=c.r2
 have d:=z5o c (s0:=0) (by omega)
 generalize hPe:rch m 0=P at d⊢
 have hple:=d.le
 unfold z0w
 rw [q9 (show z1p N m 0=some (m,0) from rfl)]
 have key:=zpj (N:=N) c f (s0:=0) (by omega) (σ:=List Int) (fun a b=>
  gd (fits 8 b ([a.fB]:List Int))<|
  some (true,(b++([a.fB]:List Int)))) (fun k=>ry (P.take k)) (fun k e=>?_)
 ·rw [q9 (show z08 N m 0 (List Int) _ ([]:List Int)=_ from key),hPe,List.take_length]
 ·rw [hPe] at e⊢
  have hfit:fits 8 (ry (P.take k)) ([((P.getD k default).st:Int)]:List Int):=by
   have:(ry (P.take k)).length≤64:=by unfold ry;rw [List.length_map,List.length_take];omega
   exact⟨by simp only [List.length_singleton];omega,by simp only [List.length_singleton];omega⟩
  show gd (fits 8 (ry (P.take k)) ([((P.getD k default).st:Int)]:List Int)) (some (true,(ry (P.take k)++([((P.getD k default).st:Int)]:List Int))))=_
  rw [zh hfit,z2w P k e]
  unfold ry
  rw [List.map_append];rfl
theorem zmz{N:Nat}{l:List Int}(d:l.length<N)(e:l.length≤1000000){σ:Type}(B:Int→σ→Option (Bool×σ))(f:Nat→σ)(c: ∀ k,k<l.length→B (l.getD k default) (f k)=some (true,f (k+1))):z0s N l σ B (f 0)=some (f l.length):=by
 unfold z0s
 refine xw (σ:=σ) (fun F k s=>dz N σ B l F s (k:Int)) l.length (fun k s=>s=f k) _ (fun F k s a hi=>?_) (fun F s hi=>?_) N 0 (f 0) (Nat.zero_le _) (by omega) rfl
 ·subst hi
  right
  refine⟨_,rfl,?_⟩
  simp only [dz]
  rw [mo (by omega),zh (qo a),gu]
  refine(q9 (c k a)).trans ?_
  refine(cf (b:= !(true,f (k+1)).1) rfl).trans ?_
  exact zh (qm (by omega))
 ·subst hi
  simp only [dz]
  rw [bu (by omega)]
theorem zm5{N:Nat}{s l:List Int}(c:l.length<N)(e:s.length+l.length≤1000000):iq N s l=some (s++l):=by
 unfold iq
 have key:=zmz (N:=N) c (by omega) (fun a b=>
  gd (fits 8 b ([a]:List Int))<|
  some (true,(b++([a]:List Int)))) (fun k=>s++l.take k) (fun k d=>?_)
 ·rw [List.take_zero,List.append_nil,List.take_length] at key
  rw [q9 key]
 ·have hfit:fits 8 (s++l.take k) ([l.getD k default]:List Int):=by
   have:(s++l.take k).length≤1000000:=by rw [List.length_append,List.length_take];omega
   exact⟨by simp only [List.length_singleton];omega,by simp only [List.length_singleton];omega⟩
  rw [zh hfit,z4y l k d,List.append_assoc]
theorem zma{N:Nat}{l:List Int}(a:l.length<N)(b:0<l.length)(d:l.length≤1000000):z1f N l=some (z2o l):=by
 unfold z1f z1d
 rw [q9 (show (bd (iq N [] l) fun c=>some c)=some l from by rw [q9 (zm5 a (by simp;omega))];rfl)]
 unfold slices_Sort_int
 rw [zh ⟨b,by omega⟩];rfl
theorem zem{N:Nat}{m:Mach}(a:MOk m)(b:200≤N):z1u N m=some (z2o (ry (rch m 0)),0):=by
 have d:=a.r1
 have e:=a.r2
 have c:=z5o a (s0:=0) (by omega)
 have g:(ry (rch m 0)).length=(rch m 0).length:=by simp [ry]
 have f:=c.le
 have hpos:=c.pos
 unfold z1u
 rw [q9 (zd3 a b),bu (by simp),q9 (z7c a b),q9 (show z2n N _=some _ from rfl),q9 (zma (by omega) (by omega) (by omega)),q9 zhj]
def z3z(n:Nat)(P:List BE):List Int:=((List.range n).filter fun s=>occ P s).map fun s=>((s:Nat):Int)
theorem zju(n:Nat)(P:List BE):(z3z n P).Pairwise (· ≤ ·):=by
 unfold z3z
 rw [List.pairwise_map]
 exact((List.pairwise_lt_range (n:=n)).filter _).imp fun h=>by omega
theorem zhy{m:Mach}{s0:Nat}{P:List BE}(h:Rch m s0 P):z2o (ry P)=z3z m.rows.length P:=by
 refine z6n ((zb5 _).trans ?_) (zbq _) (zju _ _)
 unfold ry z3z
 have e:(P.map fun e=>(e.st:Int))=(P.map (·.st)).map fun s=>((s:Nat):Int):=by rw [List.map_map];rfl
 rw [e]
 refine List.Perm.map _ ?_
 have d:(P.map (·.st)).Nodup:=by
  rw [List.nodup_iff_pairwise_ne,List.pairwise_iff_getElem]
  intro i j hi b g e
  rw [List.length_map] at hi b
  rw [List.getElem_map,List.getElem_map] at e
  have:=h.dis i j hi b (by simpa [List.getD_eq_getElem?_getD,b,hi] using e)
  omega
 have c:((List.range m.rows.length).filter fun s=>occ P s).Nodup:=List.Pairwise.filter _ List.nodup_range
 rw [List.perm_ext_iff_of_nodup d c]
 intro a
 rw [List.mem_map,List.mem_filter,List.mem_range,z13]
 constructor
 ·rintro⟨x,k,rfl⟩
  obtain⟨j,b,rfl⟩:=List.mem_iff_getElem.1 k
  have f:P.getD j default=P[j]:=by simp [List.getD_eq_getElem?_getD,b]
  exact⟨by rw [←f];exact h.rng j b,j,b,by rw [f]⟩
 ·rintro⟨_,j,b,rfl⟩
  exact⟨_,z1g b,rfl⟩
theorem zj1{N:Nat}{m:Mach}(a:MOk m)(b:200≤N){l:List Int}(c: ∀ s∈l,0≤s∧s<(m.rows.length:Int))(hlen:l.length≤10):z3y N m l=some 0:=by
 unfold z3y
 rw [q9 (zd3 a b),bu (by simp),q9 (zo0 (p:=fun s=>decide (s<0)||decide ((m.rows.length:Int)≤s)) (fun k e=>rfl) (by omega) (by omega))]
 have:(l.any fun s=>decide (s<0)||decide ((m.rows.length:Int)≤s))=false:=by
  rw [List.any_eq_false]
  intro s d
  have:=c s d
  simp;omega
 rw [this];rfl
theorem zls{N:Nat}{m:Mach}(b:MOk m)(c:200≤N){s t:Nat}(e:s<m.rows.length)(a:t<m.rows.length):z11 N m (s:Int) (t:Int)=some (wdOf (rch m s) t,occ (rch m s) t,0):=by
 unfold z11
 rw [q9 (zj1 b c (l:=[(s:Int),(t:Int)]) (fun x d=>by simp at d;rcases d with rfl|rfl<;>omega) (by simp)),bu (by simp),q9 (zea b c e)]
 rw [zh (qo (by rw [uu];exact a)),zh (qo (by rw [ou];exact a)),gu,gu,eu a,z0n a]
def z3t(P:List BE)(t:Nat):Int:=if occ P t=true then((wdOf P t).length:Int) else-1
def z4e(n:Nat)(P:List BE):List Int:=(List.range n).map (z3t P)
theorem z7z(n:Nat)(P:List BE):(z4e n P).length=n:=by simp [z4e]
theorem zcl{n t:Nat}{P:List BE}(h:t<n):(z4e n P).getD t default=z3t P t:=by simp [z4e,List.getD_eq_getElem?_getD,h]
theorem zla{N:Nat}{m:Mach}(a:MOk m)(d:200≤N){s:Nat}(e:s<m.rows.length):lw N m (s:Int)=some (z4e m.rows.length (rch m s),0):=by
 have g:=a.r2
 have h:=z5o a e
 unfold lw
 rw [q9 (zj1 a d (l:=[(s:Int)]) (fun x f=>by simp at f;subst f;omega) (by simp)),bu (by simp),q9 (zea a d e)]
 generalize rch m s=P at h⊢
 have c:=uu m.rows.length P
 dsimp only
 rw [zh ⟨by omega,by omega,by omega⟩]
 have i:og N (uy m.rows.length P,xm m.rows.length P) N 0 (mk ((uy m.rows.length P).length:Int) (0:Int))=some (z4e m.rows.length P):=by
  refine xw (σ:=List Int) (fun F k st=>og N (uy m.rows.length P,xm m.rows.length P) F (k:Int) st) m.rows.length
   (fun k st=>st=(List.range k).map (z3t P)++List.replicate (m.rows.length-k) 0) _ (fun F k st b hi=>?_) (fun F st hi=>?_) N 0 _ (Nat.zero_le _) (by omega) (by rw [z7j,c];simp)
  ·subst hi
   right
   refine⟨_,rfl,?_⟩
   have j:((List.range k).map (z3t P)).length=k:=by simp
   have hlen:((List.range k).map (z3t P)++List.replicate (m.rows.length-k) (0:Int)).length=m.rows.length:=by simp;omega
   have hnext: ∀ z,((List.range k).map (z3t P)++List.replicate (m.rows.length-k) (0:Int)).set k z=((List.range k).map (z3t P)++[z])++List.replicate (m.rows.length-(k+1)) 0:=fun z=>zqf _ _ _ _ j b
   simp only [og]
   rw [mo (by omega)]
   refine(q9 (x:=(List.range (k+1)).map (z3t P)++List.replicate (m.rows.length-(k+1)) 0) ?_).trans ?_
   ·rw [zh (qo (by omega)),zh (qo (by omega)),zh (qo (by rw [ou];exact b))]
    simp only [gu,z0n b,eu b]
    rw [zaw]
    cases ho:occ P k
    ·rw [cf rfl,z3a,hnext]
     unfold z3t
     rw [ho,if_neg (by decide)]
    ·rw [ct rfl,zh (qo (by rw [z3a,List.length_set];omega)),z3a,z3a,List.set_set,hnext]
     unfold z3t
     rw [ho,if_pos rfl]
   ·rw [zh (qm (by omega))];rfl
  ·subst hi
   simp only [og]
   rw [bu (by omega),Nat.sub_self,List.replicate_zero,List.append_nil]
   rfl
 rw [q9 i]
end GV
end Go.Proofs.Ytncblcdhmcmkmaa
