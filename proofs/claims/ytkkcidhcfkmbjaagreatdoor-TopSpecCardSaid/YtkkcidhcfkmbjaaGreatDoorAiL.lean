
import Derived.Test.YtkkcidhcfkmbjaaGreatDoorAiN
import Derived.RangeFuncRecord
set_option linter.unusedVariables false
set_option linter.unusedSimpArgs false
set_option linter.unusedSectionVars false
namespace Go.Proofs.YtkkcidhcfkmbjaaGreatDoor
namespace GV
namespace AI
def Fin(R:RH)(A:List Frag)(ι:Io)(v:AV)(S:HP)(nx:Nat):Value→World→Prop:=fun v' w'=> ∃ ι',ILe ι ι'∧SR R A ι' S nx w'∧VR ι' v v'
def XS(C:Cf)(o:Oper)(t:TB)(S:HP)(nx:Nat)(v:AV)(S':HP)(nx':Nat):Prop:=
 ∀ (R:RH) (A:List Frag) (ι:Io) (w:World) (ρ:Operand→Value),GR C R→(∀ x∈o.op.operands,VR ι (evA t x) (ρ x))→SR R A ι S nx w→Out C.P (Fin R A ι v S' nx') ((execOp ρ o).run C.P w)
section ops
variable {C : Cf} {t : TB} {S : HP} {nx : Nat} {β : Type} {r : β} {d : Option Tmp} {ty : TypeId} {pos : String} {af : Array Edge} {g : Option (Nat × Bool)} {ι : Io} {ρ : Operand → Value}
theorem over_drop{α:Type}{cs vs:List Value}{b o:Nat}(h:b+o+vs.length≤cs.length):(over cs (b+o) vs).drop b=over (cs.drop b) o vs:=by
 unfold over
 rw [List.append_assoc,List.append_assoc,List.drop_append_of_le_length (by rw [List.length_take];omega),List.drop_take,List.drop_drop,show b+o-b=o from by omega,show b+(o+vs.length)=b+o+vs.length from by omega]
theorem over_take{cs vs:List Value}{n o:Nat}(h:o+vs.length≤n)(h2:n≤cs.length):(over cs o vs).take n=over (cs.take n) o vs:=by
 unfold over
 rw [List.append_assoc,List.append_assoc,List.take_append,List.take_append,List.take_of_length_le (by rw [List.length_take];omega),List.take_of_length_le (l:=vs) (by rw [List.length_take];omega),List.take_take,Nat.min_eq_left (by omega),List.drop_take]
 congr 3
 rw [List.length_take];omega
theorem over_len{cs vs:List Value}{o:Nat}(h:o+vs.length≤cs.length):(over cs o vs).length=cs.length:=by
 unfold over
 simp only [List.length_append,List.length_take,List.length_drop];omega
theorem wrK_some{id off:Nat}{vs:List AV}{K:HP→Option β}(h:wrK S id off vs K=some r): ∃ S',K S'=some r∧ ∀ R A ι w L (xs:List Value),SR R A ι S nx w→ι id=some L→VRs ι vs xs→
 ∃ w',(storeCells ⟨L.blk,L.base+off,none⟩ xs).run C.P w= .ok () w'∧SR R A ι S' nx w':=by
 obtain⟨h1,h⟩:=og_some h
 obtain⟨l,o,hid,h⟩:=blkK_some h
 obtain⟨h2,h⟩:=spliceK_some _ _ _ _ h
 obtain⟨S',hS,h⟩:=putB_some h
 refine⟨S',h,fun R A ι w L xs hs hL hx=>?_⟩
 have hne:hg S id≠ .x:=by rw [hid];intro e;cases e
 obtain⟨L',ob,a1,a2,a3⟩:=hs.blk hne
 rw [hL] at a1;cases a1
 rw [hid] at a3
 obtain⟨c,ty',rfl,hv,ho⟩:=a3
 obtain⟨hd,hg'⟩:=hS hs.dep
 have hxl:=VRs.len hx
 have hvl:=VRs.len hv
 rw [List.length_take,List.length_drop] at hvl
 by_cases e:vs=[]
 ·subst e
  rw [VRs_nil] at hx
  subst hx
  rw [if_pos rfl] at hg'
  refine⟨w,rfl,hs.put hne hL (by exact a2) (fun k _=>rfl) rfl rfl hd hg' ⟨c,ty',rfl,hv,ho⟩⟩
 ·have hin:=h2.resolve_left e
  have hpos:0<vs.length:=List.length_pos_iff.2 e
  rw [if_neg e] at hg'
  have h1': ∀ v∈xs,v.oneCell'=true:=by
   intro v hv'
   obtain⟨i,hi⟩:=List.getElem?_of_mem hv'
   have hlt:i<vs.length:=by rw [←hxl];exact(List.getElem?_eq_some_iff.1 hi).1
   obtain⟨v',q1,q2⟩:=hx.get (List.getElem?_eq_getElem hlt)
   rw [hi] at q1;cases q1
   exact(one_cell (allK_eq _ h1 _ (List.getElem_mem hlt)) q2).1
  have hcs:c=c.toList.toArray:=by simp
  have hsz:L.base+off+xs.length≤c.toList.length:=by simp;rw [hxl];simp at hvl;omega
  obtain⟨w',k1,k2,k3,k4,k5⟩:=run_storeCells (P:=C.P) xs c.toList (L.base+off) 0 w (by rw [←hcs];exact a2) (by simpa using hsz) h1'
  refine⟨w',k1,hs.put hne hL k2 k3 k4 k5 hd hg' ?_⟩
  have hlen:(l.take off++vs++l.drop (off+vs.length)).length=l.length:=by simp only [List.length_append,List.length_take,List.length_drop];omega
  refine⟨_,ty',rfl,?_,fun k hk=>?_⟩
  ·rw [hlen]
   rw [Nat.add_zero,List.toList_toArray]
   rw [over_drop (α:=Nat) (by simpa using hsz),over_take (by rw [hxl];omega) (by rw [List.length_drop];simp;simp at hvl;omega)]
   unfold over
   rw [hxl]
   exact((hv.take _).append hx).append (hv.drop _)
  ·obtain⟨q1,q2⟩:=ho k hk
   rw [hlen]
   refine⟨?_,q2⟩
   simp only [List.size_toArray,Nat.add_zero]
   rw [over_len (by simpa using hsz)]
   simpa using q1
theorem x_store{t':TypeId}{a v:Operand}{h:H β}{K:XK β}(hk:actK (.store t' a v) C h t S nx K=some r): ∃ x S' nx',XS C ⟨d,.store t' a v,ty,pos,af,g⟩ t S nx x S' nx'∧K x S' nx'=some r:=by
 obtain⟨n,hn,hk⟩:=ob_some (show ob (szT C.P t') (fun n=>evK a t fun a=>evK v t fun v=>asP a fun id off=>og (Nat.beq (lenK (cellsOf v)) n) (wrK S id off (cellsOf v) fun S=>K (.tu []) S nx))=some r from hk)
 rw [evK_eq,evK_eq] at hk
 obtain⟨id,off,ha,hk⟩:=asP_some hk
 obtain⟨hl,hk⟩:=og_some hk
 have hl':=beq_true hl
 rw [lenK_eq] at hl'
 have hnb:nb (evA t v)=true:=by
  cases hv:evA t v with
  |bad=>
   rw [hv] at hk
   obtain⟨h1,_⟩:=og_some hk
   cases h1
  |_=>rfl
 obtain⟨S',hk,key⟩:=wrK_some (C:=C) (nx:=nx) hk
 refine⟨_,S',nx,fun R A ι w ρ hG ho hs=>?_,hk⟩
 have hx:=ho a (by simp [Op.operands])
 have hy:=ho v (by simp [Op.operands])
 rw [ha,VR] at hx
 obtain⟨L,hL,hx⟩:=hx
 have hc:=cells_of hnb hy
 obtain⟨w',k1,k2⟩:=key R A ι w L _ hs hL hc
 have hrun:(Instr.storeAt t' (ρ a) (ρ v)).run C.P w= .ok () w':=by
  simp only [Instr.storeAt,hx,Instr.sureAddr,Sem.run_bind,Sem.run_pure,Result.andThen_ok,storeVar,(szT_some hn).1]
  rw [if_neg (by have:=VRs.len hc;rw [hl'] at this;simpa using this)]
  exact k1
 simp only [execOp,Sem.run_bind,hrun,Result.andThen_ok]
 exact⟨ι,ILe.refl _,k2,by rw [VR];exact⟨[],rfl,VRs_nil.2 rfl⟩⟩
/-! ### Maps-/
theorem ERs_mod{k:AV}{v:AV}{kv vv:Value}(hk:VR ι k kv)(hv:VR ι v vv): ∀ (es:List (AV×AV×Nat)) (es':List MapEntry) (i:Nat),ERs ι es es'→ERs ι (modA es i k v) (es'.modify i fun e=> {e with key:=kv,val:=vv})
 | [],es',i,h=>by rw [show es'=[] from h];simp [modA];rfl
 |(a,b,n)::es,es',i,⟨x,q,h1,h2,h3,h4,h5⟩=>by
  subst h1
  cases i with
  |zero=>exact⟨_,q,rfl,hk,hv,h4,h5⟩
  |succ i=>exact⟨x,_,by rw [List.modify_succ_cons],h2,h3,h4,ERs_mod hk hv es q i h5⟩
theorem ERs_push{k:AV}{v:AV}{kv vv:Value}{n:Nat}(hk:VR ι k kv)(hv:VR ι v vv): ∀ (es:List (AV×AV×Nat)) (es':List MapEntry),ERs ι es es'→ERs ι (es++[(k,v,n)]) (es'++[⟨kv,vv,n⟩])
 | [],es',h=>by rw [show es'=[] from h];exact⟨_,[],rfl,hk,hv,rfl,rfl⟩
 |(a,b,m)::es,es',⟨x,q,h1,h2,h3,h4,h5⟩=>by subst h1;exact⟨x,_,rfl,h2,h3,h4,ERs_push hk hv es q h5⟩
theorem putM_some{t':TypeId}{x k v:AV}{K:HP→Option β}(h:putM C.P S t' x k v K=some r): ∃ S',K S'=some r∧ ∀ R A ι w xv kv vv,SR R A ι S nx w→VR ι x xv→VR ι k kv→VR ι v vv→
 ∃ w',(Instr.mapUpdate t' xv kv vv).run C.P w= .ok () w'∧SR R A ι S' nx w':=by
 cases x with
 |m id=>
  obtain⟨q,hq,h⟩:=ob_some h
  obtain⟨es,clk,hid,h⟩:=mapK_some h
  obtain⟨hko,h⟩:=og_some h
  obtain⟨res,hf,h⟩:=ob_some h
  have hne:hg S id≠ .x:=by rw [hid];intro e;cases e
  have pre: ∀ R A ι w xv kv,SR R A ι S nx w→VR ι (.m id) xv→VR ι k kv→ ∃ (L:Loc) (es':Array MapEntry) (r':Option (Nat×Value)),ι id=some L∧xv= .map (some L.blk)∧w.heap[L.blk]? =some (.map es' clk)∧ERs ι es es'.toList∧
   KeyIs C.P q.1 ι k kv∧(Instr.findKey q.1 kv es'.toList).run C.P w= .ok r' w∧Fnd ι kv 0 es'.toList res r':=by
   intro R A ι w xv kv hs hx hkv
   rw [VR] at hx
   obtain⟨L,hL,rfl⟩:=hx
   obtain⟨L',o,a1,a2,a3⟩:=hs.blk hne
   rw [hL] at a1;cases a1
   rw [hid] at a3
   obtain⟨es',rfl,he⟩:=a3
   have hki:=keyOk_is hko hkv
   obtain⟨r',b1,b2⟩:=findA_some (w:=w) hki hf he
   exact⟨L,es',r',hL,rfl,a2,he,hki,b1,b2⟩
  cases res with
  |none=>
   have h':fL (es++[(k,v,clk)]) (fun es=>putB S id (.mp es (Nat.succ clk)) K)=some r:=h
   rw [fL_eq] at h'
   obtain⟨S',hS,h'⟩:=putB_some h'
   refine⟨S',h',fun R A ι w xv kv vv hs hx hkv hvv=>?_⟩
   obtain⟨L,es',r',hL,rfl,a2,he,hki,b1,b2⟩:=pre R A ι w xv kv hs hx hkv
   obtain⟨hd,hg'⟩:=hS hs.dep
   rcases b2 with⟨_,rfl⟩|⟨j,v',y,h1,_⟩
   ·have hset:=MapKept.heap_set (o':= .map (es'.push ⟨kv,vv,clk⟩) (clk+1)) a2
    refine⟨{w with heap:=w.heap.setIfInBounds L.blk (.map (es'.push ⟨kv,vv,clk⟩) (clk+1))},?_,hs.put hne hL hset.1 hset.2 rfl rfl hd hg' ⟨_,rfl,by rw [Array.toList_push];exact ERs_push hkv hvv _ _ he⟩⟩
    simp only [Instr.mapUpdate,Sem.run_bind,run_und (mapT_some hq),Result.andThen_ok,run_getMap a2,run_chk hki,b1]
    exact MapKept.run_setObj_map _ a2
   ·cases h1
  |some p=>
   obtain⟨i,v0⟩:=p
   have h':fL (modA es i k v) (fun es=>putB S id (.mp es clk) K)=some r:=h
   rw [fL_eq] at h'
   obtain⟨S',hS,h'⟩:=putB_some h'
   refine⟨S',h',fun R A ι w xv kv vv hs hx hkv hvv=>?_⟩
   obtain⟨L,es',r',hL,rfl,a2,he,hki,b1,b2⟩:=pre R A ι w xv kv hs hx hkv
   obtain⟨hd,hg'⟩:=hS hs.dep
   rcases b2 with⟨h1,_⟩|⟨j,v',y,h1,rfl,h3,h4,h5⟩
   ·cases h1
   ·simp only [Option.some.injEq,Prod.mk.injEq,Nat.zero_add] at h1
    obtain⟨rfl,rfl⟩:=h1
    have hset:=MapKept.heap_set (o':= .map (es'.modify i fun e=> {e with key:=kv,val:=vv}) clk) a2
    refine⟨{w with heap:=w.heap.setIfInBounds L.blk (.map (es'.modify i fun e=> {e with key:=kv,val:=vv}) clk)},?_,hs.put hne hL hset.1 hset.2 rfl rfl hd hg' ⟨_,rfl,by rw [Array.toList_modify];exact ERs_mod hkv hvv _ _ _ he⟩⟩
    have h3':es'[i]? =some y:=by rw [←Array.getElem?_toList];exact h3
    simp only [Instr.mapUpdate,Sem.run_bind,run_und (mapT_some hq),Result.andThen_ok,run_getMap a2,run_chk hki,b1,Nat.zero_add,h3',Option.map_some,Option.getD_some,h4,run_stays hki]
    exact MapKept.run_setObj_map _ a2
 |_=>cases h
theorem x_put{op:Op}{t':TypeId}{m k v:Operand}{h:H β}{K:XK β}(hop:op= .mapUpdate t' m k v∨op= .insert t' m k v)(hk:actK op C h t S nx K=some r): ∃ x S' nx',XS C ⟨d,op,ty,pos,af,g⟩ t S nx x S' nx'∧K x S' nx'=some r:=by
 have hk':evK m t (fun m=>evK k t fun k=>evK v t fun v=>putM C.P S t' m k v fun S=>K (.tu []) S nx)=some r:=by
  rcases hop with rfl|rfl<;>exact hk
 rw [evK_eq,evK_eq,evK_eq] at hk'
 obtain⟨S',hk',key⟩:=putM_some (nx:=nx) hk'
 refine⟨_,S',nx,fun R A ι w ρ hG ho hs=>?_,hk'⟩
 have hm:=ho m (by rcases hop with rfl|rfl<;>simp [Op.operands])
 have hkk:=ho k (by rcases hop with rfl|rfl<;>simp [Op.operands])
 have hv:=ho v (by rcases hop with rfl|rfl<;>simp [Op.operands])
 obtain⟨w',k1,k2⟩:=key R A ι w _ _ _ hs hm hkk hv
 have:(execOp ρ (⟨d,op,ty,pos,af,g⟩:Oper)).run C.P w= .ok .skip w':=by
  rcases hop with rfl|rfl<;>(simp only [execOp,Sem.run_bind,k1,Result.andThen_ok];rfl)
 rw [this]
 exact⟨ι,ILe.refl _,k2,by rw [VR];exact⟨[],rfl,VRs_nil.2 rfl⟩⟩
end ops
end AI
end GV
end Go.Proofs.YtkkcidhcfkmbjaaGreatDoor

namespace Go.Proofs.YtkkcidhcfkmbjaaGreatDoor
namespace GV
namespace AI
def tyN(n:Nat):Ty Unit where
 size:=n
 agg:=true
 rep _ cs _:=cs.length=n∧ ∀ v∈cs,v.oneCell'=true
 len h:=h.1
 mono _ h:=h
 one h:=by cases h
 cell h:=h.2
section ops
variable {C : Cf} {t : TB} {S : HP} {nx : Nat} {β : Type} {r : β} {d : Option Tmp} {ty : TypeId} {pos : String} {af : Array Edge} {g : Option (Nat × Bool)} {ι : Io} {ρ : Operand → Value} {R : RH} {A : List Frag}
theorem MR.heap{h:Nat→AB}{w w':World}(m:MR C ι h w)(e:w'.heap=w.heap):MR C ι h w':=⟨fun id hid=>by rw [e];exact m.blk id hid,fun g l hm=>by rw [e];exact m.gl g l hm⟩
theorem slAt_some{x:AV}{q:Nat×Nat×Nat}(h:slAt x=some q):(∃ id off len cap,x= .sl id off len cap∧q=(id,off,len))∨ ∃ id j len k,x= .os id j len k∧q=(id,j*k,len):=by
 unfold slAt at h
 split at h
 ·cases h;exact .inl ⟨_,_,_,_,rfl,rfl⟩
 ·cases h;exact .inr ⟨_,_,_,_,rfl,rfl⟩
 ·cases h
theorem sl_at{x:AV}{id off len:Nat}{v:Value}(h:slAt x=some (id,off,len))(hv:VR ι x v): ∃ L a c,ι id=some L∧v= .slice (some a) len c∧(len≠0→a=⟨L.blk,L.base+off,none⟩):=by
 rcases slAt_some h with⟨id',off',len',cap,rfl,e⟩|⟨id',j,len',k,rfl,e⟩
 ·cases e
  rw [VR] at hv
  obtain⟨L,hL,rfl⟩:=hv
  exact⟨L,_,_,hL,rfl,fun _=>rfl⟩
 ·cases e
  rw [VR] at hv
  obtain⟨L,a,c,hL,rfl,h1,h2,h3⟩:=hv
  exact⟨L,a,c,hL,rfl,fun hn=>h3 (by omega)⟩
theorem srcK_some{n:Nat}{x:AV}{K:Nat→List AV→Option β}(h:srcK S n x K=some r): ∃ m q,K m q=some r∧ ∀ ι w v,VR ι x v→MR C ι (hg S) w→
 ∃ p c cs,v= .slice p m c∧VRs ι q cs∧cs.length=m*n∧(p=none→m=0)∧ ∀ w',w'.heap=w.heap→(Builtin.firstCells n m v).run C.P w'= .ok cs.toArray w':=by
 unfold srcK at h
 split at h
 ·refine⟨0,[],h,fun ι w v hv hm=>?_⟩
  rw [VR] at hv;subst hv
  exact⟨none,0,[],rfl,VRs_nil.2 rfl,by simp,fun _=>rfl,fun w' _=>rfl⟩
 ·obtain⟨q,hq,h⟩:=ob_some h
  obtain⟨id,off,len⟩:=q
  obtain⟨l,o,hid,h⟩:=blkK_some h
  obtain⟨hn,h⟩:=subK_some h
  refine⟨_,_,h,fun ι w v hv hm=>?_⟩
  obtain⟨L,a,c,hL,rfl,ha⟩:=sl_at hq hv
  obtain⟨L',cs,b1,b2,b3,b4⟩:=hm.row hid hn
  rw [hL] at b1;cases b1
  refine⟨some a,c,cs,rfl,b2,b3,(fun e=>by cases e),fun w' hw'=>?_⟩
  by_cases h0:len=0
  ·subst h0
   have:cs=[]:=List.length_eq_zero_iff.1 (by simpa using b3)
   subst this
   simp [Builtin.firstCells,loadCells,loadCellsFrom]
  ·rw [ha h0]
   exact(b4 w' hw').1
theorem bytT_some{P:Program}{e:TypeId}{y:Nat}(h:bytT P e=some y): ∃ i,P.info? e=some i∧i.bytes=y:=by
 unfold bytT at h
 cases hi:P.info? e with
 |none=>rw [hi] at h;cases h
 |some i=>rw [hi] at h;cases h;exact⟨i,rfl,rfl⟩
structure ElOk (P:Program) (ts e:TypeId) (n:Nat) (i:TypeInfo) (zv:Value):Prop where
 hu:P.underlying ts=some (.slice e)
 hi:P.info? e=some i
 hz:i.zero=some zv
 hs:i.size=n
 hzs:zv.cells.size=n
 hb:i.bytes≤1000000
theorem grow_ok{ts e:TypeId}{n:Nat}{i:TypeInfo}{zv:Value}(hel:ElOk C.P ts e n i zv){S S':HP}{w:World}{ol q:List AV}{olds news:List Value}{base p:Option Addr}{len m cap c:Nat}{sv xv:Value}{ty:TypeId}
 (hS:Upd S S' nx (.c (ol++q) (some n))) (hs:SR R A ι S nx w) (hol:VRs ι ol olds) (hq:VRs ι q news) (hlo:olds.length=len*n) (hln:news.length=m*n)
 (hsv:sv= .slice base len cap) (hxv:xv= .slice p m c) (fo: ∀ w',w'.heap=w.heap→(Builtin.firstCells n len sv).run C.P w'= .ok olds.toArray w') (fn: ∀ w',w'.heap=w.heap→(Builtin.firstCells n m xv).run C.P w'= .ok news.toArray w')
 (hg:cap<len+m) (hm:len+m≤1000001): ∃ v' w',(Builtin.append_ #[ts,ts] ty #[sv,xv]).run C.P w= .ok v' w'∧Fin R A ι (.os nx 0 (len+m) n) S' (nx+1) v' w':=by
 have hprod:(len+m)*i.bytes≤1000001*1000000:=Nat.mul_le_mul hm hel.hb
 have hrun:=run_app_grow (P:=C.P) (T:=tyN n) (ty:=ty) (bytes:=i.bytes) (w:=w) hel.hu hel.hi hel.hz (by rw [hel.hs];rfl) rfl hsv fo hxv fn hg (by omega) (by omega)
 obtain⟨hd,hg'⟩:=hS hs.dep
 have hge:=grownCap_ge w (len+m) cap e
 generalize grownCap w (len+m) cap e=G at*
 have hs1:SR R A ι S nx w.drew:=hs.same rfl rfl rfl
 have hadd:len*n+m*n=(len+m)*n:=(Nat.add_mul ..).symm
 have hmul:(len+m)*n≤G*n:=Nat.mul_le_mul_right n hge
 have hsize:((olds.toArray++news.toArray++Builtin.zeroCells zv.cells (G-(len+m))):Array Value).size=G*n:=by
  simp only [Array.size_append,List.size_toArray,size_zeroCells,hlo,hln,hel.hzs]
  have:(G-(len+m))*n+(len+m)*n=G*n:=by rw [←Nat.add_mul];congr 1;omega
  omega
 have hor: ∀ ι',ILe ι ι'→OR ι' ⟨w.drew.heap.size,0,G⟩ (.c (ol++q) (some n)) (.cells (olds.toArray++news.toArray++Builtin.zeroCells zv.cells (G-(len+m))) e (0,0)):=by
  intro ι' hle
  have hall:=(VRs.mono hle _ _ hol).append (VRs.mono hle _ _ hq)
  have hl:=VRs.len hall
  refine⟨_,e,rfl,?_,fun k hk=>?_⟩
  ·rw [←hl]
   simp only [List.drop_zero,Array.toList_append,List.toList_toArray]
   rw [List.take_left' rfl]
   exact hall
  ·cases hk
   refine⟨by rw [hsize];simp,?_⟩
   rw [←hl,List.length_append,hlo,hln]
   show len*n+m*n≤G*n
   omega
 obtain⟨k1,k2⟩:=hs1.new (cap:=G) hd hg' (hor _ (iup_le (hs.fresh nx (Nat.le_refl _))))
 refine⟨_,_,hrun,_,k2,k1,?_⟩
 rw [VR]
 exact⟨⟨w.drew.heap.size,0,G⟩,⟨w.heap.size,0,none⟩,G,iup_same,rfl,hge,by simp,fun _=>by simp⟩
theorem appA_some{ts xs:TypeId}{s x:AV}{K:XK β}(h:appA C S nx ts xs s x K=some r):xs=ts∧ ∃ v S' nx',K v S' nx'=some r∧ ∀ R A ι w sv xv ty,GR C R→SR R A ι S nx w→VR ι s sv→VR ι x xv→
 ∃ v' w',(Builtin.append_ #[ts,ts] ty #[sv,xv]).run C.P w= .ok v' w'∧Fin R A ι v S' nx' v' w':=by
 obtain⟨ht,h⟩:=og_some h
 refine⟨(beq_true ht).symm,?_⟩
 obtain⟨e,he,h⟩:=ob_some h
 obtain⟨n,hn,h⟩:=ob_some h
 obtain⟨y,hy,h⟩:=ob_some h
 obtain⟨z,hz,h⟩:=ob_some h
 obtain⟨hc,hz2⟩:=og_some h
 clear h
 simp only [Bool.and_eq_true,Bool.not_eq_true'] at hc
 obtain⟨⟨c1,c2⟩,c3⟩:=hc
 have c1':=beq_true c1
 have c3':=ble_true c3
 rw [lenK_eq] at c1'
 have hn0:n≠0:=fun e=>by rw [e] at c2;cases c2
 obtain⟨zv,_,rfl,hnb,i,hi,hzz⟩:=zT_some (w:=default) hz
 obtain⟨i',hi',hb'⟩:=bytT_some hy
 rw [hi] at hi';cases hi'
 obtain⟨_,i',hi',hsz'⟩:=szT_some (w:=default) hn
 rw [hi] at hi';cases hi'
 have hzs:zv.cells.size=n:=by have:=VRs.len (cells_of (ι:=fun _=>none) hnb (ofV_ok zv));rw [c1'] at this;simpa using this
 have hel:ElOk C.P ts e n i zv:=⟨elT_some he,hi,hzz,hsz',hzs,by omega⟩
 obtain⟨m,q,h,hsrc⟩:=srcK_some hz2
 obtain⟨hall,h⟩:=og_some h
 cases m with
 |zero=>
  cases s with
  |ns=>
   refine⟨_,_,_,h,fun R A ι w sv xv ty hG hs hsv hxv=>?_⟩
   obtain⟨p,c,cs,rfl,k1,k2,k3,k4⟩:=hsrc ι w xv hxv (hs.mr hG)
   have:cs=[]:=List.length_eq_zero_iff.1 (by simpa using k2)
   subst this
   have hsv':=hsv
   rw [VR] at hsv;subst hsv
   exact⟨_,_,run_app_nil0 (T:=tyN n) hel.hu hel.hi (by rw [hel.hs];rfl) rfl (k4 w rfl),ι,ILe.refl _,hs,hsv'⟩
  |sl id off len cap=>
   obtain⟨hle,h⟩:=og_some (show og (Nat.ble len cap) (K (.sl id off len cap) S nx)=some r from h)
   refine⟨_,_,_,h,fun R A ι w sv xv ty hG hs hsv hxv=>?_⟩
   obtain⟨p,c,cs,rfl,k1,k2,k3,k4⟩:=hsrc ι w xv hxv (hs.mr hG)
   have:cs=[]:=List.length_eq_zero_iff.1 (by simpa using k2)
   subst this
   have hsv':=hsv
   rw [VR] at hsv
   obtain⟨L,hL,rfl⟩:=hsv
   exact⟨_,_,run_app_room (T:=tyN n) hel.hu hel.hi (by rw [hel.hs];rfl) rfl (k4 w rfl) (by have:=ble_true hle;omega) (w':=w) rfl,ι,ILe.refl _,hs,hsv'⟩
  |os id j len k=>
   refine⟨_,_,_,h,fun R A ι w sv xv ty hG hs hsv hxv=>?_⟩
   obtain⟨p,c,cs,rfl,k1,k2,k3,k4⟩:=hsrc ι w xv hxv (hs.mr hG)
   have:cs=[]:=List.length_eq_zero_iff.1 (by simpa using k2)
   subst this
   have hsv':=hsv
   rw [VR] at hsv
   obtain⟨L,a,c',hL,rfl,h1,h2,h3⟩:=hsv
   refine⟨.slice (some a) len c',w,?_,ι,ILe.refl _,hs,hsv'⟩
   have hf:=k4 w rfl
   simp [Builtin.append_,run_und hel.hu,sizeOf,typeInfo,hel.hi,hel.hs,Builtin.lenOf,h1,hf,storeCells]
  |_=>cases h
 |succ k=>
  cases s with
  |ns=>
   obtain⟨hk,h⟩:=og_some (show og (Nat.ble k 1000000) (newK S nx (.c q (some n)) fun S nx'=>K (.os nx 0 (Nat.succ k) n) S nx')=some r from h)
   have hk':=ble_true hk
   obtain⟨S',hS,h⟩:=newK_some h
   refine⟨_,_,_,h,fun R A ι w sv xv ty hG hs hsv hxv=>?_⟩
   obtain⟨p,c,cs,rfl,k1,k2,k3,k4⟩:=hsrc ι w xv hxv (hs.mr hG)
   rw [VR] at hsv;subst hsv
   have:=grow_ok (ty:=ty) (ol:=[]) (olds:=[]) (len:=0) (base:=none) (cap:=0) hel (by simpa using hS) hs (VRs_nil.2 rfl) k1 (by simp) k2 rfl rfl (fun w' _=>rfl) k4 (by omega) (by omega)
   simpa using this
  |sl id off len cap=>
   cases hroom:Nat.ble (len+Nat.succ k) cap with
   |true=>
    have h':wrK S id (off+len*n) q (fun S=>fN (len+Nat.succ k) fun a=>K (.sl id off a cap) S nx)=some r:=by
     have h2:(match Nat.ble (len+Nat.succ k) cap with
      |true=>wrK S id (off+len*n) q fun S=>fN (len+Nat.succ k) fun a=>K (.sl id off a cap) S nx
      |false=>og (Nat.ble (len+Nat.succ k) 1000000)<|blkK S id fun l _=>subK l off (len*n) fun l=>appK l q fun l=>fN (len+Nat.succ k) fun a=>newK S nx (.c l (some n)) fun S nx'=>K (.os nx 0 a n) S nx')=some r:=h
     rw [hroom] at h2;exact h2
    obtain⟨S',h',key⟩:=wrK_some (C:=C) (nx:=nx) h'
    rw [fN_eq] at h'
    refine⟨_,_,_,h',fun R A ι w sv xv ty hG hs hsv hxv=>?_⟩
    obtain⟨p,c,cs,rfl,k1,k2,k3,k4⟩:=hsrc ι w xv hxv (hs.mr hG)
    rw [VR] at hsv
    obtain⟨L,hL,rfl⟩:=hsv
    obtain⟨w',e1,e2⟩:=key R A ι w L cs hs hL k1
    refine⟨_,_,run_app_room (T:=tyN n) hel.hu hel.hi (by rw [hel.hs];rfl) rfl (k4 w rfl) (ble_true hroom) (w':=w') (by rw [Nat.add_assoc];exact e1),ι,ILe.refl _,e2,?_⟩
    rw [VR];exact⟨L,hL,rfl⟩
   |false=>
    have h':og (Nat.ble (len+Nat.succ k) 1000000) (blkK S id fun l _=>subK l off (len*n) fun l=>appK l q fun l=>fN (len+Nat.succ k) fun a=>newK S nx (.c l (some n)) fun S nx'=>K (.os nx 0 a n) S nx')=some r:=by
     have h2:(match Nat.ble (len+Nat.succ k) cap with
      |true=>wrK S id (off+len*n) q fun S=>fN (len+Nat.succ k) fun a=>K (.sl id off a cap) S nx
      |false=>og (Nat.ble (len+Nat.succ k) 1000000)<|blkK S id fun l _=>subK l off (len*n) fun l=>appK l q fun l=>fN (len+Nat.succ k) fun a=>newK S nx (.c l (some n)) fun S nx'=>K (.os nx 0 a n) S nx')=some r:=h
     rw [hroom] at h2;exact h2
    obtain⟨hbig,h'⟩:=og_some h'
    have hbig':=ble_true hbig
    obtain⟨l,o,hid,h'⟩:=blkK_some h'
    obtain⟨hin,h'⟩:=subK_some h'
    rw [appK_eq,fN_eq] at h'
    obtain⟨S',hS,h'⟩:=newK_some h'
    refine⟨_,_,_,h',fun R A ι w sv xv ty hG hs hsv hxv=>?_⟩
    obtain⟨p,c,cs,rfl,k1,k2,k3,k4⟩:=hsrc ι w xv hxv (hs.mr hG)
    rw [VR] at hsv
    obtain⟨L,hL,rfl⟩:=hsv
    obtain⟨L',olds,b1,b2,b3,b4⟩:=(hs.mr hG).row hid hin
    rw [hL] at b1;cases b1
    have hlt:cap<len+(k+1):=by
     rcases Nat.lt_or_ge cap (len+(k+1)) with q|q
     ·exact q
     ·have:Nat.ble (len+Nat.succ k) cap=true:=by simpa using q
      rw [this] at hroom;cases hroom
    exact grow_ok (ty:=ty) hel hS hs b2 k1 b3 k2 rfl rfl (fun w' hw'=>(b4 w' hw').1) k4 hlt (by have:=hbig';omega)
  |os id j len k'=>
   obtain⟨hkn,h⟩:=og_some (show og (Nat.beq k' n) (blkK S id fun l o=>match o with
    |some m'=>og (Nat.beq m' n&&Nat.beq (lenK l) ((j+len)*n)&&Nat.ble (len+Nat.succ k) 1000000)<|dropK l (j*n) fun l=>appK l q fun l=>fN (len+Nat.succ k) fun a=>putB S id .x fun S=>newK S nx (.c l (some n)) fun S nx'=>K (.os nx 0 a n) S nx'
    |none=>none)=some r from h)
   have hkn':=beq_true hkn
   obtain⟨l,o,hid,h⟩:=blkK_some h
   cases o with
   |none=>cases h
   |some m'=>
    obtain⟨hcc,h⟩:=og_some (show og (Nat.beq m' n&&Nat.beq (lenK l) ((j+len)*n)&&Nat.ble (len+Nat.succ k) 1000000) (dropK l (j*n) fun l=>appK l q fun l=>fN (len+Nat.succ k) fun a=>putB S id .x fun S=>newK S nx (.c l (some n)) fun S nx'=>K (.os nx 0 a n) S nx')=some r from h)
    simp only [Bool.and_eq_true] at hcc
    obtain⟨⟨d1,d2⟩,d3⟩:=hcc
    have d1':=beq_true d1
    have d2':=beq_true d2
    have d3':=ble_true d3
    rw [lenK_eq] at d2'
    obtain⟨hdr,h⟩:=dropK_some _ _ _ h
    rw [appK_eq,fN_eq] at h
    obtain⟨S1,hS1,h⟩:=putB_some h
    obtain⟨S2,hS2,h⟩:=newK_some h
    refine⟨_,_,_,h,fun R A ι w sv xv ty hG hs hsv hxv=>?_⟩
    obtain⟨p,c,cs,rfl,k1,k2,k3,k4⟩:=hsrc ι w xv hxv (hs.mr hG)
    rw [VR] at hsv
    obtain⟨L,a,cap,hL,rfl,h1,h2,h3⟩:=hsv
    subst d1'
    subst hkn'
    obtain⟨hd1,hg1⟩:=hS1 hs.dep
    have hne:hg S id≠ .x:=by rw [hid];intro e;cases e
    have hin:j*k'+len*k'≤l.length:=by rw [d2',Nat.add_mul];exact Nat.le_refl _
    have hdl:(l.drop (j*k')).take (len*k')=l.drop (j*k'):=by
     apply List.take_of_length_le
     rw [List.length_drop,d2',Nat.add_mul];omega
    rcases Nat.lt_or_ge cap (len+(k+1)) with hlt|hge
    ·--a new array
     have hsk:SR R A ι S1 nx w:=hs.kill hd1 fun q=>by rw [hg1 q];split<;>simp
     obtain⟨L',olds,b1,b2,b3,b4⟩:=(hs.mr hG).row hid hin
     rw [hL] at b1;cases b1
     rw [hdl] at b2
     refine grow_ok (ty:=ty) hel hS2 hsk b2 k1 b3 k2 rfl rfl (fun w' hw'=>?_) k4 hlt (by omega)
     by_cases h0:len=0
     ·subst h0
      have:olds=[]:=List.length_eq_zero_iff.1 (by simpa using b3)
      subst this
      simp [Builtin.firstCells,loadCells,loadCellsFrom]
     ·rw [h3 (by omega)]
      exact(b4 w' hw').1
    ·--in place
     obtain⟨Lb,ob,e1,e2,e3⟩:=hs.blk hne
     rw [hL] at e1;cases e1
     rw [hid] at e3
     obtain⟨cc,ty',rfl,hv,ho⟩:=e3
     obtain⟨r1,r2⟩:=ho k' rfl
     have ha:=h3 (by omega)
     subst ha
     have hcs:cc=cc.toList.toArray:=by simp
     have hcap:L.base+j*k'+cap*k'=L.base+L.cap*k':=by rw [←h2,Nat.add_mul];omega
     have hmul:(len+(k+1))*k'≤cap*k':=Nat.mul_le_mul_right _ hge
     have hsplit:(len+(k+1))*k'=len*k'+cs.length:=by rw [k2,Nat.add_mul]
     have hsz:L.base+j*k'+len*k'+cs.length≤cc.toList.length:=by
      have:cc.toList.length=cc.size:=by simp
      omega
     have hone: ∀ v∈cs,v.oneCell'=true:=by
      intro v hv'
      obtain⟨ii,hi2⟩:=List.getElem?_of_mem hv'
      have hlt:ii<q.length:=by rw [←VRs.len k1];exact(List.getElem?_eq_some_iff.1 hi2).1
      obtain⟨v',q1,q2⟩:=k1.get (List.getElem?_eq_getElem hlt)
      rw [hi2] at q1;cases q1
      exact(one_cell (allK_eq _ hall _ (List.getElem_mem hlt)) q2).1
     obtain⟨w',m1,m2,m3,m4,m5⟩:=run_storeCells (P:=C.P) cs cc.toList (L.base+j*k'+len*k') 0 w (by rw [←hcs];exact e2) (by simpa using hsz) hone
     obtain⟨hd2,hg2⟩:=hS2 hd1
     have hle:=iup_le (ι:=ι) (k:=nx) (L:=⟨L.blk,L.base+j*k',cap⟩) (hs.fresh nx (Nat.le_refl _))
     have hor:OR (iup ι nx ⟨L.blk,L.base+j*k',cap⟩) ⟨L.blk,L.base+j*k',cap⟩ (.c (l.drop (j*k')++q) (some k')) (.cells (over cc.toList (L.base+j*k'+len*k'+0) cs).toArray ty' (0,0)):=by
      have hlq:(l.drop (j*k')++q).length=len*k'+cs.length:=by
       rw [List.length_append,List.length_drop,d2',Nat.add_mul,VRs.len k1];omega
      refine⟨_,ty',rfl,?_,fun kk hkk=>?_⟩
      ·rw [hlq,Nat.add_zero,List.toList_toArray]
       show VRs _ _ (((over cc.toList (L.base+j*k'+len*k') cs).drop (L.base+j*k')).take (len*k'+cs.length))
       rw [over_drop (α:=Nat) hsz]
       have hov:(over (cc.toList.drop (L.base+j*k')) (len*k') cs).take (len*k'+cs.length)=(cc.toList.drop (L.base+j*k')).take (len*k')++cs:=by
        unfold over
        rw [List.take_left']
        rw [List.length_append,List.length_take,List.length_drop];omega
       rw [hov]
       refine VRs.mono hle _ _ (VRs.append ?_ k1)
       have:=(hv.drop (j*k')).take (len*k')
       rw [hdl,List.drop_take,List.drop_drop,List.take_take,d2',Nat.add_mul,Nat.min_eq_left (by omega)] at this
       exact this
      ·cases hkk
       refine⟨?_,by
        show _≤cap*k'
        rw [hlq];omega⟩
       simp only [List.size_toArray]
       rw [over_len (by simpa using hsz)]
       have:cc.toList.length=cc.size:=by simp
       show L.base+j*k'+cap*k'≤_
       omega
     have hmove:=hs.move (L':=⟨L.blk,L.base+j*k',cap⟩) hne hL m2 m3 m4 m5 hd2 rfl (fun q=>by
      rw [hg2 q];split
      ·rfl
      ·exact hg1 q) hor
     refine⟨_,_,run_app_room (T:=tyN k') hel.hu hel.hi (by rw [hel.hs];rfl) rfl (k4 w rfl) hge (w':=w') m1,_,hle,hmove,?_⟩
     rw [VR]
     exact⟨_,_,cap,iup_same,rfl,hge,by simp,fun _=>by simp⟩
  |_=>cases h
end ops
end AI
end GV
end Go.Proofs.YtkkcidhcfkmbjaaGreatDoor

namespace Go.Proofs.YtkkcidhcfkmbjaaGreatDoor
namespace GV
namespace AI
section ops
variable {C : Cf} {t : TB} {S : HP} {nx : Nat} {β : Type} {r : β} {d : Option Tmp} {ty : TypeId} {pos : String} {af : Array Edge} {g : Option (Nat × Bool)} {ι : Io} {ρ : Operand → Value} {R : RH} {A : List Frag}
theorem sl_any{x:AV}{q:Nat×Nat×Nat}{v:Value}(h:slAt x=some q)(hv:VR ι x v): ∃ a c,v= .slice (some a) q.2.2 c:=by
 obtain⟨id,off,len⟩:=q
 obtain⟨L,a,c,_,e,_⟩:=sl_at h hv
 exact⟨a,c,e⟩
theorem copA_some{ts:TypeId}{x y:AV}{K:XK β}(h:copA C S nx ts x y K=some r): ∃ v S' nx',K v S' nx'=some r∧ ∀ R A ι w dv xv ty (as_:Array TypeId),as_[0]? =some ts→GR C R→SR R A ι S nx w→VR ι x dv→VR ι y xv→
 ∃ v' w',(Builtin.copy_ as_ ty #[dv,xv]).run C.P w= .ok v' w'∧Fin R A ι v S' nx' v' w':=by
 obtain⟨e,he,h⟩:=ob_some h
 obtain⟨n,hn,h⟩:=ob_some h
 have hu:=elT_some he
 split at h
 ·--nothing is copied
  have h2:K (.i .i64 (.ofNat 0)) S nx=some r∧(x= .ns∨ ∃ q,slAt x=some q):=by
   split at h
   ·exact⟨h,.inl rfl⟩
   ·exact⟨h,.inr ⟨_,rfl⟩⟩
   ·exact⟨h,.inr ⟨_,rfl⟩⟩
   ·cases h
  refine⟨_,_,_,h2.1,fun R A ι w dv xv ty as_ ha hG hs hx hy=>?_⟩
  rw [VR] at hy;subst hy
  have hd: ∃ p m c,dv= .slice p m c:=by
   rcases h2.2 with rfl|⟨q,hq⟩
   ·rw [VR] at hx;exact⟨none,0,0,hx⟩
   ·obtain⟨a,c,e⟩:=sl_any hq hx;exact⟨_,_,_,e⟩
  obtain⟨p,m,c,rfl⟩:=hd
  refine⟨goInt 0,w,?_,ι,ILe.refl _,hs,by rw [VR];rfl⟩
  cases p<;>simp [Builtin.copy_,ha,run_und hu,Builtin.lenOf,(szT_some hn).1,Builtin.firstCells,storeCells]
 ·obtain⟨q,hq,h⟩:=ob_some h
  refine⟨_,_,_,h,fun R A ι w dv xv ty as_ ha hG hs hx hy=>?_⟩
  rw [VR] at hx;subst hx
  obtain⟨a,c,rfl⟩:=sl_any hq hy
  refine⟨goInt 0,w,?_,ι,ILe.refl _,hs,by rw [VR];rfl⟩
  simp [Builtin.copy_,ha,run_und hu,Builtin.lenOf,(szT_some hn).1,Builtin.firstCells,loadCells,loadCellsFrom]
 ·obtain⟨p,hp,h⟩:=ob_some h
  obtain⟨q,hq,h⟩:=ob_some h
  obtain⟨id1,o1,n1⟩:=p
  obtain⟨id2,o2,n2⟩:=q
  rw [fN_eq] at h
  obtain⟨l,o,hid,h⟩:=blkK_some h
  obtain⟨hin,h⟩:=subK_some h
  obtain⟨S',h,key⟩:=wrK_some (C:=C) (nx:=nx) h
  refine⟨_,_,_,h,fun R A ι w dv xv ty as_ ha hG hs hx hy=>?_⟩
  obtain⟨L1,a1,c1,hL1,rfl,k1⟩:=sl_at hp hx
  obtain⟨L2,a2,c2,hL2,rfl,k2⟩:=sl_at hq hy
  obtain⟨L',cs,b1,b2,b3,b4⟩:=(hs.mr hG).row hid hin
  rw [hL2] at b1;cases b1
  obtain⟨w',e1,e2⟩:=key R A ι w L1 cs hs hL1 b2
  refine⟨goInt (Nat.min n2 n1:Nat),w',?_,ι,ILe.refl _,e2,by rw [VR];rfl⟩
  have hf:(Builtin.firstCells n (Nat.min n2 n1) (.slice (some a2) n2 c2)).run C.P w= .ok cs.toArray w:=by
   by_cases h0:Nat.min n2 n1=0
   ·rw [h0]
    have:cs=[]:=List.length_eq_zero_iff.1 (by rw [b3];show Nat.min n2 n1*n=0;rw [h0];simp)
    subst this
    simp [Builtin.firstCells,loadCells,loadCellsFrom]
   ·rw [k2 (fun e=>h0 (by rw [e];simp))]
    exact(b4 w rfl).1
  have hst:(storeCells a1 cs).run C.P w= .ok () w':=by
   by_cases h0:n1=0
   ·have:cs=[]:=List.length_eq_zero_iff.1 (by rw [b3];show Nat.min n2 n1*n=0;rw [h0];simp)
    subst this
    exact e1
   ·rw [k1 h0];exact e1
  simp only [Builtin.copy_,List.getElem?_toArray,List.getElem?_cons_zero,List.getElem?_cons_succ,ha,Sem.run_bind,run_und hu,Result.andThen_ok,Builtin.lenOf,Sem.run_pure,(szT_some hn).1,hf,List.toList_toArray,hst]
theorem x_blt{b:Builtin}{c:Call}{h:H β}{K:XK β}(hc:c.callee= .builtin b)(hk:bltX b c C h t S nx K=some r): ∃ x S' nx',XS C ⟨d,.call c,ty,pos,af,g⟩ t S nx x S' nx'∧K x S' nx'=some r:=by
 unfold bltX at hk
 rw [evsK_eq] at hk
 have fin: ∀ {s x:AV} {v:AV} {S':HP} {nx':Nat},c.args.toList.map (evA t)=[s,x]→K v S' nx'=some r→(∀ R A ι w sv xv,GR C R→SR R A ι S nx w→VR ι s sv→VR ι x xv→
  ∃ v' w',(builtin b c.argTypes ty (c.args.map fun| .const _=>true|_=>false) #[sv,xv]).run C.P w= .ok (.value v') w'∧Fin R A ι v S' nx' v' w')→ ∃ x S' nx',XS C ⟨d,.call c,ty,pos,af,g⟩ t S nx x S' nx'∧K x S' nx'=some r:=by
  intro s x v S' nx' e hK key
  refine⟨v,S',nx',fun R A ι w ρ hG ho hs=>?_,hK⟩
  have hr:=args_rel hc ho
  rw [e] at hr
  obtain⟨sv,ws,e3,hv,hws⟩:=VRs_cons.1 hr
  obtain⟨xv,ws2,e4,hv2,hws2⟩:=VRs_cons.1 hws
  rw [VRs_nil.1 hws2] at e4
  subst e4
  obtain⟨v',w',k1,k2⟩:=key R A ι w sv xv hG hs hv hv2
  have hrun:(execOp ρ (⟨d,.call c,ty,pos,af,g⟩:Oper)).run C.P w= .ok (.value v') w':=by
   obtain⟨cal,args,ats⟩:=c
   simp only at hc
   subst hc
   simp only [execOp,resolve,Sem.run_bind,Sem.run_pure,Result.andThen_ok,invoke]
   have e5:args.map ρ= #[sv,xv]:=by rw [mapA_toList,e3]
   rw [e5]
   exact k1
  rw [hrun]
  exact k2
 split at hk
 ·rename_i s x ts xs e1 e2
  obtain⟨hx,v,S',nx',hK,key⟩:=appA_some hk
  subst hx
  refine fin e1 hK fun R A ι w sv xv hG hs h1 h2=>?_
  obtain⟨v',w',k1,k2⟩:=key R A ι w sv xv ty hG hs h1 h2
  refine⟨v',w',?_,k2⟩
  have e3:c.argTypes= #[xs,xs]:=by apply Array.ext';exact e2
  rw [e3]
  simp only [builtin,Sem.run_bind,k1,Result.andThen_ok];rfl
 ·rename_i dd x ts tl e1 e2
  obtain⟨v,S',nx',hK,key⟩:=copA_some hk
  refine fin e1 hK fun R A ι w sv xv hG hs h1 h2=>?_
  obtain⟨v',w',k1,k2⟩:=key R A ι w sv xv ty c.argTypes (by rw [←Array.getElem?_toList,e2];rfl) hG hs h1 h2
  refine⟨v',w',?_,k2⟩
  simp only [builtin,Sem.run_bind,k1,Result.andThen_ok];rfl
 ·cases hk
end ops
end AI
end GV
end Go.Proofs.YtkkcidhcfkmbjaaGreatDoor

namespace Go.Proofs.YtkkcidhcfkmbjaaGreatDoor
namespace GV
namespace AI
/-! ### Frames-/
def DR(ι:Io):AD→Deferred→Prop
 | .mk id,d=> ∃ L,ι id=some L∧d.target= .collected L.blk
 | .cl f cp as_,d=> ∃ c a,d.target= .fn (.func f) c∧d.args=a∧VRs ι cp c.toList∧VRs ι as_ a.toList
def DRs(ι:Io):List AD→List Deferred→Prop
 | [],ds=>ds=[]
 |x::l,ds=> ∃ d r,ds=d::r∧DR ι x d∧DRs ι l r
theorem DR.mono{ι ι':Io}(h:ILe ι ι'){x:AD}{d:Deferred}(k:DR ι x d):DR ι' x d:=by
 cases x with
 |mk id=>obtain⟨L,a,b⟩:=k;exact⟨L,h _ _ a,b⟩
 |cl f cp as_=>obtain⟨c,a,e,e2,x,y⟩:=k;exact⟨c,a,e,e2,VRs.mono h _ _ x,VRs.mono h _ _ y⟩
theorem DRs.mono{ι ι':Io}(h:ILe ι ι'): ∀ (l:List AD) (ds:List Deferred),DRs ι l ds→DRs ι' l ds
 | [],ds,k=>k
 |x::l,ds,⟨d,r,e,a,b⟩=>⟨d,r,e,a.mono h,DRs.mono h l r b⟩
structure ActR (ι:Io) (n:Nat) (t:TB) (df:List AD) (a:Act):Prop where
 tr:TR ι n t a.tmps
 df:DRs ι df a.defers
theorem ActR.mono{ι ι':Io}(h:ILe ι ι'){n:Nat}{t:TB}{df:List AD}{a:Act}(k:ActR ι n t df a):ActR ι' n t df a:=⟨k.tr.mono h,DRs.mono h _ _ k.df⟩
def RhoR(ι:Io):Option Nat→Option Nat→Prop
 |none,r=>r=none
 |some id,r=> ∃ L,ι id=some L∧r=some L.blk
theorem RhoR.mono{ι ι':Io}(h:ILe ι ι'){ρ r:Option Nat}(k:RhoR ι ρ r):RhoR ι' ρ r:=by
 cases ρ with
 |none=>exact k
 |some id=>obtain⟨L,a,b⟩:=k;exact⟨L,h _ _ a,b⟩
theorem ActR.eval{ι:Io}{n:Nat}{t:TB}{df:List AD}{a:Act}(h:ActR ι n t df a)(x:Operand):VR ι (evA t x) (a.eval x):=by
 cases x with
 |tmp k=>exact h.tr.get k
 |const v=>exact ofV_ok v
 |global g=>show VR ι (.gp g 0) _;rw [VR];rfl
 |func f=>show VR ι (.fn f [] []) _;rw [VR];exact⟨[],[],rfl,VRs_nil.2 rfl,VRs_nil.2 rfl⟩
section put
variable {β : Type} {r : β} {n : Nat} {t : TB} {df : List AD} {ι : Io}
theorem putK_some{d:Option Nat}{v:AV}{K:TB→Option β}(h:putK n t d v K=some r): ∃ t',K t'=some r∧ ∀ ι a v',ActR ι n t df a→VR ι v v'→ActR ι n t' df (a.put d v'):=by
 cases d with
 |none=>exact⟨t,h,fun ι a v' ha _=>ha⟩
 |some k=>
  obtain⟨h1,h⟩:=og_some (show og (Nat.blt k n) (setK 4 t k v K)=some r from h)
  have hlt:=blt_true h1
  obtain⟨t',e,key⟩:=setK_app (β:=Option β) 4 t k v
  rw [e] at h
  refine⟨t',h,fun ι a v' ha hv=>⟨?_,ha.df⟩⟩
  have hk:k<4^4:=by have:=ha.tr.le;omega
  obtain⟨hd,hg⟩:=key ha.tr.dep hk
  refine⟨by simp [Act.put,ha.tr.size],ha.tr.le,hd,fun j=>?_⟩
  rw [hg j]
  show VR ι _ ((a.tmps.setIfInBounds k v').getD j undef)
  by_cases e:j=k
  ·subst e
   rw [if_pos rfl]
   have:(a.tmps.setIfInBounds j v').getD j undef=v':=by
    simp only [Array.getD_eq_getD_getElem?,Array.getElem?_setIfInBounds]
    simp [ha.tr.size,hlt]
   rw [this];exact hv
  ·rw [if_neg e]
   have:(a.tmps.setIfInBounds k v').getD j undef=a.tmps.getD j undef:=by
    simp only [Array.getD_eq_getD_getElem?,Array.getElem?_setIfInBounds]
    rw [if_neg (fun q=>e q.symm)]
   rw [this];exact ha.tr.get j
theorem mkT_some(l:List AV): ∀ (i:Nat) (t:TB) (K:TB→Option β),mkT l i t K=some r→ ∃ t',K t'=some r∧ ∀ ι (vs pre:List Value) (n:Nat),VRs ι l vs→pre.length=i→i+l.length≤n→n≤256→dpq t≤4→(∀ k,VR ι (gt t k (.tu [])) (pre.getD k undef))→
 dpq t'≤4∧ ∀ k,VR ι (gt t' k (.tu [])) ((pre++vs).getD k undef):=by
 induction l with
 |nil=>
  intro i t K h
  refine⟨t,h,fun ι vs pre n hv hp hn hn2 hd hg=>?_⟩
  rw [VRs_nil.1 hv,List.append_nil]
  exact⟨hd,hg⟩
 |cons v l ih=>
  intro i t K h
  have h':setK 4 t i v (fun t=>mkT l (Nat.succ i) t K)=some r:=h
  obtain⟨t1,e,key⟩:=setK_app (β:=Option β) 4 t i v
  rw [e] at h'
  obtain⟨t',hK,k2⟩:=ih _ _ _ h'
  refine⟨t',hK,fun ι vs pre n hv hp hn hn2 hd hg=>?_⟩
  obtain⟨v',ws,rfl,hv1,hws⟩:=VRs_cons.1 hv
  simp only [List.length_cons] at hn
  obtain⟨hd1,hg1⟩:=key hd (by omega)
  have:=k2 ι ws (pre++[v']) n hws (by simp [hp]) (by omega) hn2 hd1 fun k=>by
   rw [hg1 k]
   by_cases e:k=i
   ·subst e
    rw [if_pos rfl]
    have:(pre++[v']).getD k undef=v':=by rw [←hp];simp
    rw [this];exact hv1
   ·rw [if_neg e]
    have:(pre++[v']).getD k undef=pre.getD k undef:=by
     simp only [List.getD_eq_getElem?_getD,List.getElem?_append]
     split
     ·rfl
     ·rename_i hk
      rw [List.getElem?_eq_none (l:=pre) (by omega),List.getElem?_eq_none (by simp;omega)]
    rw [this];exact hg k
  simpa using this
end put
/-! ### Code-/
def exO:Ex→Exit
 | .nrm=> .normal
 | .ex j=> .exit j
 | .ret=> .ret
def LoopS(F:Fence)(n:Nat)(P:Program)(c:Code)(Q:Exit→Act→World→Prop)(a:Act)(w:World):Prop:=
 ∀ (b:Frame) (k:List Item) (cs:List Frame),b.roundOf=F.round→F.fn b.fn→F.room (cs.length+1+n)→
  ∃ e a' w',Q e a' w'∧ArrivesIn (Machine.fenced P F) P (lone (b.atR a (.code c:: .inLoop c::k)) cs w) b k cs e a' w'
def isLoop:Code→Option Code
 | .loop c=>some c
 |_=>none
def wpC(F:Fence)(n:Nat)(P:Program)(c:Code)(Q:Exit→Act→World→Prop)(a:Act)(w:World):Prop:=
 c.wpIn F n P Q a w∧ ∀ c0,isLoop c=some c0→LoopS F n P c0 Q a w
section rules
variable {F : Fence} {n : Nat} {P : Program} {Q Q' : Exit → Act → World → Prop} {a : Act} {w : World} {c : Code}
theorem wpC_of(h:c.wpIn F n P Q a w)(hl:isLoop c=none):wpC F n P c Q a w:=⟨h,fun c0 e=>by rw [hl] at e;cases e⟩
theorem LoopS.mono(h:LoopS F n P c Q a w)(hq: ∀ e a w,Q e a w→Q' e a w):LoopS F n P c Q' a w:=
 fun b k cs h1 h2 h3=>let⟨e,a',w',q,r⟩:=h b k cs h1 h2 h3;⟨e,a',w',hq _ _ _ q,r⟩
theorem loopS_of(h:c.wpIn F n P (Exit.then (fun a' w'=>LoopS F n P c Q a' w') Q) a w):LoopS F n P c Q a w:=by
 intro b k cs hro hb hr
 obtain⟨e,a₁,w₁,hq,harr⟩:=h b (.inLoop c::k) cs hro hb hr
 cases e with
 |normal=>
  obtain⟨e₂,a₂,w₂,hq₂,harr₂⟩:=hq b k cs hro hb hr
  refine⟨e₂,a₂,w₂,hq₂,.of_steps ?_ harr₂⟩
  have h1:StepsIn (Machine.fenced P F) P (lone (b.atR a (.code c:: .inLoop c::k)) cs w) (lone (b.atR a₁ (.inLoop c::k)) cs w₁):=harr
  exact StepsIn.trans h1 (.one (fenced_calm hb hr rfl) stepR_inLoop)
 |exit id=>exact⟨_,a₁,w₁,hq,.pass (x:= .inLoop c) rfl (fun _ _=> .inl (by simp)) harr⟩
 |goto l=>exact⟨_,a₁,w₁,hq,.pass (x:= .inLoop c) rfl (fun _ _=> .inl (by simp)) harr⟩
 |ret=>exact⟨_,a₁,w₁,hq,.pass (x:= .inLoop c) rfl (fun _ _=> .inl (by simp)) harr⟩
 |panic ch=>exact⟨_,a₁,w₁,hq,.pass (x:= .inLoop c) rfl (fun _ _=> .inl (by simp)) harr⟩
 |outgrown=>exact⟨_,a₁,w₁,hq,.pass (x:= .inLoop c) rfl (fun _ _=> .inl (by simp)) harr⟩
theorem wpC_loop(h:c.wpIn F n P (Exit.then (fun a' w'=>LoopS F n P c Q a' w') Q) a w):wpC F n P (.loop c) Q a w:=by
 have hl:=loopS_of h
 refine⟨fun b k cs hro hb hr=>?_,fun c0 e=>by cases e;exact hl⟩
 obtain⟨e,a',w',hq,harr⟩:=hl b k cs hro hb hr
 exact⟨e,a',w',hq,.of_steps (.one (fenced_calm hb hr rfl) stepR_loop) harr⟩
theorem stepR_scope{b:Frame}{k:List Item}{cs:List Frame}:step P (lone (b.atR a (.code (.scope c)::k)) cs w)= .next (lone (b.atR a (.code c:: .inScope c::k)) cs w):=
 step_lone_go (by simp [stepG,stepG.exec,Frame.atR])
theorem stepR_inScope{b:Frame}{k:List Item}{cs:List Frame}:step P (lone (b.atR a (.inScope c::k)) cs w)= .next (lone (b.atR a k) cs w):=
 step_lone_go (by simp [stepG,stepG.exec,Frame.atR])
theorem exitTo_scope(id:Nat)(k:List Item):exitTo id (.inScope c::k)=exitTo id k:=by simp [exitTo]
theorem wpIn_scope(h:c.wpIn F n P Q a w)(hq: ∀ l a w,¬Q (.goto l) a w):(Code.scope c).wpIn F n P Q a w:=by
 intro b k cs hro hb hr
 have h0:(lone (b.atR a (.code (.scope c)::k)) cs w).fenced P F:=fenced_calm hb hr rfl
 obtain⟨e,a₁,w₁,hq1,harr⟩:=h b (.inScope c::k) cs hro hb hr
 cases e with
 |normal=>exact⟨.normal,a₁,w₁,hq1,.head h0 stepR_scope (StepsIn.trans harr (.one (fenced_calm hb hr rfl) stepR_inScope))⟩
 |exit id=>
  exact⟨.exit id,a₁,w₁,hq1,fun k' hk=> .head h0 stepR_scope (harr.1 k' (by rw [exitTo_scope];exact hk)),
   fun hr' hk=>let⟨k₁,h1,h2⟩:=harr.2 hr' (by rw [exitTo_scope];exact hk);⟨k₁,h1,.head h0 stepR_scope h2⟩⟩
 |goto l=>exact absurd hq1 (hq _ _ _)
 |ret=>exact⟨_,a₁,w₁,hq1,.of_steps (.one h0 stepR_scope) harr⟩
 |panic ch=>exact⟨_,a₁,w₁,hq1,.of_steps (.one h0 stepR_scope) harr⟩
 |outgrown=>exact⟨_,a₁,w₁,hq1,.of_steps (.one h0 stepR_scope) harr⟩
end rules
def PostC(R:RH)(A:List Frag)(ι:Io)(n:Nat)(e:Ex)(t:TB)(df:List AD)(S:HP)(nx:Nat):Exit→Act→World→Prop:=
 fun e' a' w'=>e'=exO e∧ ∃ ι',ILe ι ι'∧ActR ι' n t df a'∧SR R A ι' S nx w'
def SndC(C:Cf)(c:Code)(n:Nat)(ρ:Option Nat)(t:TB)(df:List AD)(S:HP)(nx:Nat)(e:Ex)(t':TB)(df':List AD)(S':HP)(nx':Nat):Prop:=
 ∀ R A ι w a ρc,GR C R→ActR ι n t df a→RhoR ι ρ ρc→SR R A ι S nx w→wpC (wide ρc) 0 C.P c (PostC R A ι n e t' df' S' nx') a w
def HOk(C:Cf){β:Type}(h:H β):Prop:= ∀ c n ρ t df S nx K r,h c n ρ t df S nx K=some r→ ∃ e t' df' S' nx',SndC C c n ρ t df S nx e t' df' S' nx'∧K e t' df' S' nx'=some r
theorem PostC.mono{R:RH}{A:List Frag}{ι ι':Io}{n:Nat}{e:Ex}{t:TB}{df:List AD}{S:HP}{nx:Nat}{e':Exit}{a:Act}{w:World}(hle:ILe ι ι')(h:PostC R A ι' n e t df S nx e' a w):PostC R A ι n e t df S nx e' a w:=
 let⟨x,ι'',b,c,d⟩:=h;⟨x,ι'',hle.trans b,c,d⟩
end AI
end GV
end Go.Proofs.YtkkcidhcfkmbjaaGreatDoor

namespace Go.Proofs.YtkkcidhcfkmbjaaGreatDoor
namespace GV
namespace AI
def CalS(C:Cf)(f:Nat)(as_:List AV)(S:HP)(nx:Nat)(v:AV)(S':HP)(nx':Nat):Prop:=
 ∀ R A ι w (vs:List Value),GR C R→VRs ι as_ vs→SR R A ι S nx w→Calls C.P f vs.toArray w fun e w'=> ∃ v',e= .returned v'∧Fin R A ι v S' nx' v' w'
structure Blw (w w':World):Prop where
 os:w'.os=w.os
 output:w'.output=w.output
 size:w.heap.size≤w'.heap.size
 block: ∀ k,k<w.heap.size→w'.heap[k]? =w.heap[k]?
structure Cf.Ok (C:Cf):Prop where
 mixed:C.P.follows .mixedOrders=true
 nog : ∀ (f : Nat) (fn : Func), C.P.funcs[f]? = some fn → fn.name ≠ "runtime.NumGoroutine"
 ext: ∀ f w,(f,w)∈C.ext→ ∀ (β:Type) (as_:List AV) (S:HP) (nx:Nat) (K:AV→Option β) (r:β),extK w as_ S K=some r→ ∃ v,K v=some r∧
  ∀ R A ι w (vs:List Value),GR C R→VRs ι as_ vs→SR R A ι S nx w→Out C.P (Fin R A ι v S nx) ((callFunc f vs.toArray).run C.P w)
 quiet: ∀ f∈C.quiet,(∃ fn,C.P.funcs[f]? =some fn∧fn.body.isSome=true)∧ ∀ args w,CallsDIn Fence.wide 0 C.P f args .returning w fun e u w'=>(∃ v,e= .returned v)∧u= .returning∧Blw w w'
theorem SR.below{R:RH}{A:List Frag}{ι:Io}{S:HP}{nx:Nat}{w w':World}(h:SR R A ι S nx w)(hb:Blw w w'):SR R A ι S nx w':=by
 obtain⟨f,hh,hr⟩:=h.ex
 have keep: ∀ k o,w.heap[k]? =some o→w'.heap[k]? =some o:=fun k o hk=>by
  rw [hb.block k (Array.getElem?_eq_some_iff.1 hk).1];exact hk
 refine⟨h.dep,⟨f,⟨fun k o hk=>keep _ _ (hh.ro k o hk),fun g hg k o hk=>⟨keep _ _ (hh.own g hg k o hk).1,(hh.own g hg k o hk).2⟩,hh.sep,⟨hb.os.trans hh.os.1,fun _ _ _ _=>trivial⟩,hb.output.trans hh.out⟩,hr⟩,h.fresh,fun id L hL=>Nat.lt_of_lt_of_le (h.low id L hL) hb.size⟩
section calls
variable {C : Cf} {β : Type} {r : β} {h : H β} {S : HP} {nx : Nat}
theorem run_callFunc{f:Nat}{fn:Func}{c:Code}{vs:Array Value}{w:World}(hC:C.Ok)(hf:C.P.funcs[f]? =some fn)(hb:fn.body=some c):(callFunc f vs).run C.P w= .ok (.enter f vs) w:=by
 have h1:=hC.nog f fn hf
 simp [callFunc,hf,h1,hb]
/-! ### What a function hands back-/
def resOne(tmps:Array Value):ResultVar→Sem Value
 | .tmp t=>pure (tmps.getD t undef)
 | .cell a t=>do loadVar t (←asAddr (tmps.getD a undef))
theorem results_eq(fn:Func)(tmps:Array Value):results fn tmps=(do let vs←fn.results.mapM (resOne tmps);pure (if h:vs.size=1 then vs[0] else .tuple vs)):=rfl
theorem resK_some{t:TB}(l:List ResultVar): ∀ (K:List AV→Option β),resK C t S l K=some r→ ∃ q,K q=some r∧ ∀ (ι:Io) (w:World) (n:Nat) (tmps:Array Value),TR ι n t tmps→MR C ι (hg S) w→
 ∃ vs,(l.mapM (resOne tmps)).run C.P w= .ok vs w∧VRs ι q vs:=by
 induction l with
 |nil=>intro K h;exact⟨[],h,fun ι w n tmps _ _=>⟨[],rfl,VRs_nil.2 rfl⟩⟩
 |cons x l ih=>
  intro K h
  cases x with
  |tmp k=>
   have h':t.getK k (.tu []) (fun v=>resK C t S l fun l=>K (v::l))=some r:=h
   rw [getK_eq] at h'
   obtain⟨q,hq,key⟩:=ih _ h'
   refine⟨_,hq,fun ι w n tmps ht hm=>?_⟩
   obtain⟨vs,h1,h2⟩:=key ι w n tmps ht hm
   refine⟨tmps.getD k undef::vs,?_,VRs_cons.2 ⟨_,_,rfl,ht.get k,h2⟩⟩
   simp only [List.mapM_cons,Sem.run_bind,resOne,Sem.run_pure,Result.andThen_ok,h1]
  |cell a ty=>
   have h':t.getK a (.tu []) (fun a=>asP a fun id off=>ldK C S ty (.p id off) fun v=>resK C t S l fun l=>K (v::l))=some r:=h
   rw [getK_eq] at h'
   obtain⟨id,off,ha,h'⟩:=asP_some h'
   obtain⟨x,h',hl⟩:=ldK_some h'
   obtain⟨q,hq,key⟩:=ih _ h'
   refine⟨_,hq,fun ι w n tmps ht hm=>?_⟩
   obtain⟨vs,h1,h2⟩:=key ι w n tmps ht hm
   have hx:=ht.get a
   rw [ha] at hx
   obtain⟨ad,v',e,hr,hv⟩:=hl ι w _ hx hm
   refine⟨v'::vs,?_,VRs_cons.2 ⟨_,_,rfl,hv,h2⟩⟩
   simp only [List.mapM_cons,Sem.run_bind,resOne,e,asAddr,Sem.run_pure,Result.andThen_ok,hr,h1]
/-! ### Deferred calls-/
theorem quietK_some(hC:C.Ok): ∀ (df:List AD) (S:HP) (K:HP→Option β),quietK C df S K=some r→ ∃ S2,K S2=some r∧ ∀ (fn:Func) (tmps:Array Value) (Q:Ending→World→Prop) R A ι nx w ds,DRs ι df ds→SR R A ι S nx w→
 (∀ w',SR R A ι S2 nx w'→ ∃ v,(results fn tmps).run C.P w'= .ok v w'∧Q (.returned v) w')→LeavesInM Fence.wide 0 C.P fn tmps Q ds .returning w
 | [],S,K,h=>⟨S,h,fun fn tmps Q R A ι nx w ds hd hs hq=>by rw [show ds=[] from hd];exact hq w hs⟩
 | .mk id::l,S,K,h=>by
  have h':S.getK id .x (fun b=>match b with
   | .df=>putB S id .x fun S=>quietK C l S K
   |_=>none)=some r:=h
  rw [getK_eq] at h'
  cases hid:gt S id .x with
  |df=>
   rw [hid] at h'
   obtain⟨S1,hU,h'⟩:=putB_some (show putB S id .x (fun S=>quietK C l S K)=some r from h')
   obtain⟨S2,hK,key⟩:=quietK_some hC l S1 K h'
   refine⟨S2,hK,fun fn tmps Q R A ι nx w ds hd hs hq=>?_⟩
   obtain⟨d,ds',rfl,⟨L,hL,ht⟩,hr⟩:=hd
   have hid':hg S id= .df:=hid
   have hne:hg S id≠ .x:=by rw [hid'];intro e;cases e
   obtain⟨L',o,a1,a2,a3⟩:=hs.blk hne
   rw [hL] at a1;cases a1
   rw [hid'] at a3
   have a3':o= .deferred (some []):=a3
   subst a3'
   obtain⟨hd1,hg1⟩:=hU hs.dep
   refine⟨by simp,.inl ⟨L.blk,_,ht,run_takeDeferred a2,key fn tmps Q R A ι nx _ ds' hr ?_ hq⟩⟩
   have hlt:=(Array.getElem?_eq_some_iff.1 a2).1
   exact hs.turn hne hL (World.putObj_heap_same hlt) (fun k hk=>World.putObj_heap_other hk) rfl rfl hd1 (ILe.refl _)
    (fun j hj=> .inl (by
     have:=hg1 j
     by_cases e:j=id
     ·rw [if_pos e] at this;exact absurd this hj
     ·rw [if_neg e] at this;exact⟨e,this⟩))
    (fun j j' hj hj' ⟨L1,b1,b2⟩ ⟨L2,c1,c2⟩=>by
     have q1:=hg1 j
     have q2:=hg1 j'
     by_cases e:j=id
     ·rw [if_pos e] at q1;exact absurd q1 hj
     ·by_cases e':j'=id
      ·rw [if_pos e'] at q2;exact absurd q2 hj'
      ·rw [if_neg e] at q1
       rw [if_neg e'] at q2
       rw [q1] at hj;rw [q2] at hj'
       obtain⟨f,_,hrel⟩:=hs.ex
       exact hrel.inj j j' _ _ hj hj' b1 c1 (b2.trans c2.symm))
    hs.fresh (fun j L' b1 b2=>by rw [b1] at b2;cases b2)
  |_=>rw [hid] at h';cases h'
 | .cl f cp as_::l,S,K,h=>by
  obtain⟨h1,h'⟩:=og_some (show og (C.quiet.any (Nat.beq f)) (quietK C l S K)=some r from h)
  obtain⟨S2,hK,key⟩:=quietK_some hC l S K h'
  refine⟨S2,hK,fun fn tmps Q R A ι nx w ds hd hs hq=>?_⟩
  obtain⟨d,ds',rfl,⟨c,a,ht,ha,_,_⟩,hr⟩:=hd
  obtain⟨f',hm,hf'⟩:=List.any_eq_true.1 h1
  have:=Nat.eq_of_beq_eq_true hf'
  subst this
  obtain⟨⟨fn',hfn,hbody⟩,hcd⟩:=hC.quiet f hm
  obtain⟨cb,hcb⟩:=Option.isSome_iff_exists.1 hbody
  refine⟨by simp,.inr ⟨fun h=>(by cases h),.func f,c,f,d.args++c,ht,?_,fun _ _=>trivial,trivial,fun cf cs hm hroom=>?_⟩⟩
  ·rw [ht];exact run_callFunc hC hfn hcb
  ·obtain⟨e,u',w',fr,⟨⟨v,rfl⟩,rfl,hbl⟩,b,c',d'⟩:=(hcd (d.args++c) w).2 cf cs hm (wide_room none _)
   exact⟨_,_,_,fr,key fn tmps Q R A ι nx w' ds' hr (hs.below hbl) hq,b,c',d'⟩
/-! ### A function that has a body-/
theorem callB_some{f:Nat}{as_:List AV}{K:XK β}(hC:C.Ok)(hh:HOk C h)(hk:callB C h f as_ S nx K=some r):
 (∃ fn c,C.P.funcs[f]? =some fn∧fn.body=some c)∧ ∃ v S' nx',K v S' nx'=some r∧CalS C f as_ S nx v S' nx':=by
 obtain⟨fn,hf,hk⟩:=ob_some hk
 obtain⟨c,hb,hk⟩:=ob_some hk
 obtain⟨hle,hk⟩:=og_some hk
 refine⟨⟨fn,c,hf,hb⟩,?_⟩
 have h1:Nat.ble (lenK as_) fn.ntmps=true∧Nat.ble fn.ntmps 256=true:=by
  generalize Nat.ble (lenK as_) fn.ntmps=x at hle
  generalize Nat.ble fn.ntmps 256=y at hle
  cases x<;>cases y<;>first|exact⟨rfl,rfl⟩|cases hle
 have hl1:as_.length≤fn.ntmps:=by rw [←lenK_eq];exact Nat.le_of_ble_eq_true h1.1
 have hl2:fn.ntmps≤256:=Nat.le_of_ble_eq_true h1.2
 obtain⟨t',hk,key⟩:=mkT_some _ _ _ _ hk
 obtain⟨e,t1,df,S1,nx1,hs,hk⟩:=hh _ _ _ _ _ _ _ _ _ hk
 have hk':(e= .nrm∨e= .ret)∧quietK C df S1 (fun S=>(resK C t1 S fn.results.toList fun l=>List.casesOn (motive:=fun _=>Option β) l (K (.tu []) S nx1) fun v r=>List.casesOn (motive:=fun _=>Option β) r (K v S nx1) fun _ _=>K (.tu l) S nx1))=some r:=by
  cases e with
  |nrm=>exact⟨.inl rfl,hk⟩
  |ret=>exact⟨.inr rfl,hk⟩
  |ex id=>cases hk
 obtain⟨he,hk⟩:=hk'
 obtain⟨S2,hk,hq⟩:=quietK_some hC _ _ _ hk
 obtain⟨q,hk,hres⟩:=resK_some _ _ hk
 have fin: ∃ v,K v S2 nx1=some r∧ ∀ (ι:Io) (vs:List Value),VRs ι q vs→VR ι v (if h:vs.length=1 then vs[0] else .tuple vs.toArray):=by
  cases q with
  |nil=>exact⟨_,hk,fun ι vs hv=>by rw [VRs_nil.1 hv];simp only [List.length_nil];rw [dif_neg (by simp)];rw [VR];exact⟨[],rfl,VRs_nil.2 rfl⟩⟩
  |cons v q=>
   cases q with
   |nil=>exact⟨v,hk,fun ι vs hv=>by obtain⟨x,y,rfl,hx,hy⟩:=VRs_cons.1 hv;rw [VRs_nil.1 hy];simpa using hx⟩
   |cons u q=>exact⟨_,hk,fun ι vs hv=>by
    have hl:=VRs.len hv
    rw [dif_neg (by rw [hl];simp),VR]
    exact⟨vs,rfl,hv⟩⟩
 obtain⟨v,hK,hv⟩:=fin
 refine⟨v,S2,nx1,hK,fun R A ι w vs hG hvs hsr=>(callsIn_wide (n:=0)).1 (callsIn_of_wp_marks hf hb trivial ?_)⟩
 have hvl:=VRs.len hvs
 obtain⟨hd',hg'⟩:=key ι vs [] fn.ntmps hvs rfl (by omega) hl2 (by decide) (fun k=>by
  show VR ι (gt .e k (.tu [])) _
  have e1:gt (.e:TB) k (.tu [])= .tu []:=rfl
  rw [e1,VR];exact⟨[],by simp [undef],VRs_nil.2 rfl⟩)
 have hA:ActR ι fn.ntmps t' [] {tmps:=vs.toArray++Array.replicate (fn.ntmps-vs.toArray.size) undef,defers:=[]}:=by
  refine⟨⟨by simp;omega,hl2,hd',fun k=>?_⟩,rfl⟩
  have e1:(vs.toArray++Array.replicate (fn.ntmps-vs.toArray.size) undef).getD k undef=([]++vs).getD k undef:=by
   simp only [Array.getD_eq_getD_getElem?,List.nil_append,List.getD_eq_getElem?_getD,Array.getElem?_append,List.size_toArray,Array.getElem?_replicate]
   split
   ·simp
   ·rename_i hk'
    rw [List.getElem?_eq_none (l:=vs) (by omega)]
    split<;>rfl
  rw [e1];exact hg' k
 refine wpIn_mono (hs R A ι w _ none hG hA rfl hsr).1 ?_
 rintro e' a' w' ⟨rfl,ι1,hle,hA1,hs1⟩
 have hl:LeavesInM Fence.wide 0 C.P fn a'.tmps (fun e w'=> ∃ v',e= .returned v'∧Fin R A ι v S2 nx1 v' w') a'.defers .returning w':=by
  refine hq fn _ _ R A ι1 nx1 w' _ hA1.df hs1 fun w2 hs2=>?_
  obtain⟨us,h1,h2⟩:=hres ι1 w2 _ _ hA1.tr (hs2.mr hG)
  refine⟨_,?_,_,rfl,ι1,hle,hs2,hv ι1 us h2⟩
  have e1:fn.results=fn.results.toList.toArray:=by simp
  rw [results_eq,Sem.run_bind,e1,List.mapM_toArray,Sem.run_map,h1]
  simp only [Result.andThen_ok,Sem.run_pure]
  congr 1
 rcases he with rfl|rfl
 ·exact hl
 ·exact hl
end calls
end AI
end GV
end Go.Proofs.YtkkcidhcfkmbjaaGreatDoor

namespace Go.Proofs.YtkkcidhcfkmbjaaGreatDoor
namespace GV
namespace AI
section rounds
variable {C : Cf} {β : Type} {r : β} {h : H β} {S : HP} {nx : Nat}
theorem setPs_some{n:Nat}(ks:List Nat): ∀ (as_:List AV) (t:TB) (K:TB→Option β),setPs n ks as_ t K=some r→ ∃ t',K t'=some r∧ ∀ (ι:Io) (tmps:Array Value) (vs:List Value),TR ι n t tmps→VRs ι as_ vs→
 ks.length=vs.length∧TR ι n t' ((ks.zip vs).foldl (fun tmps q=>tmps.setIfInBounds q.1 q.2) tmps):=by
 induction ks with
 |nil=>
  intro as_ t K h
  cases as_ with
  |cons a as_=>cases h
  |nil=>exact⟨t,h,fun ι tmps vs ht hv=>by rw [VRs_nil.1 hv];exact⟨rfl,ht⟩⟩
 |cons k ks ih=>
  intro as_ t K h
  cases as_ with
  |nil=>cases h
  |cons a as_=>
   obtain⟨h1,h⟩:=og_some (show og (Nat.blt k n) (setK 4 t k a fun t=>setPs n ks as_ t K)=some r from h)
   have hlt:=blt_true h1
   obtain⟨t1,e,key⟩:=setK_app (β:=Option β) 4 t k a
   rw [e] at h
   obtain⟨t',hK,k2⟩:=ih _ _ _ h
   refine⟨t',hK,fun ι tmps vs ht hv=>?_⟩
   obtain⟨v,ws,rfl,hv1,hws⟩:=VRs_cons.1 hv
   have hk:k<4^4:=by have:=ht.le;omega
   obtain⟨hd,hg⟩:=key ht.dep hk
   have h1:TR ι n t1 (tmps.setIfInBounds k v):=by
    refine⟨by simp [ht.size],ht.le,hd,fun j=>?_⟩
    rw [hg j]
    by_cases e:j=k
    ·subst e
     rw [if_pos rfl]
     have:(tmps.setIfInBounds j v).getD j undef=v:=by
      simp only [Array.getD_eq_getD_getElem?,Array.getElem?_setIfInBounds]
      simp [ht.size,hlt]
     rw [this];exact hv1
    ·rw [if_neg e]
     have:(tmps.setIfInBounds k v).getD j undef=tmps.getD j undef:=by
      simp only [Array.getD_eq_getD_getElem?,Array.getElem?_setIfInBounds]
      rw [if_neg (fun q=>e q.symm)]
     rw [this];exact ht.get j
   obtain⟨a1,a2⟩:=k2 ι _ ws h1 hws
   exact⟨by simp [a1],a2⟩
theorem lp_turn{R:RH}{A:List Frag}{ι:Io}{w:World}{id:Nat}{st st':LoopState}{pd pd':Option Code}{t:TB}{n:Nat}{ps:List Nat}{as_ bo:Code}{d:Nat}{S':HP}
 (hs:SR R A ι S nx w) (hid:hg S id= .lp st pd t n ps as_ bo d) (hU:Upd S S' id (.lp st' pd' t n ps as_ bo d)):
 ∃ L rc,ι id=some L∧w.heap[L.blk]? =some (.loop rc)∧rc.state=st∧rc.pending=pd∧TR ι n t rc.tmps∧rc.params.toList=ps∧rc.assign=as_∧rc.body=bo∧
  SR R A ι S' nx (w.putObj L.blk (.loop {rc with state:=st',pending:=pd'})):=by
 have hne:hg S id≠ .x:=by rw [hid];intro e;cases e
 obtain⟨L,o,a1,a2,a3⟩:=hs.blk hne
 rw [hid] at a3
 obtain⟨rc,rfl,b1,b2,b3,b4,b5,b6,Ld,c1,c2⟩:=a3
 obtain⟨hd,hg'⟩:=hU hs.dep
 have hlt:=(Array.getElem?_eq_some_iff.1 a2).1
 exact⟨L,rc,a1,a2,b1,b2,b3,b4,b5,b6,hs.put hne a1 (World.putObj_heap_same hlt) (fun k hk=>World.putObj_heap_other hk) rfl rfl hd hg' ⟨_,rfl,rfl,rfl,b3,b4,b5,b6,Ld,c1,c2⟩⟩
theorem lp_at{R:RH}{A:List Frag}{ι:Io}{w:World}{id:Nat}{st:LoopState}{pd:Option Code}{t:TB}{n:Nat}{ps:List Nat}{as_ bo:Code}{d:Nat}
 (hs:SR R A ι S nx w) (hid:hg S id= .lp st pd t n ps as_ bo d):
 ∃ L rc,ι id=some L∧w.heap[L.blk]? =some (.loop rc)∧rc.state=st∧rc.pending=pd∧TR ι n t rc.tmps∧rc.params.toList=ps∧rc.assign=as_∧rc.body=bo∧ ∃ Ld,ι d=some Ld∧rc.defers=Ld.blk:=by
 have hne:hg S id≠ .x:=by rw [hid];intro e;cases e
 obtain⟨L,o,a1,a2,a3⟩:=hs.blk hne
 rw [hid] at a3
 obtain⟨rc,rfl,b1,b2,b3,b4,b5,b6,Ld,c1,c2⟩:=a3
 exact⟨L,rc,a1,a2,b1,b2,b3,b4,b5,b6,Ld,c1,c2⟩
theorem isRdy_eq{s:LoopState}(h:isRdy s=true):s= .ready:=by cases s<;>first|rfl|cases h
theorem noDf_eq{l:List AD}(h:noDf l=true):l=[]:=by cases l<;>first|rfl|cases h
theorem isNrm_eq{e:Ex}(h:isNrm e=true):e= .nrm:=by cases e<;>first|rfl|cases h
theorem and_true{a b:Bool}(h:(a&&b)=true):a=true∧b=true:=by cases a<;>cases b<;>first|exact⟨rfl,rfl⟩|cases h
def jmp:Ex→Option Code
 | .nrm=>none
 | .ex j=>some (.exit j)
 | .ret=>some .ret
theorem endR_some{id:Nat}{e:Ex}{K:XK β}(hk:endR S nx id e K=some r): ∃ v S',K v S' nx=some r∧ ∀ R A ι w L,SR R A ι S nx w→ι id=some L→
 ∃ v' w',(Instr.endRound L.blk (jmp e)).run C.P w= .ok v' w'∧Fin R A ι v S' nx v' w':=by
 obtain⟨st,pd,t,n,ps,as_,bo,d,hid,hk⟩:=loopK_some hk
 have fin: ∀ {st':LoopState} {S'},Upd S S' id (.lp st' (jmp e) t n ps as_ bo d)→(st'=if(jmp e).isNone then .ready else .done)→ ∀ R A ι w L,SR R A ι S nx w→ι id=some L→
  ∃ v' w',(Instr.endRound L.blk (jmp e)).run C.P w= .ok v' w'∧Fin R A ι (.b (jmp e).isNone) S' nx v' w':=by
  intro st' S' hU hst R A ι w L hs hL
  obtain⟨L',rc,a1,a2,b1,b2,b3,b4,b5,b6,hs'⟩:=lp_turn hs hid hU
  rw [hL] at a1;cases a1
  refine⟨_,_,run_endRound (jmp e) a2,ι,ILe.refl _,?_,by rw [VR]⟩
  rw [←hst];exact hs'
 cases e with
 |nrm=>
  obtain⟨S',hU,hk⟩:=putB_some hk
  exact⟨_,S',hk,fin hU rfl⟩
 |ret=>
  obtain⟨S',hU,hk⟩:=putB_some hk
  exact⟨_,S',hk,fin hU rfl⟩
 |ex j=>
  obtain⟨S',hU,hk⟩:=putB_some hk
  exact⟨_,S',hk,fin hU rfl⟩
theorem zip_fold{ps:Array Tmp}{vs:List Value}{tmps:Array Value}:(ps.zip vs.toArray).foldl (fun tmps (x:Tmp×Value)=>tmps.setIfInBounds x.1 x.2) tmps=(ps.toList.zip vs).foldl (fun tmps q=>tmps.setIfInBounds q.1 q.2) tmps:=by
 rw [←Array.foldl_toList]
 simp
theorem yieldK_some{id:Nat}{as_:List AV}{K:XK β}(hh:HOk C h)(hk:yieldK h id as_ S nx K=some r): ∃ v S' nx',K v S' nx'=some r∧ ∀ R A ι w L (vs:List Value),GR C R→VRs ι as_ vs→SR R A ι S nx w→ι id=some L→
 Out C.P (Fin R A ι v S' nx') ((Instr.yield L.blk vs.toArray).run C.P w):=by
 obtain⟨st,pd,t,n,ps,as',bo,d,hid,hk⟩:=loopK_some hk
 obtain⟨h1,hk⟩:=og_some hk
 obtain⟨t',hk,hps⟩:=setPs_some _ _ _ _ hk
 obtain⟨e,t1,df,S1,nx1,hs1,hk⟩:=hh _ _ _ _ _ _ _ _ _ hk
 obtain⟨h2,hk⟩:=og_some hk
 obtain⟨he,hdf⟩:=and_true h2
 have he':=isNrm_eq he
 have hdf':=noDf_eq hdf
 subst he' hdf'
 obtain⟨st2,pd2,t2,n2,ps2,as2,bo2,d2,hid2,hk⟩:=loopK_some hk
 obtain⟨h3,hk⟩:=og_some hk
 have h3':=isRdy_eq h3
 subst h3'
 obtain⟨S2,hU2,hk⟩:=putB_some hk
 obtain⟨e3,t3,df3,S3,nx3,hs3,hk⟩:=hh _ _ _ _ _ _ _ _ _ hk
 obtain⟨h4,hk⟩:=og_some hk
 obtain⟨v,S4,hk,hend⟩:=endR_some (C:=C) hk
 refine⟨v,S4,nx3,hk,fun R A ι w L vs hG hvs hs hL=>?_⟩
 obtain⟨L',rc,a1,a2,b1,b2,b3,b4,b5,b6,_⟩:=lp_at hs hid
 rw [hL] at a1;cases a1
 obtain⟨c1,c2⟩:=hps ι rc.tmps vs b3 hvs
 have hsz:vs.toArray.size=rc.params.size:=by
  rw [List.size_toArray,←c1,←b4];simp
 rw [run_yield a2 hsz]
 rw [zip_fold,b4,b5,b6]
 refine roundIn_of_wpIn trivial ?_
 have hA:ActR ι n t' [] {tmps:=(ps.zip vs).foldl (fun tmps q=>tmps.setIfInBounds q.1 q.2) rc.tmps,defers:=[]}:=⟨c2,rfl⟩
 refine wpIn_mono (hs1 R A ι w _ (some L.blk) hG hA ⟨L,hL,rfl⟩ hs).1 ?_
 rintro e' a1 w1 ⟨rfl,ι1,hle1,hA1,hsr1⟩
 obtain⟨L2,rc2,a1',a2',b1',b2',b3',b4',b5',b6',hs2⟩:=lp_turn hsr1 hid2 hU2
 rw [hle1 _ _ hL] at a1';cases a1'
 refine⟨_,run_beginRound a2' b1',?_⟩
 have e2:({rc2 with state:= .busy,pending:=pd2}:Loop)= {rc2 with state:= .busy}:=by rw [←b2']
 rw [e2] at hs2
 refine wpIn_mono (hs3 R A ι1 _ a1 (some L.blk) hG hA1 ⟨L,hle1 _ _ hL,rfl⟩ hs2).1 ?_
 rintro e' a3 w3 ⟨rfl,ι3,hle3,hA3,hsr3⟩
 obtain⟨v',w4,k1,ι4,k2,k3,k4⟩:=hend R A ι3 w3 L hsr3 (hle3 _ _ (hle1 _ _ hL))
 have fin:roundPost C.P L.blk (fun e w'=> ∃ v_1,e= .returned v_1∧Fin R A ι v S4 nx3 v_1 w') (exO e3) a3 w3:=by
  cases e3<;>exact⟨v',w4,k1,v',rfl,ι4,(hle1.trans hle3).trans k2,k3,k4⟩
 exact fin
end rounds
end AI
end GV
end Go.Proofs.YtkkcidhcfkmbjaaGreatDoor

namespace Go.Proofs.YtkkcidhcfkmbjaaGreatDoor
namespace GV
namespace AI
theorem Out.mono{P:Program}{K K':Value→World→Prop}{x:Result Next}(h:Out P K x)(hk: ∀ v w,K v w→K' v w):Out P K' x:=by
 cases x with
 |halt x y=>exact h
 |ok nx w1=>
  cases nx with
  |value v=>exact hk _ _ h
  |skip=>exact hk _ _ h
  |enter f args=>exact Calls.mono h fun e w' ⟨v,he,a⟩=>⟨v,he,hk _ _ a⟩
  |round l f tmps as_ b=>exact RoundIn.mono h fun e w' ⟨v,he,a⟩=>⟨v,he,hk _ _ a⟩
  |_=>exact h
section ops
variable {C : Cf} {β : Type} {r : β} {h : H β} {S : HP} {nx : Nat} {t : TB}
theorem callK_some{f:Nat}{as_:List AV}{K:XK β}(hC:C.Ok)(hh:HOk C h)(hk:callK C h f as_ S nx K=some r): ∃ v S' nx',K v S' nx'=some r∧ ∀ R A ι w (vs:List Value),GR C R→VRs ι as_ vs→SR R A ι S nx w→
 Out C.P (Fin R A ι v S' nx') ((callFunc f vs.toArray).run C.P w):=by
 unfold callK at hk
 cases e:alK f C.ext with
 |none=>
  rw [e] at hk
  obtain⟨⟨fn,c,hf,hb⟩,v,S',nx',hK,hc⟩:=callB_some hC hh hk
  refine⟨v,S',nx',hK,fun R A ι w vs hG hv hs=>?_⟩
  rw [run_callFunc hC hf hb]
  exact hc R A ι w vs hG hv hs
 |some x=>
  rw [e] at hk
  obtain⟨v,hK,key⟩:=hC.ext f x (alK_some e) β as_ S nx _ r hk
  exact⟨v,S,nx,hK,key⟩
theorem invK_some{fv:AV}{as_:List AV}{K:XK β}(hC:C.Ok)(hh:HOk C h)(hk:invK C h fv as_ S nx K=some r): ∃ v S' nx',K v S' nx'=some r∧ ∀ R A ι w fvv (vs:List Value),GR C R→VR ι fv fvv→VRs ι as_ vs→SR R A ι S nx w→
 Out C.P (Fin R A ι v S' nx') ((do let d←Deferred.ofValue fvv vs.toArray;invoke d.target d.args).run C.P w):=by
 cases fv with
 |fn f bd cp=>
  have hk':appK as_ cp (fun as_=>appK bd as_ fun as_=>callK C h f as_ S nx K)=some r:=hk
  rw [appK_eq,appK_eq] at hk'
  obtain⟨v,S',nx',hK,key⟩:=callK_some hC hh hk'
  refine⟨v,S',nx',hK,fun R A ι w fvv vs hG hf hv hs=>?_⟩
  rw [VR] at hf
  obtain⟨b,c,rfl,hb,hc⟩:=hf
  have:=key R A ι w _ hG (hb.append (hv.append hc)) hs
  simp only [Deferred.ofValue,Sem.run_bind,Sem.run_pure,Result.andThen_ok,invoke]
  have e:b.toArray++vs.toArray++c.toArray=(b++(vs++c)).toArray:=by simp
  rw [e];exact this
 |y id=>
  obtain⟨v,S',nx',hK,key⟩:=yieldK_some (C:=C) hh (show yieldK h id as_ S nx K=some r from hk)
  refine⟨v,S',nx',hK,fun R A ι w fvv vs hG hf hv hs=>?_⟩
  rw [VR] at hf
  obtain⟨L,hL,rfl⟩:=hf
  have:=key R A ι w L vs hG hv hs hL
  simp only [Deferred.ofValue,Sem.run_bind,Sem.run_pure,Result.andThen_ok,invoke]
  have e: #[]++vs.toArray=vs.toArray:=by simp
  rw [e];exact this
 |_=>cases hk
theorem map_arrO{ρ:Operand→Value}{a:Array Operand}:a.map ρ=(a.toList.map ρ).toArray:=by apply Array.ext';rw [Array.toList_map]
theorem VRs.mapA{ι:Io}{ρ:Operand→Value}: ∀ (l:List Operand),(∀ x∈l,VR ι (evA t x) (ρ x))→VRs ι (l.map (evA t)) (l.map ρ)
 | [],_=>VRs_nil.2 rfl
 |x::l,h=>VRs_cons.2 ⟨_,_,rfl,h x (List.mem_cons_self ..),VRs.mapA l fun y hy=>h y (List.mem_cons_of_mem _ hy)⟩
theorem actK_some{o:Oper}{K:XK β}(hC:C.Ok)(hh:HOk C h)(hk:actK o.op C h t S nx K=some r): ∃ v S' nx',XS C o t S nx v S' nx'∧K v S' nx'=some r:=by
 obtain⟨d,op,ty,pos,af,g⟩:=o
 cases op with
 |store t' a v=>exact x_store hk
 |mapUpdate t' m k v=>exact x_put (.inl rfl) hk
 |insert t' m k v=>exact x_put (.inr rfl) hk
 |call c=>
  cases hc:c.callee with
  |builtin b=>
   have hk':bltX b c C h t S nx K=some r:=by
    have:Callee.casesOn (motive:=fun _=>Option β) c.callee (fun f=>evK f t fun f=>evsK c.args.toList t fun l=>invK C h f l S nx K) (fun _ _=>none) (fun b=>bltX b c C h t S nx K)=some r:=hk
    rw [hc] at this;exact this
   exact x_blt hc hk'
  |invoke a b=>
   have:Callee.casesOn (motive:=fun _=>Option β) c.callee (fun f=>evK f t fun f=>evsK c.args.toList t fun l=>invK C h f l S nx K) (fun _ _=>none) (fun b=>bltX b c C h t S nx K)=some r:=hk
   rw [hc] at this;cases this
  |value f=>
   have hk':evK f t (fun f=>evsK c.args.toList t fun l=>invK C h f l S nx K)=some r:=by
    have:Callee.casesOn (motive:=fun _=>Option β) c.callee (fun f=>evK f t fun f=>evsK c.args.toList t fun l=>invK C h f l S nx K) (fun _ _=>none) (fun b=>bltX b c C h t S nx K)=some r:=hk
    rw [hc] at this;exact this
   rw [evK_eq,evsK_eq] at hk'
   obtain⟨v,S',nx',hK,key⟩:=invK_some hC hh hk'
   refine⟨v,S',nx',fun R A ι w ρ hG ho hs=>?_,hK⟩
   have h1:=ho f (by simp [Op.operands,Call.operands,hc])
   have h2:=VRs.mapA (ρ:=ρ) c.args.toList fun x hx=>ho x (by
    have hx':=Array.mem_toList_iff.1 hx
    simp only [Op.operands,Call.operands,hc,Array.mem_append]
    exact .inr hx')
   have:=key R A ι w _ _ hG h1 h2 hs
   have e1:(c.args.toList.map ρ).toArray=c.args.map ρ:=map_arrO.symm
   rw [e1] at this
   simp only [execOp,resolve,hc]
   exact this
 |_=>cases hk
theorem xs_of_rd{o:Oper}{v:AV}(hr:RdS C o t S v):XS C o t S nx v S nx:=fun R A ι w ρ hG ho hs=>by
 obtain⟨v',h1,h2⟩:=hr ι w ρ ho (hs.mr hG)
 rw [h1];exact⟨ι,ILe.refl _,hs,h2⟩
theorem xs_of_nw{o:Oper}{b:AB}{g:Nat→AV}{S':HP}(hr:NwS C o t b g)(hU:Upd S S' nx b):XS C o t S nx (g nx) S' (nx+1):=fun R A ι w ρ hG ho hs=>by
 obtain⟨ob,v,h1,h2⟩:=hr ι w ρ ho
 rw [h1]
 obtain⟨hd,hg'⟩:=hU hs.dep
 have hfr:=hs.fresh nx (Nat.le_refl _)
 obtain⟨h3,h4⟩:=h2 (iup ι nx ⟨w.heap.size,0,0⟩) ⟨w.heap.size,0,0⟩ nx (iup_le hfr) iup_same rfl rfl
 obtain⟨h5,h6⟩:=hs.new hd hg' h3
 exact⟨_,h6,h5,h4⟩
theorem opK_some{o:Oper}{K:XK β}(hC:C.Ok)(hh:HOk C h)(hk:opK C h o.op t S nx K=some r): ∃ v S' nx',XS C o t S nx v S' nx'∧K v S' nx'=some r:=by
 unfold opK at hk
 cases e:cls o.op with
 |zero=>
  rw [e] at hk
  obtain⟨v,h1,h2⟩:=rdK_some hk
  exact⟨v,S,nx,xs_of_rd h1,h2⟩
 |succ j=>
  rw [e] at hk
  cases j with
  |zero=>
   obtain⟨b,g,h1,h2,h3⟩:=nwK_some hk
   obtain⟨S',hU,h4⟩:=newK_some h3
   exact⟨_,S',nx+1,xs_of_nw h1 hU,h4⟩
  |succ j=>
   rcases oz_some hk with⟨_,h1⟩|⟨_,h1⟩
   ·exact actK_some hC hh h1
   ·cases h1
theorem wpIn_of_xs{o:Oper}{v:AV}{S':HP}{nx':Nat}{n:Nat}{df:List AD}{R:RH}{A:List Frag}{ι:Io}{w:World}{a:Act}{ρc:Option Nat}{K:Act→World→Prop}{Q':Exit→Act→World→Prop}
 (hx:XS C o t S nx v S' nx') (hnd: ∀ c,o.op≠ .defer c) (hG:GR C R) (hA:ActR ι n t df a) (hs:SR R A ι S nx w) (hk: ∀ v' w',Fin R A ι v S' nx' v' w'→K (a.put o.dst v') w'):o.wpIn (wide ρc) 0 C.P a w K Q':=by
 refine⟨fun _ _=>trivial,?_⟩
 have:=hx R A ι w a.eval hG (fun x _=>hA.eval x) hs
 rw [Oper.semAt_eq _ _ _ hnd]
 generalize (execOp a.eval o).run C.P w=y at*
 cases y with
 |halt x y=>exact this.elim
 |ok nx w1=>
  cases nx with
  |value v=>exact hk _ _ this
  |skip=>exact hk _ _ this
  |enter f args=>
   refine⟨fun h=>(by cases h),Calls.callsIn ρc (Calls.mono this ?_)⟩
   rintro e w' ⟨v,rfl,b⟩
   exact hk _ _ b
  |round l f tmps as_ b=>
   refine⟨fun h=>(by cases h),RoundIn.wide ρc (RoundIn.mono this ?_)⟩
   rintro e w' ⟨v,rfl,b⟩
   exact hk _ _ b
  |_=>exact this.elim
/-! ### In the text's order-/
def OpsS(C:Cf)(ops:Array Oper)(l:List Oper)(n:Nat)(ρ:Option Nat)(t:TB)(df:List AD)(S:HP)(nx:Nat)(t':TB)(df':List AD)(S':HP)(nx':Nat):Prop:=
 ∀ R A ι w a ρc (Q:Exit→Act→World→Prop),GR C R→ActR ι n t df a→RhoR ι ρ ρc→SR R A ι S nx w→(∀ ι' a' w',ILe ι ι'→ActR ι' n t' df' a'→SR R A ι' S' nx' w'→Q .normal a' w')→wlo (wide ρc) 0 C.P ops Q l a w
theorem dstA_eq{os:List Oper}{j d:Nat}(h:dstA os j=some d):guardSlot os.toArray j=some d:=by
 obtain⟨o,h1,h2⟩:=ob_some (show ob os[j]? (fun o=>o.dst)=some d from h)
 simp [guardSlot,h1,h2]
theorem wantK_some{os:List Oper}{o:Oper}{K:Bool→Option β}(hk:wantK os o t K=some r): ∃ x,K x=some r∧ ∀ ι n df a,ActR ι n t df a→Region.wanted o (yielded os.toArray a.tmps)=x:=by
 unfold wantK at hk
 cases hg:o.guard with
 |none=>rw [hg] at hk;exact⟨true,hk,fun _ _ _ _ _=>wanted_none hg⟩
 |some g=>
  rw [hg] at hk
  obtain⟨d,hd,hk⟩:=ob_some hk
  rw [getK_eq] at hk
  have hw: ∀ a:Act,Region.wanted o (yielded os.toArray a.tmps)=(yielded os.toArray a.tmps g.1==some g.2):=fun a=>by simp only [Region.wanted,hg]
  have hy: ∀ a:Act,yielded os.toArray a.tmps g.1=match a.tmps[d]? with
   |some (.bool b)=>some b
   |_=>none:=fun a=>by
   have:=dstA_eq hd
   unfold guardSlot at this
   unfold yielded
   rw [this];rfl
  have hget: ∀ a:Act,a.tmps.getD d undef=(a.tmps[d]?).getD undef:=fun a=>Array.getD_eq_getD_getElem? ..
  cases hu:isU (gt t d (.tu [])) with
  |true=>
   rw [hu] at hk
   refine⟨false,hk,fun ι n df a hA=>?_⟩
   have hv:=hA.tr.get d
   have e:gt t d (.tu [])= .tu []:=by
    unfold isU at hu
    split at hu
    ·assumption
    ·cases hu
   rw [e,VR] at hv
   obtain⟨vs,h1,h2⟩:=hv
   rw [hw,hy]
   rw [hget] at h1
   cases h3:a.tmps[d]? with
   |none=>rfl
   |some u=>rw [h3] at h1;simp only [Option.getD_some] at h1;rw [h1];rfl
  |false=>
   rw [hu] at hk
   obtain⟨x,hx,hk⟩:=asB_some (show asB (gt t d (.tu [])) (fun x=>fB (x==g.2) K)=some r from hk)
   rw [fB_eq] at hk
   refine⟨_,hk,fun ι n df a hA=>?_⟩
   have hv:=hA.tr.get d
   rw [hx,VR] at hv
   rw [hw,hy]
   rw [hget] at hv
   cases h3:a.tmps[d]? with
   |none=>rw [h3] at hv;cases hv
   |some u=>rw [h3] at hv;simp only [Option.getD_some] at hv;rw [hv];rfl
theorem defK_some{o:Oper}{ρ:Option Nat}{K:AD→Option β}(hk:defK o.op ρ t K=some r):ρ=none∧ ∃ ad,K ad=some r∧ ∀ ι n df a,ActR ι n t df a→ ∃ d,DR ι ad d∧ ∀ w,(execOp a.eval o).run C.P w= .ok (.defer d) w:=by
 obtain⟨d,op,ty,pos,af,g⟩:=o
 cases op with
 |defer c=>
  cases hc:c.callee with
  |builtin b=>simp only [defK,hc] at hk;cases hk
  |invoke a b=>simp only [defK,hc] at hk;cases hk
  |value f=>
   cases ρ with
   |some l=>simp only [defK,hc] at hk;cases hk
   |none=>
    refine⟨rfl,?_⟩
    simp only [defK,hc] at hk
    rw [evK_eq,evsK_eq] at hk
    cases hf:evA t f with
    |fn fi bd cp=>
     rw [hf] at hk
     refine⟨_,hk,fun ι n df a hA=>?_⟩
     have h1:=hA.eval f
     rw [hf,VR] at h1
     obtain⟨b,c',h1,hb,hcp⟩:=h1
     have h2:=VRs.mapA (ρ:=a.eval) c.args.toList fun x _=>hA.eval x
     refine⟨{target:= .fn (.func fi) c'.toArray,args:=b.toArray++c.args.map a.eval},⟨_,_,rfl,rfl,hcp,?_⟩,fun w=>?_⟩
     ·have e1:(b.toArray++c.args.map a.eval).toList=b++c.args.toList.map a.eval:=by simp
      show VRs ι _ (b.toArray++c.args.map a.eval).toList
      rw [e1];exact hb.append h2
     ·simp only [execOp,resolve,hc,h1,Deferred.ofValue,Sem.run_bind,Sem.run_pure,Result.andThen_ok]
    |_=>rw [hf] at hk;cases hk
 |_=>simp only [defK] at hk;cases hk
theorem cls3{op:Op}(h:Nat.beq (cls op) 3=false): ∀ c,op≠ .defer c:=fun c e=>by subst e;cases h
theorem goK_some{os:List Oper}{n:Nat}{ρ:Option Nat}{o:Oper}{df:List AD}{K:OK β}(hC:C.Ok)(hh:HOk C h)(hk:goK C h n ρ o t df S nx K=some r): ∃ t' df' S' nx',K t' df' S' nx'=some r∧
 ∀ R A ι w a ρc (K':Act→World→Prop) Q',GR C R→ActR ι n t df a→RhoR ι ρ ρc→SR R A ι S nx w→(∀ ι' a' w',ILe ι ι'→ActR ι' n t' df' a'→SR R A ι' S' nx' w'→K' a' w')→o.wpIn (wide ρc) 0 C.P a w K' Q':=by
 unfold goK at hk
 cases e:Nat.beq (cls o.op) 3 with
 |false=>
  rw [e] at hk
  obtain⟨v,S',nx',hx,hk⟩:=opK_some hC hh hk
  obtain⟨t',hk,hp⟩:=putK_some (df:=df) hk
  refine⟨t',df,S',nx',hk,fun R A ι w a ρc K' Q' hG hA hρ hs hK=>wpIn_of_xs hx (cls3 e) hG hA hs ?_⟩
  rintro v' w' ⟨ι',h1,h2,h3⟩
  exact hK ι' _ w' h1 (hp ι' a v' (hA.mono h1) h3) h2
 |true=>
  rw [e] at hk
  obtain⟨rfl,ad,hk,hd⟩:=defK_some (C:=C) hk
  obtain⟨t',hk,hp⟩:=putK_some (df:=ad::df) hk
  refine⟨t',ad::df,S,nx,hk,fun R A ι w a ρc K' Q' hG hA hρ hs hK=>⟨fun _ _=>trivial,?_⟩⟩
  obtain⟨d,h1,h2⟩:=hd ι n df a hA
  have hρ':ρc=none:=hρ
  subst hρ'
  show Oper.uponIn (wide none) 0 C.P o a K' Q' ((execOp a.eval o).run C.P w)
  rw [h2 w]
  refine hK ι _ w (ILe.refl _) (hp ι {a with defers:=d::a.defers} undef ⟨hA.tr,d,_,rfl,h1,hA.df⟩ ?_) hs
  rw [VR];exact⟨[],rfl,VRs_nil.2 rfl⟩
theorem stepO_some{os:List Oper}{n:Nat}{ρ:Option Nat}{o:Oper}{df:List AD}{K:OK β}(hC:C.Ok)(hh:HOk C h)(hk:stepO C h os n ρ o t df S nx K=some r): ∃ t' df' S' nx',K t' df' S' nx'=some r∧
 ∀ R A ι w a ρc (K':Act→World→Prop) Q',GR C R→ActR ι n t df a→RhoR ι ρ ρc→SR R A ι S nx w→(∀ ι' a' w',ILe ι ι'→ActR ι' n t' df' a'→SR R A ι' S' nx' w'→K' a' w')→
  (if Region.wanted o (yielded os.toArray a.tmps) then o.wpIn (wide ρc) 0 C.P a w K' Q' else(∀ f,o.about C.P w a.eval=some f→(wide ρc).fn f)∧K' (a.put o.dst undef) w):=by
 obtain⟨x,hk,hw⟩:=wantK_some hk
 cases x with
 |true=>
  obtain⟨t',df',S',nx',hk,key⟩:=goK_some (os:=os) hC hh hk
  refine⟨t',df',S',nx',hk,fun R A ι w a ρc K' Q' hG hA hρ hs hK=>?_⟩
  rw [hw ι n df a hA,if_pos rfl]
  exact key R A ι w a ρc K' Q' hG hA hρ hs hK
 |false=>
  obtain⟨t',hk,hp⟩:=putK_some (df:=df) hk
  refine⟨t',df,S,nx,hk,fun R A ι w a ρc K' Q' hG hA hρ hs hK=>?_⟩
  rw [hw ι n df a hA,if_neg (by simp)]
  refine⟨fun _ _=>trivial,hK ι _ w (ILe.refl _) (hp ι a undef hA ?_) hs⟩
  rw [VR];exact⟨[],rfl,VRs_nil.2 rfl⟩
theorem opsK_some{os:List Oper}{n:Nat}{ρ:Option Nat}(hC:C.Ok)(hh:HOk C h){K:OK β}: ∀ (l:List Oper) (t:TB) (df:List AD) (S:HP) (nx:Nat),opsK C h os n ρ l K t df S nx=some r→ ∃ t' df' S' nx',K t' df' S' nx'=some r∧OpsS C os.toArray l n ρ t df S nx t' df' S' nx'
 | [],t,df,S,nx,hk=>⟨t,df,S,nx,hk,fun R A ι w a ρc Q hG hA hρ hs hQ=>hQ ι a w (ILe.refl _) hA hs⟩
 |o::l,t,df,S,nx,hk=>by
  obtain⟨t1,df1,S1,nx1,hk,key⟩:=stepO_some hC hh (show stepO C h os n ρ o t df S nx (opsK C h os n ρ l K)=some r from hk)
  obtain⟨t2,df2,S2,nx2,hk,ih⟩:=opsK_some hC hh l _ _ _ _ hk
  refine⟨t2,df2,S2,nx2,hk,fun R A ι w a ρc Q hG hA hρ hs hQ=>?_⟩
  simp only [wlo]
  exact key R A ι w a ρc (wlo (wide ρc) 0 C.P os.toArray Q l) _ hG hA hρ hs fun ι' a' w' h1 h2 h3=>ih R A ι' w' a' ρc Q hG h2 (hρ.mono h1) h3 fun ι2 a2 w2 k1 k2 k3=>hQ ι2 a2 w2 (h1.trans k1) k2 k3
end ops
end AI
end GV
end Go.Proofs.YtkkcidhcfkmbjaaGreatDoor

namespace Go.Proofs.YtkkcidhcfkmbjaaGreatDoor
namespace GV
namespace AI
theorem bnd_eq(e:Edge):bnd e=Region.binds .any e:=by
 unfold bnd Region.binds
 cases e.ground<;>rfl
theorem bitK_eq(m i:Nat):bitK m i=m.testBit i:=by
 have h1:bitK m i=Nat.beq ((m>>>i)&&&1) 1:=rfl
 rw [h1,Nat.testBit_eq_decide_div_mod_eq,Nat.and_one_is_mod,Nat.shiftRight_eq_div_pow]
 cases e:decide (m/2^i%2=1) with
 |true=>
  have:=of_decide_eq_true e
  rw [this];rfl
 |false=>
  have h2:=of_decide_eq_false e
  cases e2:Nat.beq (m/2^i%2) 1 with
  |false=>rfl
  |true=>exact absurd (Nat.eq_of_beq_eq_true e2) h2
theorem bitK_lor(a b k:Nat):bitK (Nat.lor a b) k=(bitK a k||bitK b k):=by
 rw [bitK_eq,bitK_eq,bitK_eq]
 exact Nat.testBit_or a b k
theorem bitK_one(i k:Nat):bitK (Nat.shiftLeft 1 i) k=decide (i=k):=by
 rw [bitK_eq]
 have:Nat.shiftLeft 1 i=2^i:=by
  show 1<<<i=_
  rw [Nat.shiftLeft_eq,Nat.one_mul]
 rw [this,Nat.testBit_two_pow]
theorem bitK_zero(k:Nat):bitK 0 k=false:=by rw [bitK_eq];exact Nat.zero_testBit k
theorem nthN_eq(l:List Nat): ∀ i,nthN l i=l.getD i 0:=by
 induction l with
 |nil=>intro i;rfl
 |cons a l ih=>
  intro i
  cases i with
  |zero=>rfl
  |succ i=>exact(ih i).trans (by simp)
/-! ### What an operation waits for-/
theorem ancE_spec{as_:List Nat}{k:Nat}: ∀ (es:List Edge),bitK (ancE as_ es) k=true→ ∃ e∈es,Region.binds .any e=true∧(k=e.on∨bitK (nthN as_ e.on) k=true)
 | [],h=>by
  have h':bitK 0 k=true:=h
  rw [bitK_zero] at h';cases h'
 |e::es,h=>by
  have h':bitK (Bool.casesOn (motive:=fun _=>Nat) (bnd e) (ancE as_ es) (Nat.lor (Nat.lor (Nat.shiftLeft 1 e.on) (nthN as_ e.on)) (ancE as_ es))) k=true:=h
  have more:bitK (ancE as_ es) k=true→ ∃ e'∈e::es,Region.binds .any e'=true∧(k=e'.on∨bitK (nthN as_ e'.on) k=true):=fun h2=>
   let⟨e',h1,h3⟩:=ancE_spec es h2;⟨e',List.mem_cons_of_mem _ h1,h3⟩
  cases hb:bnd e with
  |false=>rw [hb] at h';exact more h'
  |true=>
   rw [hb] at h'
   have h2:bitK (Nat.lor (Nat.lor (Nat.shiftLeft 1 e.on) (nthN as_ e.on)) (ancE as_ es)) k=true:=h'
   rw [bitK_lor,bitK_lor,bitK_one] at h2
   rw [bnd_eq] at hb
   cases h3:decide (e.on=k) with
   |true=>exact⟨e,List.mem_cons_self ..,hb,.inl (of_decide_eq_true h3).symm⟩
   |false=>
    rw [h3] at h2
    cases h4:bitK (nthN as_ e.on) k with
    |true=>exact⟨e,List.mem_cons_self ..,hb,.inr h4⟩
    |false=>rw [h4] at h2;exact more (by simpa using h2)
def ClosedZ(os:List Oper)(Z:Nat→Bool):Prop:= ∀ (k:Nat) o,os[k]? =some o→Z k=true→ ∀ e∈o.after.toList,Region.binds .any e=true→Z e.on=true
theorem ancC_spec{os:List Oper}{Z:Nat→Bool}(hc:ClosedZ os Z): ∀ (l:List Oper) (as_:List Nat),os.drop as_.length=l→
 (∀ (j:Nat) o,j<as_.length→os[j]? =some o→(∀ e∈o.after.toList,Region.binds .any e=true→Z e.on=true)→ ∀ k,bitK (nthN as_ j) k=true→Z k=true)→
 ∀ (j:Nat) o,os[j]? =some o→(∀ e∈o.after.toList,Region.binds .any e=true→Z e.on=true)→ ∀ k,bitK (nthN (ancC l as_) j) k=true→Z k=true
 | [],as_,hl,hp,j,o,ho,he,k,hk=>by
  have h1:os.length≤as_.length:=by simpa using hl
  exact hp j o (by have:=(List.getElem?_eq_some_iff.1 ho).1;omega) ho he k hk
 |o0::l,as_,hl,hp,j,o,ho,he,k,hk=>by
  have h1:ancC (o0::l) as_=ancC l (as_++[ancE as_ o0.after.toList]):=by
   show fN (ancE as_ o0.after.toList) (fun m=>fL (as_++[m]) (ancC l))=_
   rw [fN_eq,fL_eq]
  rw [h1] at hk
  have h0:os[as_.length]? =some o0:=by
   have:=congrArg (fun l=>l[0]?) hl
   simpa using this
  refine ancC_spec hc l _ ?_ ?_ j o ho he k hk
  ·rw [List.length_append,List.length_singleton,←List.drop_drop,hl];rfl
  ·intro j' o' hj' ho' he' k' hk'
   rw [List.length_append,List.length_singleton] at hj'
   rw [nthN_eq] at hk'
   by_cases e:j'=as_.length
   ·subst e
    have:(as_++[ancE as_ o0.after.toList]).getD as_.length 0=ancE as_ o0.after.toList:=by simp
    rw [this] at hk'
    rw [h0] at ho';cases ho'
    obtain⟨e,h2,h3,h4⟩:=ancE_spec _ hk'
    have hz:=he' e h2 h3
    rcases h4 with rfl|h4
    ·exact hz
    ·have hlt:e.on<as_.length:=by
      rcases Nat.lt_or_ge e.on as_.length with h5|h5
      ·exact h5
      ·rw [nthN_eq,List.getD_eq_getElem?_getD,List.getElem?_eq_none h5] at h4
       have h6:bitK 0 k'=true:=h4
       rw [bitK_zero] at h6;cases h6
     have hos:e.on<os.length:=by
      have:=(List.getElem?_eq_some_iff.1 h0).1
      omega
     exact hp e.on _ hlt (List.getElem?_eq_getElem hos) (hc _ _ (List.getElem?_eq_getElem hos) hz) k' h4
   ·have hlt:j'<as_.length:=by omega
    have:(as_++[ancE as_ o0.after.toList]).getD j' 0=as_.getD j' 0:=by
     simp only [List.getD_eq_getElem?_getD,List.getElem?_append_left hlt]
    rw [this,←nthN_eq] at hk'
    exact hp j' o' hlt ho' he' k' hk'
theorem anc_listed{os:List Oper}{Z:Nat→Bool}(hc:ClosedZ os Z){j:Nat}{o:Oper}(ho:os[j]? =some o)(he: ∀ e∈o.after.toList,Region.binds .any e=true→Z e.on=true){k:Nat}
 (hb:bitK (nthN (ancs os) j) k=true):Z k=true:=
 ancC_spec hc os [] rfl (fun j o hj=>absurd hj (Nat.not_lt_zero _)) j o ho he k hb
/-! ### Slots-/
theorem opM_base{m k:Nat}(h:bitK m k=true): ∀ (l:List Operand),bitK (opM l m) k=true
 | []=>h
 |x::l=>by
  have ih:=opM_base h l
  show bitK (tmpM x (opM l m)) k=true
  unfold tmpM
  split
  ·rw [bitK_lor,ih,Bool.or_true]
  ·exact ih
theorem opM_mem{m k:Nat}: ∀ (l:List Operand),.tmp k∈l→bitK (opM l m) k=true
 |x::l,h=>by
  show bitK (tmpM x (opM l m)) k=true
  rcases List.mem_cons.1 h with e|h
  ·subst e
   show bitK (Nat.lor (Nat.shiftLeft 1 k) (opM l m)) k=true
   rw [bitK_lor,bitK_one];simp
  ·have ih:=opM_mem (m:=m) l h
   unfold tmpM
   split
   ·rw [bitK_lor,ih,Bool.or_true]
   ·exact ih
theorem rmO_op{os:List Oper}{o:Oper}{k:Nat}(h: .tmp k∈o.op.operands):bitK (rmO os o) k=true:=opM_mem _ (Array.mem_toList_iff.2 h)
theorem rmO_guard{os:List Oper}{o:Oper}{g:Nat×Bool}{d:Nat}(hg:o.guard=some g)(hd:dstA os g.1=some d):bitK (rmO os o) d=true:=by
 refine opM_base ?_ _
 rw [hg]
 simp only [hd]
 rw [bitK_one];simp
theorem noB_spec{m:Nat}{x:Option Nat}(h:noB m x=true){d:Nat}(hd:x=some d):bitK m d=false:=by
 subst hd
 have h':Bool.not (bitK m d)=true:=h
 simpa using h'
theorem dne_spec{x y:Option Nat}(h:dne x y=true){d:Nat}(hx:x=some d)(hy:y=some d):False:=by
 subst hx hy
 have h':Bool.not (Nat.beq d d)=true:=h
 rw [Nat.beq_refl] at h';cases h'
theorem and3{a b c d:Bool}(h:Bool.and a (Bool.and b (Bool.and c d))=true):a=true∧b=true∧c=true∧d=true:=by
 cases a<;>cases b<;>cases c<;>cases d<;>first|exact⟨rfl,rfl,rfl,rfl⟩|cases h
structure Apart (os:List Oper) (x y:Oper):Prop where
 l: ∀ d,y.dst=some d→bitK (rmO os x) d=false
 r: ∀ d,x.dst=some d→bitK (rmO os y) d=false
 d: ∀ d,x.dst=some d→y.dst=some d→False
 c:clsOk (cls x.op) (cls y.op)=true
theorem pairOk_spec{os:List Oper}{x y:Oper}{i j:Nat}(h:pairOk ⟨i,rmO os x,x.dst,cls x.op⟩ ⟨j,rmO os y,y.dst,cls y.op⟩=true):Apart os x y:=
 let⟨a,b,c,d⟩:=and3 h;⟨fun k hk=>noB_spec a hk,fun k hk=>noB_spec b hk,fun k h1 h2=>dne_spec c h1 h2,d⟩
theorem allP_spec{a:Nat}{b:Inf}: ∀ (dn:List Inf),allP a b dn=true→ ∀ q∈dn,bitK a q.i=true∨pairOk q b=true
 |q::l,h,q',hq=>by
  have h':Bool.casesOn (motive:=fun _=>Bool) (Bool.or (bitK a q.i) (pairOk q b)) false (allP a b l)=true:=h
  cases hx:Bool.or (bitK a q.i) (pairOk q b) with
  |false=>rw [hx] at h';cases h'
  |true=>
   rw [hx] at h'
   rcases List.mem_cons.1 hq with rfl|hq
   ·cases h1:bitK a q'.i with
    |true=>exact .inl rfl
    |false=>rw [h1] at hx;exact .inr hx
   ·exact allP_spec l h' q' hq
theorem allE_spec{j:Nat}: ∀ (es:List Edge),allE j es=true→ ∀ e∈es,Region.binds .any e=true→e.on<j
 |e::l,h,e',he,hb=>by
  have h':Bool.casesOn (motive:=fun _=>Bool) (Bool.or (Bool.not (bnd e)) (Nat.blt e.on j)) false (allE j l)=true:=h
  cases hx:Bool.or (Bool.not (bnd e)) (Nat.blt e.on j) with
  |false=>rw [hx] at h';cases h'
  |true=>
   rw [hx] at h'
   rcases List.mem_cons.1 he with rfl|he
   ·rw [bnd_eq,hb] at hx
    exact blt_true hx
   ·exact allE_spec l h' e' he hb
theorem drOkL_spec{os:List Oper}{as_:List Nat}: ∀ (l:List Oper) (j:Nat) (dn:List Inf),os.drop j=l→(∀ i o,i<j→os[i]? =some o→⟨i,rmO os o,o.dst,cls o.op⟩∈dn)→drOkL os as_ l j dn=true→
 ∀ (k:Nat) o,j≤k→os[k]? =some o→cls o.op≤2∧(∀ e∈o.after.toList,Region.binds .any e=true→e.on<k)∧ ∀ (i:Nat) o',i<k→os[i]? =some o'→bitK (nthN as_ k) i=true∨Apart os o' o
 | [],j,dn,hl,hd,h,k,o,hk,ho=>by
  have h1:os.length≤j:=by simpa using hl
  have:=(List.getElem?_eq_some_iff.1 ho).1
  omega
 |o0::l,j,dn,hl,hd,h,k,o,hk,ho=>by
  have h0:os[j]? =some o0:=by
   have:=congrArg (fun l=>l[0]?) hl
   simpa using this
  have h':Bool.and (Nat.ble (cls o0.op) 2) (Bool.and (allE j o0.after.toList) (Bool.and (allP (nthN as_ j) ⟨j,rmO os o0,o0.dst,cls o0.op⟩ dn) (drOkL os as_ l (Nat.succ j) (⟨j,rmO os o0,o0.dst,cls o0.op⟩::dn))))=true:=by
   have:fN (rmO os o0) (fun m=>Bool.and (Nat.ble (cls o0.op) 2) (Bool.and (allE j o0.after.toList) (Bool.and (allP (nthN as_ j) ⟨j,m,o0.dst,cls o0.op⟩ dn) (drOkL os as_ l (Nat.succ j) (⟨j,m,o0.dst,cls o0.op⟩::dn)))))=true:=h
   rwa [fN_eq] at this
  obtain⟨a,b,c,d⟩:=and3 h'
  by_cases e:k=j
  ·subst e
   rw [h0] at ho;cases ho
   refine⟨Nat.le_of_ble_eq_true a,allE_spec _ b,fun i o' hi ho'=>?_⟩
   rcases allP_spec _ c _ (hd i o' hi ho') with h1|h1
   ·exact .inl h1
   ·exact .inr (pairOk_spec h1)
  ·refine drOkL_spec l (j+1) _ ?_ ?_ d k o (by omega) ho
   ·rw [←List.drop_drop,hl];rfl
   ·intro i o' hi ho'
    by_cases e2:i=j
    ·subst e2
     rw [h0] at ho';cases ho'
     exact List.mem_cons_self ..
    ·exact List.mem_cons_of_mem _ (hd i o' (by omega) ho')
structure DrS (os:List Oper):Prop where
 cls: ∀ (k:Nat) o,os[k]? =some o→cls o.op≤2
 back: ∀ (k:Nat) o,os[k]? =some o→ ∀ e∈o.after.toList,Region.binds .any e=true→e.on<k
 pair: ∀ (i j:Nat) x y,i<j→os[i]? =some x→os[j]? =some y→bitK (nthN (ancs os) j) i=true∨Apart os x y
theorem drOk_spec{os:List Oper}(h:drOk os=true):DrS os:=by
 have key:=drOkL_spec (as_:=ancs os) os 0 [] rfl (fun i o hi=>absurd hi (Nat.not_lt_zero _)) h
 exact⟨fun k o ho=>(key k o (Nat.zero_le _) ho).1,fun k o ho=>(key k o (Nat.zero_le _) ho).2.1,fun i j x y hij hx hy=>(key j y (Nat.zero_le _) hy).2.2 i x hij hx⟩
end AI
end GV
end Go.Proofs.YtkkcidhcfkmbjaaGreatDoor

namespace Go.Proofs.YtkkcidhcfkmbjaaGreatDoor
namespace GV
namespace AI
structure Ent where
 o:Oper
 t:TB
 S:HP
 nx:Nat
 k:Nat
 v:AV
 b:AB
 S':HP
 nx':Nat
structure Fs where
 f:Nat→AV
 h:Nat→AB
 B:Nat→AB
 us:Nat→Bool
def updo(d:Option Nat)(v:AV)(f:Nat→AV):Nat→AV:=fun j=>if d=some j then v else f j
noncomputable def eH(e:Ent)(h:Nat→AB):Nat→AB:=if e.k=0 then h else if e.k=1 then fun j=>if j=e.nx then e.b else h j else hg e.S'
noncomputable def eB(e:Ent)(B:Nat→AB):Nat→AB:=if e.k=0 then B else if e.k=1 then B else hg e.S'
def eU(e:Ent)(us:Nat→Bool):Nat→Bool:=if e.k=0 then us else if e.k=1 then fun j=>decide (j=e.nx)||us j else fun j=>decide (j<e.nx')
noncomputable def eff(e:Ent)(s:Fs):Fs:=⟨updo e.o.dst e.v s.f,eH e s.h,eB e s.B,eU e s.us⟩
noncomputable def foldZ(Z:Nat→Bool):Nat→List Ent→Fs→Fs
 |_,[],s=>s
 |i,e::l,s=>foldZ Z (i+1) l (if Z i=true then eff e s else s)
theorem foldZ_congr{Z Z':Nat→Bool}: ∀ (l:List Ent) (i:Nat) (s:Fs),(∀ j,i≤j→Z j=Z' j)→foldZ Z i l s=foldZ Z' i l s
 | [],_,_,_=>rfl
 |e::l,i,s,h=>by
  simp only [foldZ]
  rw [h i (Nat.le_refl _)]
  exact foldZ_congr l (i+1) _ fun j hj=>h j (by omega)
theorem foldZ_f{Z Z':Nat→Bool}{k:Nat}: ∀ (l:List Ent) (i:Nat) (s s':Fs),s.f k=s'.f k→(∀ j e,l[j]? =some e→e.o.dst=some k→Z (i+j)=Z' (i+j))→(foldZ Z i l s).f k=(foldZ Z' i l s').f k
 | [],_,_,_,h,_=>h
 |e::l,i,s,s',h,hz=>by
  simp only [foldZ]
  refine foldZ_f l (i+1) _ _ ?_ fun j e' hj hd=>by have:=hz (j+1) e' (by simpa using hj) hd;rwa [show i+(j+1)=i+1+j from by omega] at this
  by_cases hd:e.o.dst=some k
  ·have:=hz 0 e rfl hd
   rw [Nat.add_zero] at this
   rw [this]
   split
   ·show updo _ _ _ k=updo _ _ _ k
    unfold updo;rw [if_pos hd,if_pos hd]
   ·exact h
  ·have key: ∀ s:Fs,(eff e s).f k=s.f k:=fun s=>by
    show updo _ _ _ k=_
    unfold updo;rw [if_neg hd]
   have key2: ∀ (b:Bool) (s:Fs),(if b=true then eff e s else s).f k=s.f k:=fun b s=>by
    cases b
    ·rfl
    ·exact key s
   rw [key2,key2];exact h
theorem foldZ_h{Z Z':Nat→Bool}: ∀ (l:List Ent) (i:Nat) (s s':Fs),(s.h=s'.h∧s.B=s'.B∧s.us=s'.us)→(∀ j e,l[j]? =some e→e.k≠0→Z (i+j)=Z' (i+j))→
 (foldZ Z i l s).h=(foldZ Z' i l s').h∧(foldZ Z i l s).B=(foldZ Z' i l s').B∧(foldZ Z i l s).us=(foldZ Z' i l s').us
 | [],_,_,_,h,_=>h
 |e::l,i,s,s',h,hz=>by
  simp only [foldZ]
  refine foldZ_h l (i+1) _ _ ?_ fun j e' hj hd=>by have:=hz (j+1) e' (by simpa using hj) hd;rwa [show i+(j+1)=i+1+j from by omega] at this
  obtain⟨h1,h2,h3⟩:=h
  by_cases hk:e.k=0
  ·have key2: ∀ (b:Bool) (s:Fs),(if b=true then eff e s else s).h=s.h∧(if b=true then eff e s else s).B=s.B∧(if b=true then eff e s else s).us=s.us:=fun b s=>by
    cases b
    ·exact⟨rfl,rfl,rfl⟩
    ·refine⟨?_,?_,?_⟩
     ·show eH e s.h=_
      unfold eH;rw [if_pos hk]
     ·show eB e s.B=_
      unfold eB;rw [if_pos hk]
     ·show eU e s.us=_
      unfold eU;rw [if_pos hk]
   obtain⟨a1,a2,a3⟩:=key2 (Z i) s
   obtain⟨b1,b2,b3⟩:=key2 (Z' i) s'
   rw [a1,a2,a3,b1,b2,b3]
   exact⟨h1,h2,h3⟩
  ·have:=hz 0 e rfl hk
   rw [Nat.add_zero] at this
   rw [this]
   split
   ·refine⟨?_,?_,?_⟩
    ·show eH e s.h=eH e s'.h
     rw [h1]
    ·show eB e s.B=eB e s'.B
     rw [h2]
    ·show eU e s.us=eU e s'.us
     rw [h3]
   ·exact⟨h1,h2,h3⟩
def Comm(e e':Ent):Prop:= ∀ s,eff e' (eff e s)=eff e (eff e' s)
theorem foldZ_push{Z:Nat→Bool}{e:Ent}: ∀ (l:List Ent) (i:Nat) (s:Fs),(∀ j e',l[j]? =some e'→Z (i+j)=true→Comm e e')→foldZ Z i l (eff e s)=eff e (foldZ Z i l s)
 | [],_,_,_=>rfl
 |e'::l,i,s,h=>by
  simp only [foldZ]
  have hl: ∀ j e'',l[j]? =some e''→Z (i+1+j)=true→Comm e e'':=fun j e'' hj hz=>h (j+1) e'' (by simpa using hj) (by rwa [show i+(j+1)=i+1+j from by omega])
  by_cases hz:Z i=true
  ·rw [if_pos hz,if_pos hz,h 0 e' rfl (by simpa using hz) s]
   exact foldZ_push l (i+1) _ hl
  ·rw [if_neg hz,if_neg hz]
   exact foldZ_push l (i+1) _ hl
theorem foldZ_add{Z Z':Nat→Bool}{m:Nat}(h1:Z' m=true)(h2: ∀ j,j≠m→Z' j=Z j)(h3:Z m=false): ∀ (l:List Ent) (i:Nat) (s:Fs) (j:Nat) (e:Ent),l[j]? =some e→i+j=m→
 (∀ r e',j<r→l[r]? =some e'→Z (i+r)=true→Comm e e')→foldZ Z' i l s=eff e (foldZ Z i l s)
 | [],_,_,j,_,h,_,_=>by simp at h
 |e0::l,i,s,0,e,h,hm,hc=>by
  have h':e0=e:=by simpa using h
  subst h'
  have hm':i=m:=by omega
  subst hm'
  simp only [foldZ]
  rw [if_pos h1,if_neg (by rw [h3];simp),foldZ_congr l (i+1) _ (fun j hj=>h2 j (by omega))]
  exact foldZ_push l (i+1) _ fun j e' hj hz=>hc (j+1) e' (by omega) (by simpa using hj) (by rwa [show i+(j+1)=i+1+j from by omega])
 |e0::l,i,s,j+1,e,h,hm,hc=>by
  simp only [foldZ]
  rw [h2 i (by omega)]
  exact foldZ_add h1 h2 h3 l (i+1) _ j e (by simpa using h) (by omega) fun r e' hr hl hz=>hc (r+1) e' (by omega) (by simpa using hl) (by rwa [show i+(r+1)=i+1+r from by omega])
theorem foldZ_B{Z:Nat→Bool}: ∀ (l:List Ent) (i:Nat) (s:Fs),((foldZ Z i l s).B=s.B∧ ∀ r e',l[r]? =some e'→Z (i+r)=true→e'.k<2)∨
 ∃ j e,l[j]? =some e∧Z (i+j)=true∧2≤e.k∧(foldZ Z i l s).B=hg e.S'∧ ∀ r e',j<r→l[r]? =some e'→Z (i+r)=true→e'.k<2
 | [],i,s=> .inl ⟨rfl,fun r e' h=>by simp at h⟩
 |e::l,i,s=>by
  simp only [foldZ]
  rcases foldZ_B (Z:=Z) l (i+1) (if Z i=true then eff e s else s) with⟨h1,h2⟩|⟨j,e',h1,h2,h3,h4,h5⟩
  ·by_cases hz:Z i=true
   ·by_cases hk:2≤e.k
    ·refine .inr ⟨0,e,rfl,by simpa using hz,hk,?_,fun r e' hr hl hz'=>?_⟩
     ·rw [h1,if_pos hz]
      show eB e s.B=_
      unfold eB
      rw [if_neg (by omega),if_neg (by omega)]
     ·cases r with
      |zero=>omega
      |succ r=>exact h2 r e' (by simpa using hl) (by rwa [show i+(r+1)=i+1+r from by omega] at hz')
    ·refine .inl ⟨?_,fun r e' hl hz'=>?_⟩
     ·rw [h1,if_pos hz]
      show eB e s.B=_
      unfold eB
      by_cases k0:e.k=0
      ·rw [if_pos k0]
      ·rw [if_neg k0,if_pos (by omega)]
     ·cases r with
      |zero=>
       have:e=e':=by simpa using hl
       subst this;omega
      |succ r=>exact h2 r e' (by simpa using hl) (by rwa [show i+(r+1)=i+1+r from by omega] at hz')
   ·refine .inl ⟨by rw [h1,if_neg hz],fun r e' hl hz'=>?_⟩
    cases r with
    |zero=>exact absurd (by simpa using hz') hz
    |succ r=>exact h2 r e' (by simpa using hl) (by rwa [show i+(r+1)=i+1+r from by omega] at hz')
  ·refine .inr ⟨j+1,e',by simpa using h1,by rwa [show i+(j+1)=i+1+j from by omega],h3,h4,fun r e'' hr hl hz'=>?_⟩
   cases r with
   |zero=>omega
   |succ r=>exact h5 r e'' (by omega) (by simpa using hl) (by rwa [show i+(r+1)=i+1+r from by omega] at hz')
theorem foldZ_us{Z:Nat→Bool}{m:Nat}: ∀ (l:List Ent) (i:Nat) (s:Fs),s.us m=false→(∀ j e,l[j]? =some e→Z (i+j)=true→(e.k=1→e.nx≠m)∧(2≤e.k→e.nx'≤m))→(foldZ Z i l s).us m=false
 | [],_,_,h,_=>h
 |e::l,i,s,h,hz=>by
  simp only [foldZ]
  refine foldZ_us l (i+1) _ ?_ fun j e' hj hd=>hz (j+1) e' (by simpa using hj) (by rwa [show i+(j+1)=i+1+j from by omega])
  split
  ·rename_i hzi
   obtain⟨h1,h2⟩:=hz 0 e rfl (by simpa using hzi)
   show eU e s.us m=false
   unfold eU
   by_cases k0:e.k=0
   ·rw [if_pos k0];exact h
   ·rw [if_neg k0]
    by_cases k1:e.k=1
    ·rw [if_pos k1]
     have:=h1 k1
     show (decide (m=e.nx)||s.us m)=false
     rw [h,Bool.or_false]
     exact decide_eq_false (fun e'=>this e'.symm)
    ·rw [if_neg k1]
     have:=h2 (by omega)
     exact decide_eq_false (by omega)
  ·exact h
theorem comm_of{os:List Oper}{e e':Ent}(ha:Apart os e.o e'.o)(hk:e.k=0∨e'.k=0∨(e.k=1∧e'.k=1∧e.nx≠e'.nx)):Comm e e':=fun s=>by
 have hf:updo e'.o.dst e'.v (updo e.o.dst e.v s.f)=updo e.o.dst e.v (updo e'.o.dst e'.v s.f):=by
  funext j
  unfold updo
  by_cases h1:e.o.dst=some j
  ·have h2: ¬e'.o.dst=some j:=fun h2=>ha.d j h1 h2
   simp [h1,h2]
  ·simp [h1]
 have hm:eH e' (eH e s.h)=eH e (eH e' s.h)∧eB e' (eB e s.B)=eB e (eB e' s.B)∧eU e' (eU e s.us)=eU e (eU e' s.us):=by
  rcases hk with hk|hk|⟨h1,h2,h3⟩
  ·simp [eH,eB,eU,hk]
  ·simp [eH,eB,eU,hk]
  ·refine⟨?_,?_,?_⟩
   ·simp [eH,h1,h2]
    funext j
    by_cases a:j=e.nx
    ·have: ¬j=e'.nx:=fun b=>h3 (a.symm.trans b)
     simp [a,h3]
    ·simp [a]
   ·simp [eB,h1,h2]
   ·simp [eU,h1,h2]
    funext j
    rw [←Bool.or_assoc,←Bool.or_assoc,Bool.or_comm (decide (j=e'.nx))]
 show Fs.mk _ _ _ _=Fs.mk _ _ _ _
 simp only [eff]
 rw [hf,hm.1,hm.2.1,hm.2.2]
end AI
end GV
end Go.Proofs.YtkkcidhcfkmbjaaGreatDoor

namespace Go.Proofs.YtkkcidhcfkmbjaaGreatDoor
namespace GV
namespace AI
theorem Out.ex{P:Program}{K:Value→World→Prop}{x:Result Next}(h:Out P K x): ∃ v w,K v w:=by
 cases x with
 |halt x y=>exact h.elim
 |ok nx w1=>
  cases nx with
  |value v=>exact⟨_,_,h⟩
  |skip=>exact⟨_,_,h⟩
  |enter f args=>obtain⟨e,w',fr,⟨v,_,a⟩,_⟩:=h [];exact⟨v,w',a⟩
  |round l f tmps as_ b=>obtain⟨e,w',⟨v,_,a⟩,_⟩:=h.2 default [] (wide_room none _);exact⟨v,w',a⟩
  |_=>exact h.elim
def WantS(os:List Oper)(o:Oper)(t:TB)(x:Bool):Prop:=
 ∀ (ι:Io) (a:Act),(∀ g d,o.guard=some g→dstA os g.1=some d→VR ι (gt t d (.tu [])) (a.tmps.getD d undef))→Region.wanted o (yielded os.toArray a.tmps)=x
def PutS(n:Nat)(t:TB)(d:Option Nat)(v:AV)(t1:TB):Prop:=(∀ k,d=some k→k<n)∧(dpq t≤4→n≤256→dpq t1≤4∧(fun j=>gt t1 j (.tu []))=updo d v (fun j=>gt t j (.tu [])))
structure EntOk (C:Cf) (os:List Oper) (n:Nat) (e:Ent):Prop where
 le:e.nx≤e.nx'
 kk:e.k=0∨e.k=cls e.o.op
 k0:e.k=0→e.S'=e.S∧e.nx'=e.nx
 k1:e.k=1→Upd e.S e.S' e.nx e.b∧e.nx'=e.nx+1
 sem:(WantS os e.o e.t false∧e.k=0∧e.v= .tu [])∨(WantS os e.o e.t true∧
  ((e.k=0∧RdS C e.o e.t e.S e.v)∨(e.k=1∧ ∃ g,NwS C e.o e.t e.b g∧e.v=g e.nx)∨(2≤e.k∧XS C e.o e.t e.S e.nx e.v e.S' e.nx')))
def Trc(C:Cf)(os:List Oper)(n:Nat):List Ent→List Oper→TB→HP→Nat→TB→HP→Nat→Prop
 | [],l,t,S,nx,T,S',nx'=>l=[]∧t=T∧S=S'∧nx=nx'
 |e::es,l,t,S,nx,T,S',nx'=> ∃ l',l=e.o::l'∧e.t=t∧e.S=S∧e.nx=nx∧EntOk C os n e∧ ∃ t1,PutS n t e.o.dst e.v t1∧Trc C os n es l' t1 e.S' e.nx' T S' nx'
section run
variable {C : Cf} {β : Type} {r : β} {h : H β} {S : HP} {nx : Nat} {t : TB}
theorem wantS_some{os:List Oper}{o:Oper}{K:Bool→Option β}(hk:wantK os o t K=some r): ∃ x,K x=some r∧WantS os o t x:=by
 unfold wantK at hk
 cases hg:o.guard with
 |none=>rw [hg] at hk;exact⟨true,hk,fun _ _ _=>wanted_none hg⟩
 |some g=>
  rw [hg] at hk
  obtain⟨d,hd,hk⟩:=ob_some hk
  rw [getK_eq] at hk
  have hw: ∀ a:Act,Region.wanted o (yielded os.toArray a.tmps)=(yielded os.toArray a.tmps g.1==some g.2):=fun a=>by simp only [Region.wanted,hg]
  have hy: ∀ a:Act,yielded os.toArray a.tmps g.1=match a.tmps[d]? with
   |some (.bool b)=>some b
   |_=>none:=fun a=>by
   have:=dstA_eq hd
   unfold guardSlot at this
   unfold yielded
   rw [this];rfl
  have hget: ∀ a:Act,a.tmps.getD d undef=(a.tmps[d]?).getD undef:=fun a=>Array.getD_eq_getD_getElem? ..
  cases hu:isU (gt t d (.tu [])) with
  |true=>
   rw [hu] at hk
   refine⟨false,hk,fun ι a hA=>?_⟩
   have hv:=hA g d hg hd
   have e:gt t d (.tu [])= .tu []:=by
    unfold isU at hu
    split at hu
    ·assumption
    ·cases hu
   rw [e,VR] at hv
   obtain⟨vs,h1,h2⟩:=hv
   rw [hw,hy]
   rw [hget] at h1
   cases h3:a.tmps[d]? with
   |none=>rfl
   |some u=>rw [h3] at h1;simp only [Option.getD_some] at h1;rw [h1];rfl
  |false=>
   rw [hu] at hk
   obtain⟨x,hx,hk⟩:=asB_some (show asB (gt t d (.tu [])) (fun x=>fB (x==g.2) K)=some r from hk)
   rw [fB_eq] at hk
   refine⟨_,hk,fun ι a hA=>?_⟩
   have hv:=hA g d hg hd
   rw [hx,VR] at hv
   rw [hw,hy]
   rw [hget] at hv
   cases h3:a.tmps[d]? with
   |none=>rw [h3] at hv;cases hv
   |some u=>rw [h3] at hv;simp only [Option.getD_some] at hv;rw [hv];rfl
theorem putS_some{n:Nat}{d:Option Nat}{v:AV}{K:TB→Option β}(hk:putK n t d v K=some r): ∃ t',K t'=some r∧PutS n t d v t':=by
 cases d with
 |none=>exact⟨t,hk,fun k e=>(by cases e),fun hd _=>⟨hd,by funext j;unfold updo;rw [if_neg (by simp)]⟩⟩
 |some k=>
  obtain⟨h1,hk⟩:=og_some (show og (Nat.blt k n) (setK 4 t k v K)=some r from hk)
  have hlt:=blt_true h1
  obtain⟨t',e,key⟩:=setK_app (β:=Option β) 4 t k v
  rw [e] at hk
  refine⟨t',hk,fun k' e=>(by cases e;exact hlt),fun hd hn=>?_⟩
  obtain⟨a1,a2⟩:=key hd (by omega)
  refine⟨a1,?_⟩
  funext j
  have:=a2 j (.tu [])
  unfold updo
  by_cases e:j=k
  ·subst e;rw [if_pos rfl];rw [if_pos rfl] at this;exact this
  ·rw [if_neg (fun q=>e (by cases q;rfl))];rw [if_neg e] at this;exact this
theorem mfree_all{o:Oper}(hm:mfree o.op=true){K:AV→Option β}(hk:rdK o.op C t S K=some r): ∃ v,(∀ S',RdS C o t S' v)∧K v=some r:=by
 have he:rdK o.op C t .e K=some r:=by
  obtain⟨d,op,ty,pos,af,g⟩:=o
  cases op<;>first|exact hk|cases hm
 obtain⟨v,h1,h2⟩:=rdK_some he
 refine⟨v,fun S' ι w ρ ho hM=>h1 ι w ρ ho ⟨fun id hid=>absurd rfl hid,hM.gl⟩,h2⟩
abbrev Rd1:Type:=Nat×Op×TB×AV
def RdE(C:Cf)(os:List Oper)(rd:List Rd1)(i:Nat)(e:Ent):Prop:=WantS os e.o e.t false∨e.k≠0∨(∀ S',RdS C e.o e.t S' e.v)∨(i,e.o.op,e.t,e.v)∈rd
theorem RdE.mono{os:List Oper}{rd rd':List Rd1}{i:Nat}{e:Ent}(hs: ∀ q∈rd,q∈rd')(h:RdE C os rd i e):RdE C os rd' i e:=by
 rcases h with h|h|h|h
 ·exact .inl h
 ·exact .inr (.inl h)
 ·exact .inr (.inr (.inl h))
 ·exact .inr (.inr (.inr (hs _ h)))
theorem goD_some{os:List Oper}{n:Nat}{o:Oper}{i:Nat}{ph:List (Nat×HP)}{rd:List Rd1}{xm:Nat}{K:DK β}(hC:C.Ok)(hh:HOk C h)(hw:WantS os o t true)(hk:goD C h n o i t S nx ph rd xm K=some r):
 ∃ e t1 ph' rd' xm',e.o=o∧e.t=t∧e.S=S∧e.nx=nx∧EntOk C os n e∧PutS n t o.dst e.v t1∧(∀ q∈ph,q∈ph')∧(∀ q∈rd,q∈rd')∧(2≤e.k→(i+1,e.S')∈ph')∧
  (∀ b,bitK xm' b=true→bitK xm b=true∨(2≤e.k∧b=i))∧RdE C os rd' i e∧K t1 e.S' e.nx' ph' rd' xm'=some r:=by
 unfold goD at hk
 cases hc:cls o.op with
 |zero=>
  rw [hc] at hk
  have hk':rdK o.op C t S (fun v=>putK n t o.dst v fun t'=>Bool.casesOn (motive:=fun _=>Option β) (mfree o.op) (K t' S nx ph ((i,o.op,t,v)::rd) xm) (K t' S nx ph rd xm))=some r:=hk
  cases hm:mfree o.op with
  |false=>
   rw [hm] at hk'
   obtain⟨v,h1,h2⟩:=rdK_some hk'
   obtain⟨t1,h3,h4⟩:=putS_some h2
   exact⟨⟨o,t,S,nx,0,v,.x,S,nx⟩,t1,ph,(i,o.op,t,v)::rd,xm,rfl,rfl,rfl,rfl,⟨Nat.le_refl _,.inl rfl,fun _=>⟨rfl,rfl⟩,fun e=>(by cases e),.inr ⟨hw,.inl ⟨rfl,h1⟩⟩⟩,h4,fun q hq=>hq,fun q hq=>List.mem_cons_of_mem _ hq,fun e=>(by simp at e),fun b hb=> .inl hb,.inr (.inr (.inr (List.mem_cons_self ..))),h3⟩
  |true=>
   rw [hm] at hk'
   obtain⟨v,h1,h2⟩:=mfree_all hm hk'
   obtain⟨t1,h3,h4⟩:=putS_some h2
   exact⟨⟨o,t,S,nx,0,v,.x,S,nx⟩,t1,ph,rd,xm,rfl,rfl,rfl,rfl,⟨Nat.le_refl _,.inl rfl,fun _=>⟨rfl,rfl⟩,fun e=>(by cases e),.inr ⟨hw,.inl ⟨rfl,h1 S⟩⟩⟩,h4,fun q hq=>hq,fun q hq=>hq,fun e=>(by simp at e),fun b hb=> .inl hb,.inr (.inr (.inl h1)),h3⟩
 |succ j=>
  rw [hc] at hk
  cases j with
  |zero=>
   obtain⟨b,g,h1,h2,h3⟩:=nwK_some (show nwK o.op C t (fun b g=>newK S nx b fun S' nx'=>putK n t o.dst (g nx) fun t'=>K t' S' nx' ph rd xm)=some r from hk)
   obtain⟨S',hU,h4⟩:=newK_some h3
   obtain⟨t1,h5,h6⟩:=putS_some h4
   exact⟨⟨o,t,S,nx,1,g nx,b,S',nx+1⟩,t1,ph,rd,xm,rfl,rfl,rfl,rfl,⟨Nat.le_succ _,.inr hc.symm,fun e=>(by cases e),fun _=>⟨hU,rfl⟩,.inr ⟨hw,.inr (.inl ⟨rfl,g,h1,rfl⟩)⟩⟩,h6,fun q hq=>hq,fun q hq=>hq,fun e=>(by simp at e),fun b hb=> .inl hb,.inr (.inl (by simp)),h5⟩
  |succ j=>
   rcases oz_some hk with⟨hj,h1⟩|⟨_,h1⟩
   ·subst hj
    obtain⟨v,S',nx',hx,h2⟩:=actK_some hC hh h1
    obtain⟨hle,h3⟩:=og_some h2
    obtain⟨t1,h4,h5⟩:=putS_some h3
    rw [fN_eq] at h4
    refine⟨⟨o,t,S,nx,2,v,.x,S',nx'⟩,t1,(Nat.succ i,S')::ph,rd,Nat.lor (Nat.shiftLeft 1 i) xm,rfl,rfl,rfl,rfl,⟨Nat.le_of_ble_eq_true hle,.inr hc.symm,fun e=>(by cases e),fun e=>(by cases e),.inr ⟨hw,.inr (.inr ⟨Nat.le_refl _,hx⟩)⟩⟩,h5,fun q hq=>List.mem_cons_of_mem _ hq,fun q hq=>hq,fun _=>List.mem_cons_self ..,fun b hb=>?_,.inr (.inl (by simp)),h4⟩
    rw [bitK_lor,bitK_one] at hb
    cases h6:decide (i=b) with
    |true=>exact .inr ⟨Nat.le_refl _,(of_decide_eq_true h6).symm⟩
    |false=>rw [h6] at hb;exact .inl (by simpa using hb)
   ·cases h1
theorem drL_some{os:List Oper}{n:Nat}{K:DK β}(hC:C.Ok)(hh:HOk C h): ∀ (l:List Oper) (i:Nat) (t:TB) (S:HP) (nx:Nat) (ph:List (Nat×HP)) (rd:List Rd1) (xm:Nat),drL C h os n K l i t S nx ph rd xm=some r→
 ∃ es T S' nx' ph' rd' xm',K T S' nx' ph' rd' xm'=some r∧Trc C os n es l t S nx T S' nx'∧(∀ q∈ph,q∈ph')∧(∀ q∈rd,q∈rd')∧(∀ j e,es[j]? =some e→2≤e.k→(i+j+1,e.S')∈ph')∧
  (∀ b,bitK xm' b=true→bitK xm b=true∨ ∃ j e,es[j]? =some e∧2≤e.k∧b=i+j)∧(∀ j e,es[j]? =some e→RdE C os rd' (i+j) e)
 | [],i,t,S,nx,ph,rd,xm,hk=>⟨[],t,S,nx,ph,rd,xm,hk,⟨rfl,rfl,rfl,rfl⟩,fun q hq=>hq,fun q hq=>hq,fun j e hj=>(by simp at hj),fun b hb=> .inl hb,fun j e hj=>by simp at hj⟩
 |o::l,i,t,S,nx,ph,rd,xm,hk=>by
  have hk':wantK os o t (fun w=>Bool.casesOn (motive:=fun _=>Option β) w (putK n t o.dst (.tu []) fun t'=>drL C h os n K l (Nat.succ i) t' S nx ph rd xm) (goD C h n o i t S nx ph rd xm (drL C h os n K l (Nat.succ i))))=some r:=hk
  obtain⟨x,hk',hw⟩:=wantS_some hk'
  have one: ∃ e t1 ph' rd' xm',e.o=o∧e.t=t∧e.S=S∧e.nx=nx∧EntOk C os n e∧PutS n t o.dst e.v t1∧(∀ q∈ph,q∈ph')∧(∀ q∈rd,q∈rd')∧(2≤e.k→(i+1,e.S')∈ph')∧
   (∀ b,bitK xm' b=true→bitK xm b=true∨(2≤e.k∧b=i))∧RdE C os rd' i e∧drL C h os n K l (Nat.succ i) t1 e.S' e.nx' ph' rd' xm'=some r:=by
   cases x with
   |true=>exact goD_some hC hh hw hk'
   |false=>
    obtain⟨t1,h1,h2⟩:=putS_some hk'
    exact⟨⟨o,t,S,nx,0,.tu [],.x,S,nx⟩,t1,ph,rd,xm,rfl,rfl,rfl,rfl,⟨Nat.le_refl _,.inl rfl,fun _=>⟨rfl,rfl⟩,fun e=>(by cases e),.inl ⟨hw,rfl,rfl⟩⟩,h2,fun q hq=>hq,fun q hq=>hq,fun e=>(by simp at e),fun b hb=> .inl hb,.inl hw,h1⟩
  obtain⟨e,t1,ph1,rd1,xm1,e1,e2,e3,e4,hE,hP,p1,p2,p3,p4,p5,hk2⟩:=one
  obtain⟨es,T,S',nx',ph',rd',xm',hK,hT,q1,q2,q3,q4,q5⟩:=drL_some hC hh l _ _ _ _ _ _ _ hk2
  refine⟨e::es,T,S',nx',ph',rd',xm',hK,⟨l,by rw [e1],e2,e3,e4,hE,t1,by rw [e1];exact hP,hT⟩,fun q hq=>q1 q (p1 q hq),fun q hq=>q2 q (p2 q hq),fun j e' hj hk=>?_,fun b hb=>?_,fun j e' hj=>?_⟩
  ·cases j with
   |zero=>
    have:e=e':=by simpa using hj
    subst this;exact q1 _ (p3 hk)
   |succ j=>have:=q3 j e' (by simpa using hj) hk;rwa [show i+(j+1)+1=Nat.succ i+j+1 from by omega]
  ·rcases q4 b hb with h1|⟨j,e',h1,h2,h3⟩
   ·rcases p4 b h1 with h2|⟨h2,h3⟩
    ·exact .inl h2
    ·exact .inr ⟨0,e,rfl,h2,by omega⟩
   ·exact .inr ⟨j+1,e',by simpa using h1,h2,by omega⟩
  ·cases j with
   |zero=>
    have:e=e':=by simpa using hj
    subst this;exact p5.mono q2
   |succ j=>have:=q5 j e' (by simpa using hj);rwa [show i+(j+1)=Nat.succ i+j from by omega]
end run
end AI
end GV
end Go.Proofs.YtkkcidhcfkmbjaaGreatDoor

namespace Go.Proofs.YtkkcidhcfkmbjaaGreatDoor
namespace GV
namespace AI
/-! ### The same value-/
theorem sameVs_eq{f:AV→AV→Bool}(hf: ∀ a b,f a b=true→a=b): ∀ (l m:List AV),sameVs f l m=true→l=m
 | [],[],_=>rfl
 | [],_::_,h=>by cases h
 |_::_,[],h=>by cases h
 |a::l,b::m,h=>by
  have h':Bool.casesOn (motive:=fun _=>Bool) (f a b) false (sameVs f l m)=true:=h
  cases e:f a b with
  |false=>rw [e] at h';cases h'
  |true=>rw [e] at h';rw [hf a b e,sameVs_eq hf l m h']
theorem kN_inj{a b:IntKind}(h:eqK a b=true):a=b:=by cases a<;>cases b<;>first|rfl|cases h
theorem eqI_true{a b:Int}(h:eqI a b=true):a=b:=by
 cases a<;>cases b
 ·rw [Nat.eq_of_beq_eq_true (show Nat.beq _ _=true from h)]
 ·cases h
 ·cases h
 ·rw [Nat.eq_of_beq_eq_true (show Nat.beq _ _=true from h)]
theorem eqL_true: ∀ (l m:List Nat),eqL l m=true→l=m
 | [],[],_=>rfl
 | [],_::_,h=>by cases h
 |_::_,[],h=>by cases h
 |a::l,b::m,h=>by
  have h':Bool.casesOn (motive:=fun _=>Bool) (Nat.beq a b) false (eqL l m)=true:=h
  cases e:Nat.beq a b with
  |false=>rw [e] at h';cases h'
  |true=>rw [e] at h';rw [Nat.eq_of_beq_eq_true e,eqL_true l m h']
theorem band{a b:Bool}(h:Bool.and a b=true):a=true∧b=true:=by cases a<;>cases b<;>first|exact⟨rfl,rfl⟩|cases h
theorem sameV_eq: ∀ (k:Nat) (a b:AV),sameV k a b=true→a=b
 |0,_,_,h=>by cases h
 |k+1,a,b,h=>by
  have ih:=sameV_eq k
  cases a with
  |bad=>cases h
  |b x=>cases b with
   |b y=>cases x<;>cases y<;>first|rfl|cases h
   |_=>cases h
  |i j n=>cases b with
   |i j' n'=>
    obtain⟨h1,h2⟩:=band (show Bool.and (eqK j j') (eqI n n')=true from h)
    rw [kN_inj h1,eqI_true h2]
   |_=>cases h
  |s x=>cases b with
   |s y=>rw [eqL_true x y h]
   |_=>cases h
  |np=>cases b<;>first|rfl|cases h
  |p x y=>cases b with
   |p x' y'=>
    obtain⟨h1,h2⟩:=band (show Bool.and (Nat.beq x x') (Nat.beq y y')=true from h)
    rw [Nat.eq_of_beq_eq_true h1,Nat.eq_of_beq_eq_true h2]
   |_=>cases h
  |gp x y=>cases b with
   |gp x' y'=>
    obtain⟨h1,h2⟩:=band (show Bool.and (Nat.beq x x') (Nat.beq y y')=true from h)
    rw [Nat.eq_of_beq_eq_true h1,Nat.eq_of_beq_eq_true h2]
   |_=>cases h
  |ns=>cases b<;>first|rfl|cases h
  |sl x y z u=>cases b with
   |sl x' y' z' u'=>
    obtain⟨h1,h2,h3,h4⟩:=and3 (show Bool.and (Nat.beq x x') (Bool.and (Nat.beq y y') (Bool.and (Nat.beq z z') (Nat.beq u u')))=true from h)
    rw [Nat.eq_of_beq_eq_true h1,Nat.eq_of_beq_eq_true h2,Nat.eq_of_beq_eq_true h3,Nat.eq_of_beq_eq_true h4]
   |_=>cases h
  |os x y z u=>cases b with
   |os x' y' z' u'=>
    obtain⟨h1,h2,h3,h4⟩:=and3 (show Bool.and (Nat.beq x x') (Bool.and (Nat.beq y y') (Bool.and (Nat.beq z z') (Nat.beq u u')))=true from h)
    rw [Nat.eq_of_beq_eq_true h1,Nat.eq_of_beq_eq_true h2,Nat.eq_of_beq_eq_true h3,Nat.eq_of_beq_eq_true h4]
   |_=>cases h
  |nm=>cases b<;>first|rfl|cases h
  |m x=>cases b with
   |m y=>rw [Nat.eq_of_beq_eq_true (show Nat.beq x y=true from h)]
   |_=>cases h
  |nf=>cases b<;>first|rfl|cases h
  |fn f bd cp=>cases b with
   |fn f' bd' cp'=>
    obtain⟨h1,h2⟩:=band (show Bool.and (Nat.beq f f') (Bool.and (sameVs (sameV k) bd bd') (sameVs (sameV k) cp cp'))=true from h)
    obtain⟨h3,h4⟩:=band h2
    rw [Nat.eq_of_beq_eq_true h1,sameVs_eq ih _ _ h3,sameVs_eq ih _ _ h4]
   |_=>cases h
  |y x=>cases b with
   |y y=>rw [Nat.eq_of_beq_eq_true (show Nat.beq x y=true from h)]
   |_=>cases h
  |ni=>cases b<;>first|rfl|cases h
  |ag l=>cases b with
   |ag m=>rw [sameVs_eq ih _ _ h]
   |_=>cases h
  |tu l=>cases b with
   |tu m=>rw [sameVs_eq ih _ _ h]
   |_=>cases h
section reads
variable {C : Cf} {β : Type} {r : β} {as_ : List Nat} {xm : Nat}
theorem chk1_some{i:Nat}{o:Oper}{t:TB}{v:AV}{k:Option β}: ∀ (ph:List (Nat×HP)),chk1 C as_ xm i o.op t v k ph=some r→k=some r∧ ∀ q∈ph,cmpQ as_ xm i q.1=true→RdS C o t q.2 v
 | [],h=>⟨h,fun q hq=>by cases hq⟩
 |q::ph,h=>by
  have h':Bool.casesOn (motive:=fun _=>Option β) (cmpQ as_ xm i q.1) (chk1 C as_ xm i o.op t v k ph) (rdK o.op C t q.2 fun v'=>og (sameV 5 v' v) (chk1 C as_ xm i o.op t v k ph))=some r:=h
  cases hc:cmpQ as_ xm i q.1 with
  |false=>
   rw [hc] at h'
   obtain⟨h1,h2⟩:=chk1_some ph h'
   refine⟨h1,fun q' hq hc'=>?_⟩
   rcases List.mem_cons.1 hq with rfl|hq
   ·rw [hc] at hc';cases hc'
   ·exact h2 q' hq hc'
  |true=>
   rw [hc] at h'
   obtain⟨v',h3,h4⟩:=rdK_some h'
   obtain⟨h5,h6⟩:=og_some h4
   have:=sameV_eq _ _ _ h5
   subst this
   obtain⟨h1,h2⟩:=chk1_some ph h6
   refine⟨h1,fun q' hq hc'=>?_⟩
   rcases List.mem_cons.1 hq with rfl|hq
   ·exact h3
   ·exact h2 q' hq hc'
theorem chkA_some{ph:List (Nat×HP)}{k:Option β}: ∀ (rs:List Rd1),chkA C as_ xm ph k rs=some r→k=some r∧ ∀ (i:Nat) (o:Oper) (t:TB) (v:AV),(i,o.op,t,v)∈rs→ ∀ q∈ph,cmpQ as_ xm i q.1=true→RdS C o t q.2 v
 | [],h=>⟨h,fun i o t v hm=>by cases hm⟩
 |(i0,op0,t0,v0)::rs,h=>by
  have h':chk1 C as_ xm i0 op0 t0 v0 (chkA C as_ xm ph k rs) ph=some r:=h
  have h0 := chk1_some (o := ⟨none, op0, 0, "", #[], none⟩) ph h'
  obtain⟨h1,h2⟩:=chkA_some rs h0.1
  refine⟨h1,fun i o t v hm q hq hc=>?_⟩
  rcases List.mem_cons.1 hm with e|hm
  ·cases e
   exact(chk1_some (o:=o) ph h').2 q hq hc
  ·exact h2 i o t v hm q hq hc
end reads
/-! ### The states in the text's order-/
def Real(C:Cf)(t:TB)(S:HP)(nx:Nat):Prop:= ∃ R A ι w,∃ ρ:Nat→Value,GR C R∧(∀ k,VR ι (gt t k (.tu [])) (ρ k))∧SR R A ι S nx w
theorem ev_VR{ι:Io}{t:TB}{ρ:Nat→Value}(h: ∀ k,VR ι (gt t k (.tu [])) (ρ k))(x:Operand):VR ι (evA t x) (ev ρ x):=by
 cases x with
 |tmp k=>exact h k
 |const v=>exact ofV_ok v
 |global g=>show VR ι (.gp g 0) _;rw [VR];rfl
 |func f=>show VR ι (.fn f [] []) _;rw [VR];exact⟨[],[],rfl,VRs_nil.2 rfl,VRs_nil.2 rfl⟩
theorem undef_VR{ι:Io}:VR ι (.tu []) undef:=by rw [VR];exact⟨[],rfl,VRs_nil.2 rfl⟩
theorem VR_updo{ι:Io}{d:Option Nat}{v:AV}{v':Value}{f:Nat→AV}{ρ:Nat→Value}(h: ∀ k,VR ι (f k) (ρ k))(hv:VR ι v v')(k:Nat):VR ι (updo d v f k) (if d=some k then v' else ρ k):=by
 unfold updo
 split
 ·exact hv
 ·exact h k
theorem real_step{C:Cf}{os:List Oper}{n:Nat}{e:Ent}{t1:TB}(hE:EntOk C os n e)(hP:PutS n e.t e.o.dst e.v t1)(hd:dpq e.t≤4)(hn:n≤256)(hr:Real C e.t e.S e.nx):Real C t1 e.S' e.nx':=by
 obtain⟨R,A,ι,w,ρ,hG,hρ,hs⟩:=hr
 obtain⟨hd1,hf⟩:=hP.2 hd hn
 have put: ∀ {ι':Io} {v':Value} {w'},ILe ι ι'→VR ι' e.v v'→SR R A ι' e.S' e.nx' w'→Real C t1 e.S' e.nx':=fun {ι' v' w'} hle hv hs'=>by
  refine⟨R,A,ι',w',fun k=>if e.o.dst=some k then v' else ρ k,hG,fun k=>?_,hs'⟩
  have:=VR_updo (d:=e.o.dst) (fun k=>VR.mono hle _ _ (hρ k)) hv k
  rw [←hf] at this
  exact this
 have xs:XS C e.o e.t e.S e.nx e.v e.S' e.nx'→Real C t1 e.S' e.nx':=fun hx=>by
  obtain⟨v',w',ι',a,b,c⟩:=Out.ex (hx R A ι w (ev ρ) hG (fun x _=>ev_VR hρ x) hs)
  exact put a c b
 rcases hE.sem with⟨_,h0,h1⟩|⟨_,⟨h0,h1⟩|⟨h0,g,h1,h2⟩|⟨h0,h1⟩⟩
 ·obtain⟨a,b⟩:=hE.k0 h0
  refine put (ILe.refl _) (v':=undef) (by rw [h1];exact undef_VR) (w':=w) ?_
  rw [a,b];exact hs
 ·obtain⟨a,b⟩:=hE.k0 h0
  refine xs ?_
  rw [a,b];exact xs_of_rd h1
 ·obtain⟨a,b⟩:=hE.k1 h0
  refine xs ?_
  rw [b,h2];exact xs_of_nw h1 a
 ·exact xs h1
noncomputable def tF(t:TB):Nat→AV:=fun j=>gt t j (.tu [])
structure At (s:Fs) (t:TB) (S:HP) (nx:Nat):Prop where
 f:s.f=tF t
 h:s.h=hg S
 us:s.us=fun j=>decide (j<nx)
theorem at_step{C:Cf}{os:List Oper}{n:Nat}{e:Ent}{t1:TB}{s:Fs}(hE:EntOk C os n e)(hP:PutS n e.t e.o.dst e.v t1)(hd:dpq e.t≤4)(hn:n≤256)(hr:Real C e.t e.S e.nx)(ha:At s e.t e.S e.nx):At (eff e s) t1 e.S' e.nx':=by
 obtain⟨R,A,ι,w,ρ,hG,hρ,hs⟩:=hr
 obtain⟨hd1,hf⟩:=hP.2 hd hn
 refine⟨?_,?_,?_⟩
 ·show updo _ _ s.f=_
  rw [ha.f];exact hf.symm
 ·show eH e s.h=_
  unfold eH
  by_cases k0:e.k=0
  ·rw [if_pos k0,(hE.k0 k0).1];exact ha.h
  ·rw [if_neg k0]
   by_cases k1:e.k=1
   ·rw [if_pos k1]
    obtain⟨a,b⟩:=hE.k1 k1
    funext j
    rw [(a hs.dep).2 j,ha.h]
   ·rw [if_neg k1]
 ·show eU e s.us=_
  unfold eU
  by_cases k0:e.k=0
  ·rw [if_pos k0,(hE.k0 k0).2];exact ha.us
  ·rw [if_neg k0]
   by_cases k1:e.k=1
   ·rw [if_pos k1,(hE.k1 k1).2,ha.us]
    funext j
    rw [←Bool.decide_or]
    exact decide_eq_decide.2 (by omega)
   ·rw [if_neg k1]
theorem trc_at{C:Cf}{os:List Oper}{n:Nat}{T:TB}{S':HP}{nx':Nat}(hn:n≤256): ∀ (es:List Ent) (l:List Oper) (i:Nat) (t:TB) (S:HP) (nx:Nat) (s:Fs),Trc C os n es l t S nx T S' nx'→dpq t≤4→Real C t S nx→At s t S nx→
 (∀ (j:Nat) (e:Ent),es[j]? =some e→EntOk C os n e∧l[j]? =some e.o∧(∀ d,e.o.dst=some d→d<n)∧At (foldZ (fun k=>decide (k<i+j)) i es s) e.t e.S e.nx∧nx≤e.nx∧dpq e.t≤4∧dpq e.S≤8)∧
 es.length=l.length∧At (foldZ (fun _=>true) i es s) T S' nx'∧dpq T≤4∧dpq S'≤8∧(∀ (j j':Nat) (e e':Ent),j<j'→es[j]? =some e→es[j']? =some e'→e.nx'≤e'.nx)
 | [],l,i,t,S,nx,s,hT,hd,hr,ha=>by
  obtain⟨rfl,rfl,rfl,rfl⟩:=hT
  exact⟨fun j e hj=>by simp at hj,rfl,ha,hd,(let⟨_,_,_,_,_,_,_,hs⟩:=hr;hs.dep),fun j j' e e' _ hj=>by simp at hj⟩
 |e::es,l,i,t,S,nx,s,hT,hd,hr,ha=>by
  obtain⟨l',rfl,rfl,rfl,rfl,hE,t1,hP,hT'⟩:=hT
  obtain⟨hd1,hf⟩:=hP.2 hd hn
  have hr1:=real_step hE hP hd hn hr
  have ha1:=at_step hE hP hd hn hr ha
  obtain⟨a1,a2,a3,a4,a5,a6⟩:=trc_at hn es l' (i+1) t1 e.S' e.nx' (eff e s) hT' hd1 hr1 ha1
  refine⟨fun j e' hj=>?_,by simp [a2],?_,a4,a5,fun j j' x y hjj hj hj'=>?_⟩
  ·cases j with
   |zero=>
    have:e=e':=by simpa using hj
    subst this
    refine⟨hE,rfl,hP.1,?_,Nat.le_refl _,hd,(let⟨_,_,_,_,_,_,_,hs⟩:=hr;hs.dep)⟩
    have:foldZ (fun k=>decide (k<i+0)) i (e::es) s=s:=by
     have key: ∀ (l:List Ent) (m:Nat) (s:Fs),i≤m→foldZ (fun k=>decide (k<i+0)) m l s=s:=by
      intro l
      induction l with
      |nil=>intro m s _;rfl
      |cons x l ih=>
       intro m s hm
       simp only [foldZ]
       rw [if_neg (by simp;omega)]
       exact ih _ _ (by omega)
     exact key _ _ _ (Nat.le_refl _)
    rw [this];exact ha
   |succ j=>
    obtain⟨b1,b2,b3,b4,b5,b6⟩:=a1 j e' (by simpa using hj)
    refine⟨b1,by simpa using b2,b3,?_,Nat.le_trans hE.le b5,b6⟩
    simp only [foldZ]
    rw [if_pos (by simp)]
    rw [show i+(j+1)=i+1+j from by omega]
    exact b4
  ·simp only [foldZ]
   exact a3
  ·cases j' with
   |zero=>omega
   |succ j'=>
    have hj'':es[j']? =some y:=by simpa using hj'
    cases j with
    |zero=>
     have:e=x:=by simpa using hj
     subst this
     exact(a1 j' y hj'').2.2.2.2.1
    |succ j=>exact a6 j j' x y (by omega) (by simpa using hj) hj''
end AI
end GV
end Go.Proofs.YtkkcidhcfkmbjaaGreatDoor
