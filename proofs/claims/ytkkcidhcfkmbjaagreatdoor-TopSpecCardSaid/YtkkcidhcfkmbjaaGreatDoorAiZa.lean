
import Derived.Test.YtkkcidhcfkmbjaaGreatDoorAiL
set_option linter.unusedVariables false
set_option linter.unusedSimpArgs false
set_option linter.unusedSectionVars false
namespace Go.Proofs.YtkkcidhcfkmbjaaGreatDoor
namespace GV
namespace AI
structure MemR (R:RH) (A:List Frag) (ι:Io) (h:Nat→AB) (us:Nat→Bool) (w:World):Prop where
 ex: ∃ f,Holds R (f::A) w∧Rel ι h f
 fresh: ∀ id,us id=false→ι id=none
 low: ∀ id L,ι id=some L→L.blk<w.heap.size
section mem
variable {R : RH} {A : List Frag} {ι : Io} {h : Nat → AB} {us : Nat → Bool} {w : World} {C : Cf} {S : HP} {nx : Nat}
theorem SR.memR(hs:SR R A ι S nx w):MemR R A ι (hg S) (fun j=>decide (j<nx)) w:=
 ⟨hs.ex,fun id hu=>hs.fresh id (by have:=of_decide_eq_false hu;omega),hs.low⟩
theorem MemR.sr(hm:MemR R A ι (hg S) (fun j=>decide (j<nx)) w)(hd:dpq S≤8):SR R A ι S nx w:=
 ⟨hd,hm.ex,fun id hid=>hm.fresh id (decide_eq_false (by omega)),hm.low⟩
theorem MemR.mr(hm:MemR R A ι h us w)(hG:GR C R){B:Nat→AB}(hB: ∀ id,B id≠ .x→h id=B id):MR C ι B w:=by
 obtain⟨f,hh,hr⟩:=hm.ex
 refine⟨fun id hid=>?_,fun g l hg=>?_⟩
 ·have h1:=hB id hid
  rw [←h1] at hid⊢
  obtain⟨L,o,a,b,c⟩:=hr.blk id hid
  exact⟨L,o,a,(hh.own f (List.mem_cons_self ..) _ _ b).1,c⟩
 ·obtain⟨c,ty,fr,a,b⟩:=hG g l hg
  exact⟨c,ty,fr,hh.ro _ _ a,b⟩
theorem MemR.dead(hm:MemR R A ι h us w){id:Nat}(hu:us id=false):h id= .x:=by
 obtain⟨f,hh,hr⟩:=hm.ex
 cases e:h id with
 |x=>rfl
 |_=>
  obtain⟨L,_,a,_⟩:=hr.blk id (by rw [e];simp)
  rw [hm.fresh id hu] at a;cases a
theorem MemR.new{o:Obj}{ab:AB}{id:Nat}(hm:MemR R A ι h us w)(hu:us id=false)(ho:OR (iup ι id ⟨w.heap.size,0,0⟩) ⟨w.heap.size,0,0⟩ ab o):
 MemR R A (iup ι id ⟨w.heap.size,0,0⟩) (fun j=>if j=id then ab else h j) (fun j=>decide (j=id)||us j) (w.alloc o)∧ILe ι (iup ι id ⟨w.heap.size,0,0⟩):=by
 obtain⟨f,hh,hr⟩:=hm.ex
 have hfr:=hm.fresh id hu
 have hle:=iup_le (ι:=ι) (k:=id) (L:=⟨w.heap.size,0,0⟩) hfr
 have hsz:(w.alloc o).heap.size=w.heap.size+1:=Array.size_push ..
 refine⟨⟨⟨fup f w.heap.size o,holds_fnew hh,⟨fun j hj=>?_,fun j j' M M' hj hj' e e' hb=>?_⟩⟩,fun j hj=>?_,fun j M hj=>?_⟩,hle⟩
 ·by_cases e:j=id
  ·subst e;exact⟨_,o,iup_same,fup_same,by rw [if_pos rfl];exact ho⟩
  ·rw [if_neg e] at hj⊢
   obtain⟨M,ob,a,b,c⟩:=hr.blk j hj
   have:=hm.low j M a
   exact⟨M,ob,hle _ _ a,by rw [fup_other (by omega)];exact b,c.mono hle⟩
 ·have old: ∀ j M,j≠id→(if j=id then ab else h j)≠ .x→iup ι id ⟨w.heap.size,0,0⟩ j=some M→h j≠ .x∧ι j=some M∧M.blk<w.heap.size:=fun j M e hj hM=>by
   rw [if_neg e] at hj
   unfold iup at hM
   rw [if_neg e] at hM
   exact⟨hj,hM,hm.low j M hM⟩
  by_cases h1:j=id
  ·by_cases h2:j'=id
   ·rw [h1,h2]
   ·obtain⟨_,_,c⟩:=old j' M' h2 hj' e'
    subst h1
    rw [iup_same] at e;cases e
    simp only at hb;omega
  ·by_cases h2:j'=id
   ·obtain⟨_,_,c⟩:=old j M h1 hj e
    subst h2
    rw [iup_same] at e';cases e'
    simp only at hb;omega
   ·obtain⟨a1,a2,_⟩:=old j M h1 hj e
    obtain⟨b1,b2,_⟩:=old j' M' h2 hj' e'
    exact hr.inj j j' M M' a1 b1 a2 b2 hb
 ·have hj':j≠id∧us j=false:=by
   cases hd:decide (j=id) with
   |true=>rw [hd] at hj;cases hj
   |false=>rw [hd] at hj;exact⟨of_decide_eq_false hd,by simpa using hj⟩
  unfold iup
  rw [if_neg hj'.1];exact hm.fresh j hj'.2
 ·rw [hsz]
  unfold iup at hj
  split at hj
  ·cases hj;simp
  ·have:=hm.low j M hj;omega
end mem
theorem clsOk_spec{a b:Nat}(h:clsOk a b=true):a=0∨b=0∨(a=1∧b=1):=by
 match a,b,h with
 |0,_,_=>exact .inl rfl
 |_,0,_=>exact .inr (.inl rfl)
 |1,1,_=>exact .inr (.inr ⟨rfl,rfl⟩)
 |1,b+2,h=>cases h
 |a+2,b+1,h=>cases h
theorem shift_zero{m q:Nat}(h: ∀ b,q≤b→bitK m b=false):Nat.beq (Nat.shiftRight m q) 0=true:=by
 have:m>>>q=0:=by
  apply Nat.eq_of_testBit_eq
  intro i
  rw [Nat.testBit_shiftRight,Nat.zero_testBit,←bitK_eq]
  exact h _ (by omega)
 show Nat.beq (m>>>q) 0=true
 rw [this];rfl
theorem bitK_land(a b k:Nat):bitK (Nat.land a b) k=(bitK a k&&bitK b k):=by
 rw [bitK_eq,bitK_eq,bitK_eq]
 exact Nat.testBit_and a b k
theorem put_frame{ι:Io}{n:Nat}{f:Nat→AV}{a:Act}{d:Option Nat}{v:AV}{v':Value}(hs:a.tmps.size=n)(h: ∀ k,VR ι (f k) (a.tmps.getD k undef))(hd: ∀ k,d=some k→k<n)(hv:VR ι v v'):
 (a.put d v').tmps.size=n∧(∀ k,VR ι (updo d v f k) ((a.put d v').tmps.getD k undef))∧(a.put d v').defers=a.defers:=by
 cases d with
 |none=>exact⟨hs,fun k=>by unfold updo;rw [if_neg (by simp)];exact h k,rfl⟩
 |some j=>
  have hj:=hd j rfl
  refine⟨by simp [Act.put,hs],fun k=>?_,rfl⟩
  show VR ι _ ((a.tmps.setIfInBounds j v').getD k undef)
  unfold updo
  by_cases e:k=j
  ·subst e
   rw [if_pos rfl]
   have:(a.tmps.setIfInBounds k v').getD k undef=v':=by
    simp only [Array.getD_eq_getD_getElem?,Array.getElem?_setIfInBounds]
    simp [hs,hj]
   rw [this];exact hv
  ·rw [if_neg (fun q=>e (by cases q;rfl))]
   have:(a.tmps.setIfInBounds j v').getD k undef=a.tmps.getD k undef:=by
    simp only [Array.getD_eq_getD_getElem?,Array.getElem?_setIfInBounds]
    rw [if_neg (fun q=>e q.symm)]
   rw [this];exact h k
structure Cx (C:Cf) (os:List Oper) (n:Nat) (es:List Ent) (s0:Fs) (ph:List (Nat×HP)) (xm:Nat) (S:HP):Prop where
 st:DrS os
 len:es.length=os.length
 ent: ∀ (j:Nat) (e:Ent),es[j]? =some e→EntOk C os n e∧os[j]? =some e.o∧(∀ d,e.o.dst=some d→d<n)∧At (foldZ (fun k=>decide (k<0+j)) 0 es s0) e.t e.S e.nx∧dpq e.S≤8
 mon: ∀ (j j':Nat) (e e':Ent),j<j'→es[j]? =some e→es[j']? =some e'→e.nx'≤e'.nx
 us0: ∀ (j:Nat) (e:Ent),es[j]? =some e→s0.us e.nx=false
 b0:s0.B=hg S∧(0,S)∈ph
 hph: ∀ (j:Nat) (e:Ent),es[j]? =some e→2≤e.k→(j+1,e.S')∈ph
 hxm: ∀ b,bitK xm b=true→ ∃ e,es[b]? =some e∧2≤e.k
 rd: ∀ (j:Nat) (e:Ent),es[j]? =some e→WantS os e.o e.t false∨e.k≠0∨(∀ S',RdS C e.o e.t S' e.v)∨(∀ q∈ph,cmpQ (ancs os) xm j q.1=true→RdS C e.o e.t q.2 e.v)
def J(n:Nat)(df:List AD)(R:RH)(A:List Frag)(ι0:Io)(es:List Ent)(s0:Fs)(Z:Nat→Bool)(a:Act)(w:World):Prop:=
 ∃ ι,ILe ι0 ι∧a.tmps.size=n∧(∀ k,VR ι ((foldZ Z 0 es s0).f k) (a.tmps.getD k undef))∧DRs ι df a.defers∧MemR R A ι (foldZ Z 0 es s0).h (foldZ Z 0 es s0).us w∧ ∀ id,(foldZ Z 0 es s0).B id≠ .x→(foldZ Z 0 es s0).h id=(foldZ Z 0 es s0).B id
section step
variable {C : Cf} {os : List Oper} {n : Nat} {es : List Ent} {s0 : Fs} {ph : List (Nat × HP)} {xm : Nat} {S : HP} {df : List AD} {R : RH} {A : List Frag} {ι0 : Io} {Z Z' : Nat → Bool} {a : Act} {w : World} {ρc : Option Nat} {Q : Exit → Act → World → Prop}
theorem j_step(hx:Cx C os n es s0 ph xm S)(hG:GR C R)(hc:ClosedZ os Z){i:Nat}{o:Oper}(ho:os[i]? =some o)(hzi:Z i=false)(hed: ∀ e∈o.after.toList,Region.binds .any e=true→Z e.on=true)
 (h1:Z' i=true) (h2: ∀ j,j≠i→Z' j=Z j) (hj:J n df R A ι0 es s0 Z a w):wpOpIn (wide ρc) 0 C.P os.toArray Q i (J n df R A ι0 es s0 Z') a w:=by
 have hil:i<es.length:=by rw [hx.len];exact(List.getElem?_eq_some_iff.1 ho).1
 obtain⟨e,he⟩: ∃ e,es[i]? =some e:=⟨_,List.getElem?_eq_getElem hil⟩
 obtain⟨hE,ho',hdst,hat,hdS⟩:=hx.ent i e he
 rw [ho] at ho'
 have heo:o=e.o:=Option.some.inj ho'
 subst heo
 have edges: ∀ {j y},os[j]? =some y→Z j=true→ ∀ e'∈y.after.toList,Region.binds .any e'=true→Z e'.on=true:=fun hy hz=>hc _ _ hy hz
 have apL: ∀ j e',j<i→es[j]? =some e'→Z j=false→Apart os e'.o e.o:=fun j e' hji hje hz=>by
  have hy:=(hx.ent j e' hje).2.1
  rcases hx.st.pair j i _ _ hji hy ho with h3|h3
  ·rw [anc_listed hc ho hed h3] at hz;cases hz
  ·exact h3
 have apR: ∀ j e',i<j→es[j]? =some e'→Z j=true→Apart os e.o e'.o:=fun j e' hji hje hz=>by
  have hy:=(hx.ent j e' hje).2.1
  rcases hx.st.pair i j _ _ hji ho hy with h3|h3
  ·rw [anc_listed hc hy (edges hy hz) h3] at hzi;cases hzi
  ·exact h3
 obtain⟨ι,hle,hsz,hfr,hdf,hmem,hB⟩:=hj
 have hlook: ∀ k,bitK (rmO os e.o) k=true→(foldZ Z 0 es s0).f k=gt e.t k (.tu []):=fun k hk=>by
  have h3:(foldZ Z 0 es s0).f k=(foldZ (fun k=>decide (k<0+i)) 0 es s0).f k:=by
   refine foldZ_f es 0 s0 s0 rfl fun j e' hje hd=>?_
   rw [Nat.zero_add]
   rcases Nat.lt_trichotomy j i with h4|h4|h4
   ·cases hz:Z j with
    |true=>exact(decide_eq_true (by omega)).symm
    |false=>have:=(apL j e' h4 hje hz).r k hd;rw [this] at hk;cases hk
   ·subst h4;rw [hzi];exact(decide_eq_false (by omega)).symm
   ·cases hz:Z j with
    |false=>exact(decide_eq_false (by omega)).symm
    |true=>have:=(apR j e' h4 hje hz).l k hd;rw [this] at hk;cases hk
  rw [h3,hat.f];rfl
 have hop: ∀ x∈e.o.op.operands,VR ι (evA e.t x) (a.eval x):=fun x hxo=>by
  cases x with
  |tmp k=>
   have:=hfr k
   rw [hlook k (rmO_op hxo)] at this
   exact this
  |const v=>exact ofV_ok v
  |global g=>show VR ι (.gp g 0) _;rw [VR];rfl
  |func f=>show VR ι (.fn f [] []) _;rw [VR];exact⟨[],[],rfl,VRs_nil.2 rfl,VRs_nil.2 rfl⟩
 have hwant: ∀ x,WantS os e.o e.t x→Region.wanted e.o (yielded os.toArray a.tmps)=x:=fun x hw=>hw ι a fun g d hg hd=>by
  have:=hfr d
  rw [hlook d (rmO_guard hg hd)] at this
  exact this
 have hadd:foldZ Z' 0 es s0=eff e (foldZ Z 0 es s0):=by
  refine foldZ_add h1 h2 hzi es 0 s0 i e he (by omega) fun r e' hr hre hz=>?_
  rw [Nat.zero_add] at hz
  have hap:=apR r e' hr hre hz
  obtain⟨hE',_⟩:=hx.ent r e' hre
  refine comm_of hap ?_
  rcases hE.kk with k0|k0
  ·exact .inl k0
  ·rcases hE'.kk with k1|k1
   ·exact .inr (.inl k1)
   ·rcases clsOk_spec hap.c with c0|c0|⟨c0,c1⟩
    ·exact .inl (k0.trans c0)
    ·exact .inr (.inl (k1.trans c0))
    ·have m1:=hx.mon i r e e' hr he hre
     have m2:=(hE.k1 (k0.trans c0)).2
     exact .inr (.inr ⟨k0.trans c0,k1.trans c1,by omega⟩)
 have hkind: ∀ j e',es[j]? =some e'→e'.k≠0→2≤e.k→Z j=decide (j<0+i):=fun j e' hje hk he2=>by
  rw [Nat.zero_add]
  obtain⟨hE',_⟩:=hx.ent j e' hje
  have c1:e.k=cls e.o.op:=hE.kk.resolve_left (by omega)
  have c2:e'.k=cls e'.o.op:=hE'.kk.resolve_left hk
  rcases Nat.lt_trichotomy j i with h4|h4|h4
  ·cases hz:Z j with
   |true=>exact(decide_eq_true (by omega)).symm
   |false=>
    rcases clsOk_spec (apL j e' h4 hje hz).c with c|c|⟨c,c'⟩<;>omega
  ·subst h4;rw [hzi];exact(decide_eq_false (by omega)).symm
  ·cases hz:Z j with
   |false=>exact(decide_eq_false (by omega)).symm
   |true=>
    rcases clsOk_spec (apR j e' h4 hje hz).c with c|c|⟨c,c'⟩<;>omega
 have fin: ∀ (ι':Io) (v':Value) (w':World),ILe ι ι'→VR ι' e.v v'→MemR R A ι' (eH e (foldZ Z 0 es s0).h) (eU e (foldZ Z 0 es s0).us) w'→
  (∀ id,eB e (foldZ Z 0 es s0).B id≠ .x→eH e (foldZ Z 0 es s0).h id=eB e (foldZ Z 0 es s0).B id)→J n df R A ι0 es s0 Z' (a.put e.o.dst v') w':=fun ι' v' w' hl hv hm hb=>by
  obtain⟨p1,p2,p3⟩:=put_frame (d:=e.o.dst) (v:=e.v) hsz (fun k=>VR.mono hl _ _ (hfr k)) hdst hv
  refine⟨ι',hle.trans hl,p1,?_,by rw [p3];exact DRs.mono hl _ _ hdf,?_,?_⟩
  ·rw [hadd];exact p2
  ·rw [hadd];exact hm
  ·rw [hadd];exact hb
 have keep:e.k=0→ ∀ v',VR ι e.v v'→J n df R A ι0 es s0 Z' (a.put e.o.dst v') w:=fun k0 v' hv=>by
  refine fin ι v' w (ILe.refl _) hv ?_ ?_
  ·unfold eH eU;rw [if_pos k0,if_pos k0];exact hmem
  ·unfold eH eB;rw [if_pos k0,if_pos k0];exact hB
 have hnd: ∀ c,e.o.op≠ .defer c:=fun c ec=>by
  have:=hx.st.cls i _ ho
  rw [ec] at this
  have h3:cls (.defer c)=3:=rfl
  omega
 unfold wpOpIn
 have hoa:os.toArray[i]? =some e.o:=by simpa using ho
 rw [hoa]
 dsimp only
 rcases hE.sem with⟨hw,k0,hv⟩|⟨hw,hk⟩
 ·rw [if_neg (by rw [hwant _ hw];simp)]
  exact⟨fun _ _=>trivial,keep k0 undef (by rw [hv];exact undef_VR)⟩
 ·rw [if_pos (hwant _ hw)]
  refine⟨fun _ _=>trivial,?_⟩
  rw [Oper.semAt_eq _ _ _ hnd]
  rcases hk with⟨k0,hr⟩|⟨k1,g,hn,hv⟩|⟨k2,hxs⟩
  ·--it reads
   have hrd: ∃ S'',(foldZ Z 0 es s0).B=hg S''∧RdS C e.o e.t S'' e.v:=by
    have big: ∀ q,(∀ b,q≤b→Z b=true→ ∀ e',es[b]? =some e'→e'.k<2)→Nat.beq (Nat.shiftRight (Nat.land (nthN (ancs os) i) xm) q) 0=true:=fun q hq=>by
     refine shift_zero fun b hb=>?_
     rw [bitK_land]
     cases x1:bitK (nthN (ancs os) i) b with
     |false=>rfl
     |true=>
      cases x2:bitK xm b with
      |false=>rfl
      |true=>
       obtain⟨e',y1,y2⟩:=hx.hxm b x2
       have:=hq b hb (anc_listed hc ho hed x1) e' y1
       omega
    rcases hx.rd i e he with h3|h3|h3|h3
    ·have:=hwant _ h3;rw [hwant _ hw] at this;cases this
    ·exact absurd k0 h3
    ·rcases foldZ_B (Z:=Z) es 0 s0 with⟨b1,_⟩|⟨j,e',_,_,_,b1,_⟩
     ·exact⟨S,b1.trans hx.b0.1,h3 S⟩
     ·exact⟨e'.S',b1,h3 e'.S'⟩
    ·rcases foldZ_B (Z:=Z) es 0 s0 with⟨b1,b2⟩|⟨j,e',b1,b2,b3,b4,b5⟩
     ·refine⟨S,b1.trans hx.b0.1,h3 (0,S) hx.b0.2 ?_⟩
      show Bool.and true _=true
      exact big 0 fun b _ hz e' he'=>b2 b e' he' (by rw [Nat.zero_add];exact hz)
     ·rw [Nat.zero_add] at b2
      refine⟨e'.S',b4,h3 (j+1,e'.S') (hx.hph j e' b1 b3) ?_⟩
      have g1:Bool.not (Bool.and (Nat.blt i j) (bitK (nthN (ancs os) j) i))=true:=by
       cases y1:Nat.blt i j with
       |false=>rfl
       |true=>
        cases y2:bitK (nthN (ancs os) j) i with
        |false=>rfl
        |true=>
         have hy:=(hx.ent j e' b1).2.1
         rw [anc_listed hc hy (edges hy b2) y2] at hzi;cases hzi
      show Bool.and (Bool.not (Bool.and (Nat.blt i j) (bitK (nthN (ancs os) j) i))) _=true
      rw [g1]
      exact big (j+1) fun b hb hz e'' he''=>b5 b e'' (by omega) he'' (by rw [Nat.zero_add];exact hz)
   obtain⟨S'',hbs,hrd⟩:=hrd
   rw [hbs] at hB
   obtain⟨v',r1,r2⟩:=hrd ι w a.eval hop (hmem.mr hG hB)
   rw [r1]
   rw [←hbs] at hB
   exact keep k0 v' r2
  ·--a new block
   have hus:(foldZ Z 0 es s0).us e.nx=false:=by
    refine foldZ_us es 0 s0 (hx.us0 i e he) fun j e' hje hz=>?_
    rw [Nat.zero_add] at hz
    obtain⟨hE',_⟩:=hx.ent j e' hje
    have c1:cls e.o.op=1:=by have:=hE.kk.resolve_left (by omega);omega
    refine⟨fun k'=>?_,fun k'=>?_⟩
    ·have m2:=(hE'.k1 k').2
     rcases Nat.lt_trichotomy j i with h4|h4|h4
     ·have:=hx.mon j i e' e h4 hje he;omega
     ·subst h4;rw [hz] at hzi;cases hzi
     ·have:=hx.mon i j e e' h4 he hje
      have m3:=(hE.k1 k1).2
      omega
    ·rcases Nat.lt_trichotomy j i with h4|h4|h4
     ·exact hx.mon j i e' e h4 hje he
     ·subst h4;rw [hz] at hzi;cases hzi
     ·have c2:e'.k=cls e'.o.op:=hE'.kk.resolve_left (by omega)
      rcases clsOk_spec (apR j e' h4 hje hz).c with c|c|⟨c,c'⟩<;>omega
   obtain⟨ob,v',r1,r2⟩:=hn ι w a.eval hop
   rw [r1]
   have hfr':=hmem.fresh _ hus
   obtain⟨q1,q2⟩:=r2 (iup ι e.nx ⟨w.heap.size,0,0⟩) ⟨w.heap.size,0,0⟩ e.nx (iup_le hfr') iup_same rfl rfl
   obtain⟨q3,q4⟩:=hmem.new hus q1
   have hk1: ¬e.k=0:=by omega
   refine fin _ v' _ q4 (by rw [hv];exact q2) ?_ ?_
   ·unfold eH eU;rw [if_neg hk1,if_neg hk1,if_pos k1,if_pos k1];exact q3
   ·unfold eH eB
    rw [if_neg hk1,if_neg hk1,if_pos k1,if_pos k1]
    intro id hid
    have h5:=hB id hid
    by_cases e5:id=e.nx
    ·subst e5
     rw [hmem.dead hus] at h5
     rw [←h5] at hid;exact absurd rfl hid
    ·rw [if_neg e5];exact h5
  ·--memory is turned
   have hk0: ¬e.k=0:=by omega
   have hk1: ¬e.k=1:=by omega
   obtain⟨f1,f2,f3⟩:=foldZ_h (Z:=Z) (Z':=fun k=>decide (k<0+i)) es 0 s0 s0 ⟨rfl,rfl,rfl⟩ fun j e' hje hk=>by rw [Nat.zero_add];exact hkind j e' hje hk k2
   rw [f1,f3,hat.h,hat.us] at hmem
   have hsr:=hmem.sr hdS
   have hout:=hxs R A ι w a.eval hG hop hsr
   have hK: ∀ v' w',Fin R A ι e.v e.S' e.nx' v' w'→J n df R A ι0 es s0 Z' (a.put e.o.dst v') w':=fun v' w' ⟨ι',g1,g2,g3⟩=>by
    refine fin ι' v' w' g1 g3 ?_ ?_
    ·unfold eH eU;rw [if_neg hk0,if_neg hk0,if_neg hk1,if_neg hk1];exact g2.memR
    ·unfold eH eB;rw [if_neg hk0,if_neg hk0,if_neg hk1,if_neg hk1];exact fun id _=>rfl
   generalize (execOp a.eval e.o).run C.P w=y at*
   cases y with
   |halt x y=>exact hout.elim
   |ok nx w1=>
    cases nx with
    |value v=>exact hK _ _ hout
    |skip=>exact hK _ _ hout
    |enter f args=>
     refine⟨fun h=>(by cases h),Calls.callsIn ρc (Calls.mono hout ?_)⟩
     rintro e w' ⟨v,rfl,b⟩
     exact hK _ _ b
    |round l f tmps as_ b=>
     refine⟨fun h=>(by cases h),RoundIn.wide ρc (RoundIn.mono hout ?_)⟩
     rintro e w' ⟨v,rfl,b⟩
     exact hK _ _ b
    |_=>exact hout.elim
end step
end AI
end GV
end Go.Proofs.YtkkcidhcfkmbjaaGreatDoor

namespace Go.Proofs.YtkkcidhcfkmbjaaGreatDoor
namespace GV
namespace AI
theorem foldZ_all{Z:Nat→Bool}: ∀ (l:List Ent) (i:Nat) (s:Fs),(∀ j,i≤j→j<i+l.length→Z j=true)→foldZ Z i l s=foldZ (fun _=>true) i l s
 | [],_,_,_=>rfl
 |e::l,i,s,h=>by
  simp only [foldZ]
  rw [h i (Nat.le_refl _) (by simp)]
  exact foldZ_all l (i+1) _ fun j h1 h2=>h j (by omega) (by simp;omega)
theorem getD_set_same{l:Array Bool}{i:Nat}(h:i<l.size)(d:Bool):(l.setIfInBounds i true).getD i d=true:=by
 rw [Array.getD_eq_getD_getElem?,Array.getElem?_setIfInBounds];simp [h]
theorem getD_set_other{l:Array Bool}{i j:Nat}(h:j≠i)(d:Bool):(l.setIfInBounds i true).getD j d=l.getD j d:=by
 rw [Array.getD_eq_getD_getElem?,Array.getD_eq_getD_getElem?,Array.getElem?_setIfInBounds,if_neg (fun q=>h q.symm)]
section region
variable {C : Cf} {os : List Oper} {n : Nat} {es : List Ent} {s0 : Fs} {ph : List (Nat × HP)} {xm : Nat} {S : HP} {df : List AD} {R : RH} {A : List Frag} {ι0 : Io} {ρc : Option Nat} {Q : Exit → Act → World → Prop}
theorem any_of_j(hx:Cx C os n es s0 ph xm S)(hG:GR C R)(hend: ∀ a w,J n df R A ι0 es s0 (fun _=>true) a w→Q .normal a w):
 ∀ (fuel:Nat) (listed:Array Bool) (a:Act) (w:World),listed.size=os.length→((List.range os.length).filter fun i=> !listed.getD i true).length≤fuel→ClosedZ os (fun k=>listed.getD k false)→J n df R A ι0 es s0 (fun k=>listed.getD k false) a w→
  wpAnyIn (wide ρc) 0 C.P .any os.toArray Q fuel listed a w:=by
 have hdone: ∀ (listed:Array Bool) (a:Act) (w:World),listed.size=os.length→J n df R A ι0 es s0 (fun k=>listed.getD k false) a w→Region.ready .any os.toArray listed=[]→Q .normal a w:=by
  intro listed a w hsz hj hr
  have hall: ∀ k,k<os.length→listed.getD k false=true:=by
   intro k
   induction k using Nat.strongRecOn with
   |_ k ih=>
    intro hk
    cases hz:listed.getD k false with
    |true=>rfl
    |false=>
     exfalso
     have hmem:k∈Region.ready .any os.toArray listed:=by
      refine mem_ready.2 ⟨?_,os[k],by simp,fun e he hb=>?_⟩
      ·rw [Array.getD_eq_getD_getElem?,Array.getElem?_eq_getElem (by omega)] at hz⊢
       simpa using hz
      ·have:=hx.st.back k _ (List.getElem?_eq_getElem hk) e (by simpa using he) hb
       exact ih e.on this (by omega)
     rw [hr] at hmem;cases hmem
  refine hend a w ?_
  have e1:foldZ (fun k=>listed.getD k false) 0 es s0=foldZ (fun _=>true) 0 es s0:=foldZ_all es 0 s0 fun j _ h2=>hall j (by rw [hx.len] at h2;omega)
  unfold J at hj⊢
  rw [e1] at hj
  exact hj
 intro fuel
 induction fuel with
 |zero=>
  intro listed a w hsz hf hc hj
  have hr:Region.ready .any os.toArray listed=[]:=by
   cases hr:Region.ready .any os.toArray listed with
   |nil=>rfl
   |cons x xs=>
    have hxm:x∈Region.ready .any os.toArray listed:=by rw [hr];exact List.mem_cons_self ..
    obtain⟨hun,o,ho,_⟩:=mem_ready.1 hxm
    have:x∈((List.range os.length).filter fun i=> !listed.getD i true):=by
     rw [List.mem_filter,List.mem_range]
     exact⟨by have:=(Array.getElem?_eq_some_iff.1 ho).1;simpa using this,by rw [hun];rfl⟩
    have:=List.length_pos_of_mem this
    omega
  exact⟨hr,hdone listed a w hsz hj hr⟩
 |succ fuel ih=>
  intro listed a w hsz hf hc hj
  refine⟨hdone listed a w hsz hj,fun i hi=>?_⟩
  obtain⟨hun,o,ho,hdep⟩:=mem_ready.1 hi
  have hil:i<os.length:=by have:=(Array.getElem?_eq_some_iff.1 ho).1;simpa using this
  have ho':os[i]? =some o:=by simpa using ho
  have hzi:listed.getD i false=false:=by
   rw [Array.getD_eq_getD_getElem?,Array.getElem?_eq_getElem (by omega)] at hun⊢
   simpa using hun
  have hed: ∀ e∈o.after.toList,Region.binds .any e=true→listed.getD e.on false=true:=fun e he hb=>hdep e (by simpa using he) hb
  refine wpOpIn_mono (fun a' w' h'=>ih _ a' w' (by simpa using hsz) ?_ ?_ h') (j_step (Z':=fun k=>(listed.setIfInBounds i true).getD k false) hx hG hc ho' hzi hed (getD_set_same (by omega) false) (fun j hj'=>getD_set_other hj' false) hj)
  ·have hsub:((List.range os.length).filter fun k=> !(listed.setIfInBounds i true).getD k true)=(((List.range os.length).filter fun k=> !listed.getD k true).filter fun k=>k !=i):=by
    rw [List.filter_filter]
    refine List.filter_congr fun k _=>?_
    by_cases e:k=i
    ·subst e;rw [getD_set_same (by omega)];simp
    ·rw [getD_set_other e];simp [e]
   rw [hsub]
   have hmem:i∈((List.range os.length).filter fun k=> !listed.getD k true):=by
    rw [List.mem_filter,List.mem_range]
    exact⟨hil,by rw [hun];rfl⟩
   have:(((List.range os.length).filter fun k=> !listed.getD k true).filter fun k=>k !=i).length<((List.range os.length).filter fun k=> !listed.getD k true).length:=List.length_filter_lt_length_iff_exists.2 ⟨i,hmem,show¬((i !=i)=true) by simp⟩
   omega
  ·intro k o' hk hz e he hb
   by_cases ek:k=i
   ·subst ek
    rw [ho'] at hk;cases hk
    have h3:=hed e he hb
    show (listed.setIfInBounds k true).getD e.on false=true
    by_cases e4:e.on=k
    ·rw [e4];exact getD_set_same (by omega) false
    ·rw [getD_set_other e4];exact h3
   ·have hz':listed.getD k false=true:=by
     have:(listed.setIfInBounds i true).getD k false=true:=hz
     rwa [getD_set_other ek] at this
    have h3:=hc k o' hk hz' e he hb
    show (listed.setIfInBounds i true).getD e.on false=true
    by_cases e4:e.on=i
    ·rw [e4];exact getD_set_same (by omega) false
    ·rw [getD_set_other e4];exact h3
end region
section code
variable {C : Cf} {β : Type} {r : β} {h : H β} {S : HP} {nx : Nat} {t : TB} {n : Nat} {df : List AD}
def RegS(C:Cf)(c:Code)(n:Nat)(ρ:Option Nat)(t:TB)(df:List AD)(S:HP)(nx:Nat)(t':TB)(df':List AD)(S':HP)(nx':Nat):Prop:=
 ∀ R A ι w a ρc (Q:Exit→Act→World→Prop),GR C R→ActR ι n t df a→RhoR ι ρ ρc→SR R A ι S nx w→(∀ ι' a' w',ILe ι ι'→ActR ι' n t' df' a'→SR R A ι' S' nx' w'→Q .normal a' w')→c.wpIn (wide ρc) 0 C.P Q a w
theorem drK_some{os:List Oper}{ρ:Option Nat}{id:Nat}{K:OK β}(hC:C.Ok)(hh:HOk C h)(hk:drK C h os n t df S nx K=some r): ∃ t' S' nx',K t' df S' nx'=some r∧RegS C (.region id os.toArray true) n ρ t df S nx t' df S' nx':=by
 obtain⟨hok,hk⟩:=og_some hk
 obtain⟨es,T,S',nx',ph,rd,xm,hk,hT,p1,p2,p3,p4,p5⟩:=drL_some hC hh _ _ _ _ _ _ _ _ hk
 obtain⟨hk,hrd⟩:=chkA_some _ hk
 refine⟨T,S',nx',hk,fun R A ι w a ρc Q hG hA hρ hs hQ=>wpIn_region_any hC.mixed ?_⟩
 have hs':SR R A ι S nx {w with drawn:=w.drawn+1}:=hs.same rfl rfl rfl
 have hr:Real C t S nx:=⟨R,A,ι,w,fun k=>a.tmps.getD k undef,hG,hA.tr.get,hs⟩
 obtain⟨a1,a2,a3,a4,a5,a6⟩:=trc_at hA.tr.le es os 0 t S nx ⟨tF t,hg S,hg S,fun j=>decide (j<nx)⟩ hT hA.tr.dep hr ⟨rfl,rfl,rfl⟩
 have hx:Cx C os n es ⟨tF t,hg S,hg S,fun j=>decide (j<nx)⟩ ph xm S:=by
  refine⟨drOk_spec hok,a2,fun j e hj=>?_,a6,fun j e hj=>?_,⟨rfl,p1 _ (List.mem_cons_self ..)⟩,fun j e hj hk'=>by have:=p3 j e hj hk';rwa [Nat.zero_add] at this,fun b hb=>?_,fun j e hj=>?_⟩
  ·obtain⟨b1,b2,b3,b4,b5,b6,b7⟩:=a1 j e hj
   exact⟨b1,b2,b3,b4,b7⟩
  ·obtain⟨b1,b2,b3,b4,b5,b6,b7⟩:=a1 j e hj
   exact decide_eq_false (by omega)
  ·rcases p4 b hb with h1|⟨j,e,h1,h2,h3⟩
   ·rw [bitK_zero] at h1;cases h1
   ·rw [Nat.zero_add] at h3;subst h3;exact⟨e,h1,h2⟩
  ·rcases p5 j e hj with h1|h1|h1|h1
   ·exact .inl h1
   ·exact .inr (.inl h1)
   ·exact .inr (.inr (.inl h1))
   ·rw [Nat.zero_add] at h1
    exact .inr (.inr (.inr fun q hq hc=>hrd j e.o e.t e.v h1 q hq hc))
 have hno: ∀ (k:Nat),(Array.replicate os.toArray.size false).getD k false=false:=fun k=>by
  rw [Array.getD_eq_getD_getElem?,Array.getElem?_replicate];split<;>rfl
 refine any_of_j (df:=df) (A:=A) (ι0:=ι) hx hG (fun a' w' hj=>?_) _ _ a _ (by simp) (by
  refine Nat.le_trans (List.length_filter_le _ _) ?_
  simp) (fun k o hk' hz=>by have h9:(Array.replicate os.toArray.size false).getD k false=true:=hz;rw [hno] at h9;cases h9) ?_
 ·obtain⟨ι',q1,q2,q3,q4,q5,q6⟩:=hj
  rw [a3.h,a3.us] at q5
  refine hQ ι' a' w' q1 ⟨⟨q2,hA.tr.le,a4,fun k=>?_⟩,q4⟩ (q5.sr a5)
  have:=q3 k
  rw [a3.f] at this
  exact this
 ·have e1:foldZ (fun k=>(Array.replicate os.toArray.size false).getD k false) 0 es ⟨tF t,hg S,hg S,fun j=>decide (j<nx)⟩=⟨tF t,hg S,hg S,fun j=>decide (j<nx)⟩:=by
   have key: ∀ (l:List Ent) (m:Nat) (s:Fs),foldZ (fun k=>(Array.replicate os.toArray.size false).getD k false) m l s=s:=by
    intro l
    induction l with
    |nil=>intro m s;rfl
    |cons x l ih=>
     intro m s
     simp only [foldZ]
     rw [if_neg (by rw [hno];simp)]
     exact ih _ _
   exact key _ _ _
  unfold J
  rw [e1]
  exact⟨ι,ILe.refl _,hA.tr.size,hA.tr.get,hA.df,hs'.memR,fun id _=>rfl⟩
theorem ops_reg{os:List Oper}{ρ:Option Nat}{id:Nat}{K:OK β}(hC:C.Ok)(hh:HOk C h)(hk:opsK C h os n ρ os K t df S nx=some r): ∃ t' df' S' nx',K t' df' S' nx'=some r∧RegS C (.region id os.toArray false) n ρ t df S nx t' df' S' nx':=by
 obtain⟨t',df',S',nx',hK,key⟩:=opsK_some hC hh os t df S nx hk
 refine⟨t',df',S',nx',hK,fun R A ι w a ρc Q hG hA hρ hs hQ=>wpIn_region ?_⟩
 have:=wpOpsIn_of_wlo os 0 (fun j=>by simp) a w (key R A ι w a ρc Q hG hA hρ hs hQ)
 simpa [List.range_eq_range'] using this
end code
end AI
end GV
end Go.Proofs.YtkkcidhcfkmbjaaGreatDoor

namespace Go.Proofs.YtkkcidhcfkmbjaaGreatDoor
namespace GV
namespace AI
theorem run_enterLoop_inner{P:Program}{w:World}{fn:FuncId}{tmps:Array Value}{ps:Array Tmp}{assign body:Code}{l:Nat}{rc:Loop}(h:w.heap[l]? =some (.loop rc)):
 (Instr.enterLoop fn tmps ps assign body (some l)).run P w= .ok (w.heap.size,[]) (w.alloc (.loop {state:= .ready,pending:=none,fn,tmps,params:=ps,assign,body,defers:=rc.defers})):=by
 unfold Instr.enterLoop
 simp only [Sem.run_bind,run_newObj_alloc,Result.andThen,Sem.run_pure,run_getLoop h]
theorem res_range{P:Program}{w w':World}{a:Act}{g:Operand}{l:Nat}{d:Deferred}(h:(Deferred.ofValue (a.eval g) [.func (.yield l) #[] #[]].toArray).run P w= .ok d w'):(resolve a.eval (rangeCall g l) 0).run P w= .ok d w':=by
 have e:(rangeCall g l).args.map a.eval=[Value.func (.yield l) #[] #[]].toArray:=by simp [Act.eval]
 show (Deferred.ofValue (a.eval g) ((rangeCall g l).args.map a.eval)).run P w=_
 rw [e];exact h
theorem notBusy_eq{s:LoopState}(h:notBusy s=true):s≠ .busy:=fun e=>by subst e;cases h
section code
variable {C : Cf} {β : Type} {r : β} {h : H β} {S : HP} {nx : Nat} {t : TB} {n : Nat} {df : List AD} {ρ : Option Nat}
theorem aftL_some{l:Nat}{K:EK β}(hh:HOk C h)(hk:aftL C h n ρ t df l S nx K=some r): ∃ e t' df' S' nx',K e t' df' S' nx'=some r∧ ∀ R A ι w a ρc L v (Q:Exit→Act→World→Prop),GR C R→ActR ι n t df a→RhoR ι ρ ρc→SR R A ι S nx w→ι l=some L→
 (∀ e' a' w',PostC R A ι n e t' df' S' nx' e' a' w'→Q e' a' w')→rangePost (wide ρc) 0 C.P L.blk Q a (.returned v) w:=by
 obtain⟨st,pd,t0,n0,ps,as_,bo,d,hid,hk⟩:=loopK_some hk
 obtain⟨hb,hk⟩:=og_some hk
 obtain⟨S1,hU,hk⟩:=putB_some hk
 have hb':=notBusy_eq hb
 have pre: ∀ R A ι w L,SR R A ι S nx w→ι l=some L→ ∃ w4,(Instr.endLoop L.blk).run C.P w= .ok pd w4∧SR R A ι S1 nx w4:=fun R A ι w L hs hL=>by
  obtain⟨L',rc,a1,a2,b1,b2,b3,b4,b5,b6,hs'⟩:=lp_turn hs hid hU
  rw [hL] at a1;cases a1
  have e2:({rc with state:= .exhausted,pending:=pd}:Loop)= {rc with state:= .exhausted}:=by rw [←b2]
  rw [e2] at hs'
  have:=run_endLoop (P:=C.P) a2 (by rw [b1];exact hb')
  refine⟨_,?_,hs'⟩
  rw [←b2];exact this
 cases pd with
 |none=>
  refine⟨.nrm,t,df,S1,nx,hk,fun R A ι w a ρc L v Q hG hA hρ hs hL hQ=>?_⟩
  obtain⟨w4,h1,h2⟩:=pre R A ι w L hs hL
  exact⟨none,w4,h1,hQ _ _ _ ⟨rfl,ι,ILe.refl _,hA,h2⟩⟩
 |some c=>
  obtain⟨e,t',df',S',nx',hsnd,hk⟩:=hh c n ρ t df S1 nx K r hk
  refine⟨e,t',df',S',nx',hk,fun R A ι w a ρc L v Q hG hA hρ hs hL hQ=>?_⟩
  obtain⟨w4,h1,h2⟩:=pre R A ι w L hs hL
  exact⟨some c,w4,h1,wpIn_mono (hsnd R A ι w4 a ρc hG hA hρ h2).1 hQ⟩
theorem fnK_some{fv:AV}{as_:List AV}{K:XK β}(hC:C.Ok)(hh:HOk C h)(hk:fnK C h fv as_ S nx K=some r): ∃ v S' nx',K v S' nx'=some r∧ ∀ R A ι w fvv (vs:List Value),GR C R→VR ι fv fvv→VRs ι as_ vs→SR R A ι S nx w→
 ∃ d f args,(Deferred.ofValue fvv vs.toArray).run C.P w= .ok d w∧(invoke d.target d.args).run C.P w= .ok (.enter f args) w∧Calls C.P f args w fun e w'=> ∃ v',e= .returned v'∧Fin R A ι v S' nx' v' w':=by
 cases fv with
 |fn f bd cp=>
  have hk':appK as_ cp (fun as_=>appK bd as_ fun as_=>callB C h f as_ S nx K)=some r:=hk
  rw [appK_eq,appK_eq] at hk'
  obtain⟨⟨fn,c,hf,hb⟩,v,S',nx',hK,key⟩:=callB_some hC hh hk'
  refine⟨v,S',nx',hK,fun R A ι w fvv vs hG hfv hv hs=>?_⟩
  rw [VR] at hfv
  obtain⟨b,c',rfl,hb',hc'⟩:=hfv
  have hcall:=key R A ι w _ hG (hb'.append (hv.append hc')) hs
  refine⟨{target:= .fn (.func f) c'.toArray,args:=b.toArray++vs.toArray},f,(b++(vs++c')).toArray,rfl,?_,hcall⟩
  have e:b.toArray++vs.toArray++c'.toArray=(b++(vs++c')).toArray:=by simp
  show (callFunc f (b.toArray++vs.toArray++c'.toArray)).run C.P w=_
  rw [e]
  exact run_callFunc hC hf hb
 |_=>cases hk
theorem rngK_some{g:Operand}{ps:Array Tmp}{as_ bo:Code}{K:EK β}(hC:C.Ok)(hh:HOk C h)(hk:rngK g ps as_ bo C h n ρ t df S nx K=some r): ∃ e t' df' S' nx',SndC C (.rangeFunc g ps as_ bo) n ρ t df S nx e t' df' S' nx'∧K e t' df' S' nx'=some r:=by
 unfold rngK at hk
 rw [evK_eq] at hk
 have yv: ∀ {ι:Io} {id:Nat} {L:Loc},ι id=some L→VRs ι [.y id] [.func (.yield L.blk) #[] #[]]:=fun h=>VRs.one (by rw [VR];exact⟨_,h,rfl⟩)
 cases ρ with
 |none=>
  obtain⟨S1,hU1,hk⟩:=newK_some hk
  obtain⟨S2,hU2,hk⟩:=newK_some hk
  obtain⟨v,S3,nx3,hk,hf⟩:=fnK_some hC hh hk
  obtain⟨e,t',df',S',nx',hk,ha⟩:=aftL_some hh hk
  refine⟨e,t',df',S',nx',fun R A ι w a ρc hG hA hρ hs=>wpC_of (wpIn_rangeFunc fun fn _=>?_) rfl,hk⟩
  have hρ':ρc=none:=hρ
  subst hρ'
  obtain⟨d1,g1⟩:=hU1 hs.dep
  obtain⟨hs1,hl1⟩:=hs.new (o:= .deferred (some [])) (cap:=0) d1 g1 rfl
  obtain⟨d2,g2⟩:=hU2 hs1.dep
  have hsz:(w.alloc (.deferred (some []))).heap.size=w.heap.size+1:=Array.size_push ..
  have hl2':ILe (iup ι nx ⟨w.heap.size,0,0⟩) (iup (iup ι nx ⟨w.heap.size,0,0⟩) (nx+1) ⟨(w.alloc (.deferred (some []))).heap.size,0,0⟩):=iup_le (hs1.fresh _ (Nat.le_refl _))
  obtain⟨hs2,hl2⟩:=hs1.new (o:= .loop {state:= .ready,pending:=none,fn,tmps:=a.tmps,params:=ps,assign:=as_,body:=bo,defers:=w.heap.size}) (cap:=0) d2 g2
   ⟨_,rfl,rfl,rfl,(hA.tr.mono hl1).mono hl2',rfl,rfl,rfl,⟨w.heap.size,0,0⟩,hl2' _ _ iup_same,rfl⟩
  obtain⟨d,f,args,r1,r2,r3⟩:=hf R A _ _ (a.eval g) [.func (.yield (w.heap.size+1)) #[] #[]] hG (VR.mono hl2 _ _ (VR.mono hl1 _ _ (hA.eval g))) (by have:=yv (ι:=iup (iup ι nx ⟨w.heap.size,0,0⟩) (nx+1) ⟨(w.alloc (.deferred (some []))).heap.size,0,0⟩) (id:=nx+1) iup_same;rw [hsz] at this;rw [hsz];exact this) hs2
  refine⟨w.heap.size+1,[{target:= .collected w.heap.size,args:= #[]}],_,d,_,f,args,_,run_enterLoop_outer fn a.tmps ps as_ bo,res_range r1,fun _ _=>trivial,r2,fun h=>(by cases h),Calls.callsIn none (Calls.mono r3 ?_)⟩
  rintro e' w' ⟨v',rfl,ι3,hl3,hs3,_⟩
  have hA3:ActR ι3 n t (.mk nx::df) {a with defers:=[({target:= .collected w.heap.size,args:= #[]}:Deferred)]++a.defers}:=
   ⟨((hA.tr.mono hl1).mono hl2).mono hl3,_,_,rfl,⟨⟨w.heap.size,0,0⟩,hl3 _ _ (hl2 _ _ iup_same),rfl⟩,DRs.mono hl3 _ _ (DRs.mono hl2 _ _ (DRs.mono hl1 _ _ hA.df))⟩
  have:=ha R A ι3 w' _ none ⟨w.heap.size+1,0,0⟩ v' (PostC R A ι n e t' df' S' nx') hG hA3 rfl hs3 (by have:=hl3 _ _ (iup_same (ι:=iup ι nx ⟨w.heap.size,0,0⟩) (k:=nx+1) (L:=⟨(w.alloc (.deferred (some []))).heap.size,0,0⟩));rw [hsz] at this;exact this) (fun e' a' w' hp=>PostC.mono (hl1.trans (hl2.trans hl3)) hp)
  exact this
 |some l=>
  obtain⟨st0,pd0,t0,n0,ps0,as0,bo0,d0,hid,hk⟩:=loopK_some hk
  obtain⟨S2,hU2,hk⟩:=newK_some hk
  obtain⟨v,S3,nx3,hk,hf⟩:=fnK_some hC hh hk
  obtain⟨e,t',df',S',nx',hk,ha⟩:=aftL_some hh hk
  refine⟨e,t',df',S',nx',fun R A ι w a ρc hG hA hρ hs=>wpC_of (wpIn_rangeFunc fun fn _=>?_) rfl,hk⟩
  obtain⟨L,hL,rfl⟩:=hρ
  obtain⟨L',rc,a1,a2,b1,b2,b3,b4,b5,b6,Ld,c1,c2⟩:=lp_at hs hid
  rw [hL] at a1;cases a1
  obtain⟨d2,g2⟩:=hU2 hs.dep
  have hl2':ILe ι (iup ι nx ⟨w.heap.size,0,0⟩):=iup_le (hs.fresh _ (Nat.le_refl _))
  obtain⟨hs2,hl2⟩:=hs.new (o:= .loop {state:= .ready,pending:=none,fn,tmps:=a.tmps,params:=ps,assign:=as_,body:=bo,defers:=rc.defers}) (cap:=0) d2 g2
   ⟨_,rfl,rfl,rfl,hA.tr.mono hl2',rfl,rfl,rfl,Ld,hl2' _ _ c1,c2⟩
  obtain⟨d,f,args,r1,r2,r3⟩:=hf R A _ _ (a.eval g) [.func (.yield w.heap.size) #[] #[]] hG (VR.mono hl2 _ _ (hA.eval g)) (yv iup_same) hs2
  refine⟨w.heap.size,[],_,d,_,f,args,_,run_enterLoop_inner a2,res_range r1,fun _ _=>trivial,r2,fun h=>(by cases h),Calls.callsIn (some L.blk) (Calls.mono r3 ?_)⟩
  rintro e' w' ⟨v',rfl,ι3,hl3,hs3,_⟩
  have hA3:ActR ι3 n t df {a with defers:=[]++a.defers}:=⟨(hA.tr.mono hl2).mono hl3,DRs.mono hl3 _ _ (DRs.mono hl2 _ _ hA.df)⟩
  exact ha R A ι3 w' _ (some L.blk) ⟨w.heap.size,0,0⟩ v' (PostC R A ι n e t' df' S' nx') hG hA3 ⟨L,hl3 _ _ (hl2 _ _ hL),rfl⟩ hs3 (hl3 _ _ iup_same) (fun e' a' w' hp=>PostC.mono (hl2.trans hl3) hp)
theorem snd_reg{c:Code}{t':TB}{df':List AD}{S':HP}{nx':Nat}(hr:RegS C c n ρ t df S nx t' df' S' nx')(hl:isLoop c=none):SndC C c n ρ t df S nx .nrm t' df' S' nx':=
 fun R A ι w a ρc hG hA hρ hs=>wpC_of (hr R A ι w a ρc _ hG hA hρ hs fun ι' a' w' h1 h2 h3=>⟨rfl,ι',h1,h2,h3⟩) hl
theorem no_goto{R:RH}{A:List Frag}{ι:Io}{e:Ex}{t':TB}{df':List AD}{S':HP}{nx':Nat}{l:Nat}{a:Act}{w:World}: ¬PostC R A ι n e t' df' S' nx' (.goto l) a w:=fun h=>by
 have:=h.1
 cases e<;>cases this
theorem stepK_some{c:Code}{K:EK β}(hC:C.Ok)(hh:HOk C h)(hk:stepK c C h n ρ t df S nx K=some r): ∃ e t' df' S' nx',SndC C c n ρ t df S nx e t' df' S' nx'∧K e t' df' S' nx'=some r:=by
 cases c with
 |skip=>exact⟨.nrm,t,df,S,nx,fun R A ι w a ρc hG hA hρ hs=>wpC_of (wpIn_skip ⟨rfl,ι,ILe.refl _,hA,hs⟩) rfl,hk⟩
 |label l=>exact⟨.nrm,t,df,S,nx,fun R A ι w a ρc hG hA hρ hs=>wpC_of (wpIn_label ⟨rfl,ι,ILe.refl _,hA,hs⟩) rfl,hk⟩
 |exit j=>exact⟨.ex j,t,df,S,nx,fun R A ι w a ρc hG hA hρ hs=>wpC_of (wpIn_exit ⟨rfl,ι,ILe.refl _,hA,hs⟩) rfl,hk⟩
 |ret=>exact⟨.ret,t,df,S,nx,fun R A ι w a ρc hG hA hρ hs=>wpC_of (wpIn_ret ⟨rfl,ι,ILe.refl _,hA,hs⟩) rfl,hk⟩
 |region id ops d=>
  have e1:ops=ops.toList.toArray:=by simp
  cases d with
  |false=>
   obtain⟨t',df',S',nx',hK,hr⟩:=ops_reg (id:=id) hC hh hk
   rw [←e1] at hr
   exact⟨.nrm,t',df',S',nx',snd_reg hr rfl,hK⟩
  |true=>
   obtain⟨t',S',nx',hK,hr⟩:=drK_some (ρ:=ρ) (id:=id) hC hh hk
   rw [←e1] at hr
   exact⟨.nrm,t',df,S',nx',snd_reg hr rfl,hK⟩
 |seq x y=>
  obtain⟨e,t1,df1,S1,nx1,hs1,hk⟩:=hh _ _ _ _ _ _ _ _ _ hk
  cases e with
  |nrm=>
   obtain⟨e2,t2,df2,S2,nx2,hs2,hk⟩:=hh _ _ _ _ _ _ _ _ _ hk
   refine⟨e2,t2,df2,S2,nx2,fun R A ι w a ρc hG hA hρ hs=>wpC_of (wpIn_seq (wpIn_mono (hs1 R A ι w a ρc hG hA hρ hs).1 ?_)) rfl,hk⟩
   rintro e' a' w' ⟨rfl,ι',h1,h2,h3⟩
   exact wpIn_mono (hs2 R A ι' w' a' ρc hG h2 (hρ.mono h1) h3).1 fun e a w h=>PostC.mono h1 h
  |ex j=>
   refine⟨.ex j,t1,df1,S1,nx1,fun R A ι w a ρc hG hA hρ hs=>wpC_of (wpIn_seq (wpIn_mono (hs1 R A ι w a ρc hG hA hρ hs).1 ?_)) rfl,hk⟩
   rintro e' a' w' ⟨rfl,x⟩
   exact⟨rfl,x⟩
  |ret=>
   refine⟨.ret,t1,df1,S1,nx1,fun R A ι w a ρc hG hA hρ hs=>wpC_of (wpIn_seq (wpIn_mono (hs1 R A ι w a ρc hG hA hρ hs).1 ?_)) rfl,hk⟩
   rintro e' a' w' ⟨rfl,x⟩
   exact⟨rfl,x⟩
 |cond x a b=>
  have hk':evK x t (fun v=>asB v fun v=>Bool.casesOn (motive:=fun _=>Option β) v (h b n ρ t df S nx K) (h a n ρ t df S nx K))=some r:=hk
  rw [evK_eq] at hk'
  obtain⟨v,hv,hk'⟩:=asB_some hk'
  have hc: ∀ {ι:Io} {ac:Act},ActR ι n t df ac→ac.eval x= .bool v:=fun hA=>by
   have:=hA.eval x
   rw [hv,VR] at this;exact this
  cases v with
  |true=>
   obtain⟨e,t1,df1,S1,nx1,hs1,hk'⟩:=hh _ _ _ _ _ _ _ _ _ hk'
   exact⟨e,t1,df1,S1,nx1,fun R A ι w ac ρc hG hA hρ hs=>wpC_of (wpIn_cond_split (hc hA) (fun _=>(hs1 R A ι w ac ρc hG hA hρ hs).1) (fun e=>by cases e)) rfl,hk'⟩
  |false=>
   obtain⟨e,t1,df1,S1,nx1,hs1,hk'⟩:=hh _ _ _ _ _ _ _ _ _ hk'
   exact⟨e,t1,df1,S1,nx1,fun R A ι w ac ρc hG hA hρ hs=>wpC_of (wpIn_cond_split (hc hA) (fun e=>by cases e) (fun _=>(hs1 R A ι w ac ρc hG hA hρ hs).1)) rfl,hk'⟩
 |block id x=>
  obtain⟨e,t1,df1,S1,nx1,hs1,hk⟩:=hh _ _ _ _ _ _ _ _ _ hk
  cases e with
  |nrm=>
   refine⟨.nrm,t1,df1,S1,nx1,fun R A ι w a ρc hG hA hρ hs=>wpC_of (wpIn_block (wpIn_mono (hs1 R A ι w a ρc hG hA hρ hs).1 ?_)) rfl,hk⟩
   rintro e' a' w' ⟨rfl,y⟩
   exact⟨rfl,y⟩
  |ret=>
   refine⟨.ret,t1,df1,S1,nx1,fun R A ι w a ρc hG hA hρ hs=>wpC_of (wpIn_block (wpIn_mono (hs1 R A ι w a ρc hG hA hρ hs).1 ?_)) rfl,hk⟩
   rintro e' a' w' ⟨rfl,y⟩
   exact⟨rfl,y⟩
  |ex j=>
   have hk':Bool.casesOn (motive:=fun _=>Option β) (Nat.beq j id) (K (.ex j) t1 df1 S1 nx1) (K .nrm t1 df1 S1 nx1)=some r:=hk
   cases hj:Nat.beq j id with
   |false=>
    rw [hj] at hk'
    refine⟨.ex j,t1,df1,S1,nx1,fun R A ι w a ρc hG hA hρ hs=>wpC_of (wpIn_block (wpIn_mono (hs1 R A ι w a ρc hG hA hρ hs).1 ?_)) rfl,hk'⟩
    rintro e' a' w' ⟨rfl,y⟩
    have hne: ¬j=id:=fun e=>by subst e;rw [Nat.beq_refl] at hj;cases hj
    show Exit.inBlock id _ (.exit j) a' w'
    simp only [Exit.inBlock]
    rw [if_neg hne]
    exact⟨rfl,y⟩
   |true=>
    rw [hj] at hk'
    refine⟨.nrm,t1,df1,S1,nx1,fun R A ι w a ρc hG hA hρ hs=>wpC_of (wpIn_block (wpIn_mono (hs1 R A ι w a ρc hG hA hρ hs).1 ?_)) rfl,hk'⟩
    rintro e' a' w' ⟨rfl,y⟩
    have he:j=id:=Nat.eq_of_beq_eq_true hj
    show Exit.inBlock id _ (.exit j) a' w'
    simp only [Exit.inBlock]
    rw [if_pos he]
    exact⟨rfl,y⟩
 |scope x=>
  obtain⟨e,t1,df1,S1,nx1,hs1,hk⟩:=hh _ _ _ _ _ _ _ _ _ hk
  exact⟨e,t1,df1,S1,nx1,fun R A ι w a ρc hG hA hρ hs=>wpC_of (wpIn_scope (hs1 R A ι w a ρc hG hA hρ hs).1 fun l a w=>no_goto) rfl,hk⟩
 |loop x=>
  obtain⟨e,t1,df1,S1,nx1,hs1,hk⟩:=hh _ _ _ _ _ _ _ _ _ hk
  cases e with
  |nrm=>
   obtain⟨e2,t2,df2,S2,nx2,hs2,hk⟩:=hh _ _ _ _ _ _ _ _ _ hk
   refine⟨e2,t2,df2,S2,nx2,fun R A ι w a ρc hG hA hρ hs=>wpC_loop (wpIn_mono (hs1 R A ι w a ρc hG hA hρ hs).1 ?_),hk⟩
   rintro e' a' w' ⟨rfl,ι',h1,h2,h3⟩
   exact((hs2 R A ι' w' a' ρc hG h2 (hρ.mono h1) h3).2 x rfl).mono fun e a w h=>PostC.mono h1 h
  |ex j=>
   refine⟨.ex j,t1,df1,S1,nx1,fun R A ι w a ρc hG hA hρ hs=>wpC_loop (wpIn_mono (hs1 R A ι w a ρc hG hA hρ hs).1 ?_),hk⟩
   rintro e' a' w' ⟨rfl,y⟩
   exact⟨rfl,y⟩
  |ret=>
   refine⟨.ret,t1,df1,S1,nx1,fun R A ι w a ρc hG hA hρ hs=>wpC_loop (wpIn_mono (hs1 R A ι w a ρc hG hA hρ hs).1 ?_),hk⟩
   rintro e' a' w' ⟨rfl,y⟩
   exact⟨rfl,y⟩
 |rangeFunc g ps as_ bo=>exact rngK_some hC hh hk
 |_=>cases hk
theorem execK_ok(hC:C.Ok): ∀ (m:Nat),HOk (β:=β) C (execK C m)
 |0=>fun c n ρ t df S nx K r hk=>by cases hk
 |m+1=>fun c n ρ t df S nx K r hk=>stepK_some hC (execK_ok hC m) hk
theorem call_ok{m f:Nat}{as_:List AV}{v:AV}(hC:C.Ok)(hk:callB C (execK C m) f as_ .e 0 (fun v _ _=>some v)=some v){R:RH}(hG:GR C R){vs:List Value}(hv:VRs (fun _=>none) as_ vs):
 CallP C.P f vs.toArray R fun v' _=> ∃ ι,VR ι v v':=by
 obtain⟨_,v',S',nx',hK,key⟩:=callB_some hC (execK_ok hC m) hk
 cases hK
 intro A w hh
 have hs:SR R A (fun _=>none) .e 0 w:=by
  refine⟨by decide,⟨emp,⟨hh.ro,fun f hf k o hb=>?_,List.pairwise_cons.2 ⟨fun g hg k=> .inl rfl,hh.sep⟩,hh.os,hh.out⟩,⟨fun id hid=>absurd rfl hid,fun id id' L L' hid=>absurd rfl hid⟩⟩,fun id _=>rfl,fun id L hL=>by cases hL⟩
  rcases List.mem_cons.1 hf with rfl|hf
  ·cases hb
  ·exact hh.own f hf k o hb
 refine Calls.mono (key R A _ w vs hG hv hs) ?_
 rintro e w' ⟨v',rfl,ι',_,hs',hv'⟩
 obtain⟨f,hf,_⟩:=hs'.ex
 exact⟨v',rfl,R,RH.le.refl _,holds_drop hf,ι',hv'⟩
end code
end AI
end GV
end Go.Proofs.YtkkcidhcfkmbjaaGreatDoor
