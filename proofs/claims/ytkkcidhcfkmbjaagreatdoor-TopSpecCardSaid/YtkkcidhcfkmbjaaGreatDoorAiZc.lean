import Derived.Test.YtkkcidhcfkmbjaaGreatDoorAiZd
import Derived.Shelf.Strings.OnBuilder
set_option linter.unusedVariables false
set_option linter.unusedSimpArgs false
set_option linter.unusedSectionVars false
namespace Go.Proofs.YtkkcidhcfkmbjaaGreatDoor
namespace GV
namespace AI
open Go.Shelf
theorem map_toNat_inj{a b:List UInt8}(h:a.map (·.toNat)=b.map (·.toNat)):a=b:=by
 induction a generalizing b with
 |nil=>cases b with
  |nil=>rfl
  |cons y b=>cases h
 |cons x a ih=>cases b with
  |nil=>cases h
  |cons y b=>
   simp only [List.map_cons,List.cons.injEq] at h
   rw [UInt8.toNat_inj.1 h.1,ih h.2]
section joins
variable {β : Type} {r : β}
theorem joinK_some{sb:List UInt8}: ∀ (q:List AV) (K:List Nat→Option β),joinK (sb.map (·.toNat)) q K=some r→ ∃ l,K l=some r∧ ∀ ι (cs:List Value),VRs ι q cs→
 ∃ xs:List ByteArray,cs=xs.map .string∧l=(Lib.join (xs.map (·.data.toList)) sb).map (·.toNat)
 | [],K,h=>⟨[],h,fun ι cs hv=>⟨[],by rw [VRs_nil.1 hv];rfl,rfl⟩⟩
 | .s x::q,K,h=>by
  cases q with
  |nil=>
   refine⟨x,h,fun ι cs hv=>?_⟩
   obtain⟨v,ws,rfl,hv1,hw⟩:=VRs_cons.1 hv
   rw [VRs_nil.1 hw]
   rw [VR] at hv1
   obtain⟨b,rfl,rfl⟩:=hv1
   exact⟨[b],rfl,by rw [List.map_cons,List.map_nil,Lib.join_one]⟩
  |cons y q=>
   have h':joinK (sb.map (·.toNat)) (y::q) (fun l=>appK (sb.map (·.toNat)) l fun l=>appK x l K)=some r:=h
   obtain⟨l,h2,key⟩:=joinK_some (y::q) _ h'
   rw [appK_eq,appK_eq] at h2
   refine⟨_,h2,fun ι cs hv=>?_⟩
   obtain⟨v,ws,rfl,hv1,hw⟩:=VRs_cons.1 hv
   obtain⟨xs,rfl,rfl⟩:=key ι ws hw
   rw [VR] at hv1
   obtain⟨b,rfl,rfl⟩:=hv1
   refine⟨b::xs,rfl,?_⟩
   cases xs with
   |nil=>
    have:=VRs.len hw
    simp at this
   |cons z zs=>
    simp only [List.map_cons,Lib.join_cons,Lib.joinTail,List.flatten_cons,List.map_append,List.append_assoc]
 | .bad::_,_,h=>by cases h
 | .b _::_,_,h=>by cases h
 | .i _ _::_,_,h=>by cases h
 | .np::_,_,h=>by cases h
 | .p _ _::_,_,h=>by cases h
 | .gp _ _::_,_,h=>by cases h
 | .ns::_,_,h=>by cases h
 | .sl _ _ _ _::_,_,h=>by cases h
 | .os _ _ _ _::_,_,h=>by cases h
 | .nm::_,_,h=>by cases h
 | .m _::_,_,h=>by cases h
 | .nf::_,_,h=>by cases h
 | .fn _ _ _::_,_,h=>by cases h
 | .y _::_,_,h=>by cases h
 | .ni::_,_,h=>by cases h
 | .ag _::_,_,h=>by cases h
 | .tu _::_,_,h=>by cases h
variable {C : Cf} {ρ : Ren}
theorem ext2(L:Lays.n156 C.P ρ)(X:Builder.Extra C.P ρ)(hcall: ∀ vs w,(callFunc (ρ.f 156) vs).run C.P w= .ok (.enter (ρ.f 156) vs) w)
 {al:List AV} {S:HP} {nx:Nat} {K:AV→Option β} (hk:extK 2 al S K=some r): ∃ v,K v=some r∧
 ∀ R A ι w (vs:List Value),GR C R→VRs ι al vs→SR R A ι S nx w→Out C.P (Fin R A ι v S nx) ((callFunc (ρ.f 156) vs.toArray).run C.P w):=by
 unfold extK at hk
 split at hk
 ·contradiction
 ·contradiction
 ·rename_i x sep _
  obtain⟨hcap,hk⟩:=og_some hk
  have fin: ∀ {m:Nat} {q:List AV},joinK sep q (fun l=>og (Bool.and (Nat.ble m 1000000) (Nat.ble (lenK l) 1000000)) (K (.s l)))=some r→
   (∀ ι w v,VR ι x v→MR C ι (hg S) w→ ∃ p c cs,v= .slice p m c∧VRs ι q cs∧cs.length=m∧m≤c∧(m≠0→ ∃ a,p=some a∧a.spot=none∧a.block<w.heap.size∧ ∀ j y,cs[j]? =some y→w.cell? ⟨a.block,a.off+j,none⟩=some y))→
   ∃ v,K v=some r∧ ∀ R A ι w (vs:List Value),GR C R→VRs ι [x,.s sep] vs→SR R A ι S nx w→Out C.P (Fin R A ι v S nx) ((callFunc (ρ.f 156) vs.toArray).run C.P w):=by
   intro m q hj hx
   by_cases hs: ∃ sb:List UInt8,sep=sb.map (·.toNat)
   ·obtain⟨sb,rfl⟩:=hs
    obtain⟨l,hl,key⟩:=joinK_some q _ hj
    obtain⟨h1,hl⟩:=og_some hl
    obtain⟨h2,h3⟩:=band h1
    refine⟨_,hl,fun R A ι w vs hG hv hsr=>?_⟩
    obtain⟨v1,ws,rfl,hv1,hws⟩:=VRs_cons.1 hv
    obtain⟨v2,ws2,rfl,hv2,hws2⟩:=VRs_cons.1 hws
    rw [VRs_nil.1 hws2]
    obtain⟨p,c,cs,rfl,hq,hlen,hmc,hp⟩:=hx ι w v1 hv1 (hsr.mr hG)
    obtain⟨xs,rfl,rfl⟩:=key ι cs hq
    rw [VR] at hv2
    obtain⟨sp,rfl,hsp⟩:=hv2
    have hsp':=map_toNat_inj hsp
    rw [hcall]
    have done: ∀ (e:Ending) (w':World),(e= .returned (.string ⟨(Lib.join (xs.map (·.data.toList)) sb).toArray⟩)∧RowKit.Below w.heap.size w w')→ ∃ v',e= .returned v'∧Fin R A ι (.s ((Lib.join (xs.map (·.data.toList)) sb).map (·.toNat))) S nx v' w':=fun e w' ⟨he,hb⟩=>
     ⟨_,he,ι,ILe.refl _,hsr.below ⟨hb.os,hb.output,hb.size,hb.block⟩,by rw [VR];exact⟨_,rfl,rfl⟩⟩
    have hxl:xs.length=m:=by simpa using hlen
    by_cases h0:m=0
    ·subst h0
     have:xs=[]:=List.length_eq_zero_iff.1 hxl
     subst this
     refine Calls.mono (Any.strings_Join_none L X p c sp w) fun e w' ⟨he,hw⟩=>done e w' ⟨?_,hw▸RowKit.Below.refl _ _⟩
     rw [he];rfl
    ·obtain⟨a,rfl,ha1,ha2,ha3⟩:=hp h0
     obtain⟨bk,off,spot⟩:=a
     simp only at ha1 ha2 ha3
     subst ha1
     have hj:=Any.strings_Join L X bk off c xs sp w (fun j y hy=>ha3 j (.string y) (by simp [hy])) ha2 (by rw [hxl];have:=Nat.le_of_ble_eq_true h2;omega) (by omega) (by
      rw [←hsp']
      have:=Nat.le_of_ble_eq_true h3
      rw [lenK_eq,List.length_map] at this
      omega)
     rw [←hsp',hxl] at hj
     exact Calls.mono hj done
   ·have hv: ∀ ι (vs:List Value),¬VRs ι [x,.s sep] vs:=fun ι vs hv=>by
     obtain⟨v1,ws,rfl,hv1,hws⟩:=VRs_cons.1 hv
     obtain⟨v2,ws2,rfl,hv2,hws2⟩:=VRs_cons.1 hws
     rw [VR] at hv2
     obtain⟨sp,_,hsp⟩:=hv2
     exact hs ⟨_,hsp⟩
    have: ∀ (q:List AV) (K':List Nat→Option β),joinK sep q K'=some r→ ∃ l,K' l=some r:=by
     intro q
     induction q with
     |nil=>intro K' h;exact⟨_,h⟩
     |cons y q ih=>
      intro K' h
      cases y with
      |s z=>
       cases q with
       |nil=>exact⟨_,h⟩
       |cons y q=>
        obtain⟨l,h2⟩:=ih _ (show joinK sep (y::q) (fun l=>appK sep l fun l=>appK z l K')=some r from h)
        rw [appK_eq,appK_eq] at h2
        exact⟨_,h2⟩
      |_=>cases h
    obtain⟨l,h2⟩:=this _ _ hj
    obtain⟨_,h3⟩:=og_some h2
    exact⟨_,h3,fun R A ι w vs hG hv'=>absurd hv' (hv ι vs)⟩
  unfold srcK at hk
  split at hk
  ·refine fin hk fun ι w v hv hm=>?_
   rw [VR] at hv;subst hv
   exact⟨none,0,[],rfl,VRs_nil.2 rfl,rfl,Nat.le_refl _,fun h=>absurd rfl h⟩
  ·obtain⟨q,hq,hk⟩:=ob_some hk
   obtain⟨id,off,len⟩:=q
   obtain⟨l,o,hid,hk⟩:=blkK_some hk
   obtain⟨hn,hk⟩:=subK_some hk
   have hn':off+len≤l.length:=by
    have:off+len*1≤l.length:=hn
    omega
   have e1:Nat.mul len 1=len:=Nat.mul_one len
   simp only [e1] at hk
   refine fin hk fun ι w v hv hm=>?_
   obtain⟨L',ob,b1,b2,b3⟩:=hm.blk id (by rw [hid];simp)
   rw [hid] at b3
   obtain⟨c,ty,rfl,hvs,_⟩:=b3
   have hcells:VRs ι ((l.drop off).take len) ((((c.toList.drop L'.base).take l.length).drop off).take len):=(hvs.drop off).take len
   have hlen:((((c.toList.drop L'.base).take l.length).drop off).take len).length=len:=by
    rw [VRs.len hcells,List.length_take,List.length_drop];omega
   have hat: ∀ j y,((((c.toList.drop L'.base).take l.length).drop off).take len)[j]? =some y→w.cell? ⟨L'.blk,L'.base+off+j,none⟩=some y:=fun j y hy=>by
    have hj:j<len:=by rw [←hlen];exact(List.getElem?_eq_some_iff.1 hy).1
    rw [List.getElem?_take_of_lt hj,List.getElem?_drop,List.getElem?_take_of_lt (by omega),List.getElem?_drop] at hy
    simp only [World.cell?,b2]
    rw [←Array.getElem?_toList]
    simp only [Option.isSome_none,Bool.false_eq_true,if_false]
    rw [show L'.base+off+j=L'.base+(off+j) from by omega]
    exact hy
   have hlt:=(Array.getElem?_eq_some_iff.1 b2).1
   rcases slAt_some hq with⟨id',off',len',cap,rfl,e⟩|⟨id',j,len',k,rfl,e⟩
   ·cases e
    rw [VR] at hv
    obtain⟨L,hL,rfl⟩:=hv
    rw [hL] at b1;cases b1
    exact⟨_,_,_,rfl,hcells,hlen,Nat.le_of_ble_eq_true hcap,fun _=>⟨_,rfl,rfl,hlt,hat⟩⟩
   ·cases e
    rw [VR] at hv
    obtain⟨L,a,c',hL,rfl,g1,g2,g3⟩:=hv
    rw [hL] at b1;cases b1
    refine⟨_,_,_,rfl,hcells,hlen,g1,fun h0=>?_⟩
    have:=g3 (by omega)
    subst this
    exact⟨_,rfl,rfl,hlt,hat⟩
 ·contradiction
end joins
end AI
end GV
end Go.Proofs.YtkkcidhcfkmbjaaGreatDoor
