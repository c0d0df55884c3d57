import Derived.Test.YtkkcidhcfkmbjaaGreatDoorAiLive
import Derived.Test.YtkkcidhcfkmbjaaGreatDoorShBridge
import Derived.Deep.DeepHandedRow
import Derived.Deep.DeepLaidRun
set_option linter.unusedVariables false
set_option linter.unusedSimpArgs false
set_option linter.unusedSectionVars false
namespace Go.Proofs.YtkkcidhcfkmbjaaGreatDoor
namespace GV
open _root_.Go.Proofs.Tryz
open Go.ChangeShapes Go.WideShapes Go.ChangeAt Go.RowKit
set_option maxRecDepth 100000
theorem zgv{P:Program}{w:World}: ∀ {l:List (String×DataW Unit)} {ps:List MemPlace},DataW.LaidVars P w l ps→ ∀ {n:String} {d:DataW Unit},(n,d)∈l→
 ∃ g t cs fuel p,P.globalNamed n=some g∧(P.globals[g]?).map (·.type)=some t∧w.var? P n=some cs∧DataW.trod (fun _=>()) P w 0 (fun _=>true) false fuel t cs.toList=some (d,p)
 | [],_,_,_,_,a=>by cases a
 |(n,d)::r,ps,⟨g,t,cs,fuel,p,q,b,c,f,h,i,_⟩,n',d',a=>by
  rcases List.mem_cons.1 a with e|a
  ·cases e;exact⟨g,t,cs,fuel,p,b,c,f,h⟩
  ·exact zgv i a
theorem g_pairs : prog.globalNamed "gauntlet/lexemes.pairs" = some 1 := by kernel_rfl
theorem t_pairs:(prog.globals[1]?).map (·.type)=some 308:=by kernel_rfl
theorem c9:prog.cellsOf 9=1:=by kernel_rfl
theorem zv3:prog.cellsOf 308=5:=by kernel_rfl
theorem znr{W:World}(h:laidMetH prog Rows.topUniteRow.laid W):laidMet prog Rows.topUniteRow.laid W:=by
 have e:Rows.topUniteRow.laid.filter (fun x=>x.2.handleName?.isSome)=[]:=by kernel_rfl
 unfold laidMetH at h
 rw [e] at h
 exact h
theorem zhw{w:World}{cs:List Value}{fuel:Nat}{p:List MemPlace}(h:DataW.trod (fun _=>()) prog w 0 (fun _=>true) false fuel 308 cs=some (Rows.laid_gauntlet_lexemes_pairs,p))(ι:AI.Io):
 AI.VRs ι [.s [45,62],.s [60,61],.s [62,61],.s [33,61],.s [58,61]] cs:=by
 obtain⟨xs,m,rfl,q,r,L,hi⟩:=DataW.trod_array underlying308 h
 rw [zv3] at r
 obtain⟨c,_⟩:=Prod.mk.inj q
 unfold Rows.laid_gauntlet_lexemes_pairs at c
 injection c with c
 have each: ∀ i l,i<5→(xs.map (·.1))[i]? =some (.lit (.string l))→ ∃ b:ByteArray,cs[i]? =some (.string b)∧l.map (·.toNat)=b.data.toList.map (·.toNat):=by
  intro i l d o
  have f:=hi i d
  rw [c9,Nat.mul_one] at f
  rw [List.getElem?_map,Option.map_eq_some_iff] at o
  obtain⟨x,g,a⟩:=o
  rw [g] at f
  obtain⟨b,t,j,_⟩:=DataW.trod_string underlying9 f
  rw [j] at a
  injection a with a
  injection a with a
  refine⟨b,?_,by rw [a]⟩
  have:=congrArg (·[0]?) t
  simpa [List.getElem?_take,List.getElem?_drop] using this
 rw [←c] at each
 obtain⟨u,v,y⟩:=each 0 _ (by decide) rfl
 obtain⟨z,A,B⟩:=each 1 _ (by decide) rfl
 obtain⟨C,D,E⟩:=each 2 _ (by decide) rfl
 obtain⟨F,G,H⟩:=each 3 _ (by decide) rfl
 obtain⟨I,J,K⟩:=each 4 _ (by decide) rfl
 have k:cs=[.string u,.string z,.string C,.string F,.string I]:=by
  apply List.ext_getElem?
  intro i
  match i with
  |0=>exact v
  |1=>exact A
  |2=>exact D
  |3=>exact G
  |4=>exact J
  |n+5=>rw [List.getElem?_eq_none (by omega)];rfl
 subst k
 have mk: ∀ (l:List Nat) (b:ByteArray),l=b.data.toList.map (·.toNat)→AI.VR ι (.s l) (.string b):=fun l b e=>by rw [AI.VR];exact⟨b,rfl,e⟩
 refine AI.VRs_cons.2 ⟨_,_,rfl,mk _ _ y,AI.VRs_cons.2 ⟨_,_,rfl,mk _ _ B,AI.VRs_cons.2 ⟨_,_,rfl,mk _ _ E,AI.VRs_cons.2 ⟨_,_,rfl,mk _ _ H,AI.VRs_cons.2 ⟨_,_,rfl,mk _ _ K,AI.VRs_nil.2 rfl⟩⟩⟩⟩⟩
theorem ziq{W:World}(b:laidMetH prog Rows.topUniteRow.laid W):AI.GR AI.Cc (rh0 W):=by
 obtain⟨ps,d,_,_⟩:=znr b
 obtain ⟨g, t, cs, fuel, p, e, f, a, h⟩ := zgv d (show ("gauntlet/lexemes.pairs", Rows.laid_gauntlet_lexemes_pairs) ∈ Rows.topUniteRow.laid from List.mem_of_getElem? (i := 4) rfl)
 obtain rfl:=Option.some.inj (g_pairs.symm.trans e)
 obtain rfl:=Option.some.inj (t_pairs.symm.trans f)
 unfold World.var? at a
 rw [g_pairs] at a
 intro g l j
 have hm':(g,l)∈[(1,[.s [45,62],.s [60,61],.s [62,61],.s [33,61],.s [58,61]])]:=j
 obtain⟨rfl,rfl⟩:=Prod.mk.inj (List.mem_singleton.1 hm')
 simp only [Option.bind_some] at a
 split at a
 ·rename_i c ty fr hb
  injection a with a
  subst a
  exact⟨c,ty,fr,hb,fun ι=>zhw h ι⟩
 ·cases a
def lay(c:Array Value):Obj→Obj
 | .cells _ t frozen=> .cells c t frozen
 |o=>o
noncomputable def laidHeap(h:Array Obj):Array Obj:=
 let h:=h.modify 1 (lay #[.string ⟨#[45,62]⟩,.string ⟨#[60,61]⟩,.string ⟨#[62,61]⟩,.string ⟨#[33,61]⟩,.string ⟨#[58,61]⟩])
 let h:=h.modify 2 (lay (Go.Pinned.utf8FirstZ.map fun n:Nat=>Value.int .u8 (n:Int)).toArray)
 let h:=h.modify 3 (lay #[.int .u8 128,.int .u8 191,.int .u8 160,.int .u8 191,.int .u8 128,.int .u8 159,.int .u8 144,.int .u8 191,.int .u8 128,.int .u8 143,.int .u8 0,.int .u8 0,.int .u8 0,.int .u8 0,.int .u8 0,.int .u8 0,.int .u8 0,.int .u8 0,.int .u8 0,.int .u8 0,.int .u8 0,.int .u8 0,.int .u8 0,.int .u8 0,.int .u8 0,.int .u8 0,.int .u8 0,.int .u8 0,.int .u8 0,.int .u8 0,.int .u8 0,.int .u8 0])
 let h:=h.modify 4 (lay #[.int .u64 1,.int .u64 10,.int .u64 100,.int .u64 1000,.int .u64 10000,.int .u64 100000,.int .u64 1000000,.int .u64 10000000,.int .u64 100000000,.int .u64 1000000000,.int .u64 10000000000,.int .u64 100000000000,.int .u64 1000000000000,.int .u64 10000000000000,.int .u64 100000000000000,.int .u64 1000000000000000,.int .u64 10000000000000000,.int .u64 100000000000000000,.int .u64 1000000000000000000,.int .u64 10000000000000000000])
 let h:=h.modify 5 (lay #[.int .u8 0,.int .u8 1,.int .u8 28,.int .u8 2,.int .u8 29,.int .u8 14,.int .u8 24,.int .u8 3,.int .u8 30,.int .u8 22,.int .u8 20,.int .u8 15,.int .u8 25,.int .u8 17,.int .u8 4,.int .u8 8,.int .u8 31,.int .u8 27,.int .u8 13,.int .u8 23,.int .u8 21,.int .u8 19,.int .u8 16,.int .u8 7,.int .u8 26,.int .u8 12,.int .u8 18,.int .u8 6,.int .u8 11,.int .u8 5,.int .u8 10,.int .u8 9])
 let h:=h.modify 6 (lay #[.int .u8 0,.int .u8 1,.int .u8 56,.int .u8 2,.int .u8 57,.int .u8 49,.int .u8 28,.int .u8 3,.int .u8 61,.int .u8 58,.int .u8 42,.int .u8 50,.int .u8 38,.int .u8 29,.int .u8 17,.int .u8 4,.int .u8 62,.int .u8 47,.int .u8 59,.int .u8 36,.int .u8 45,.int .u8 43,.int .u8 51,.int .u8 22,.int .u8 53,.int .u8 39,.int .u8 33,.int .u8 30,.int .u8 24,.int .u8 18,.int .u8 12,.int .u8 5,.int .u8 63,.int .u8 55,.int .u8 48,.int .u8 27,.int .u8 60,.int .u8 41,.int .u8 37,.int .u8 16,.int .u8 46,.int .u8 35,.int .u8 44,.int .u8 21,.int .u8 52,.int .u8 32,.int .u8 23,.int .u8 11,.int .u8 54,.int .u8 26,.int .u8 40,.int .u8 15,.int .u8 34,.int .u8 20,.int .u8 31,.int .u8 10,.int .u8 25,.int .u8 14,.int .u8 19,.int .u8 9,.int .u8 13,.int .u8 8,.int .u8 7,.int .u8 6])
 h
noncomputable def laidWorld(os:Os):World:= {World.holding prog os ⟨#[],#[],[]⟩ with heap:=laidHeap (World.holding prog os ⟨#[],#[],[]⟩).heap}
theorem zmx(os:Os)(args:Array Value):laidMetH prog Rows.topUniteRow.laid ((laidWorld os).forCall (fun _ _=>0) ⟨#[],args,[]⟩).memory:=by
 have e:Rows.topUniteRow.laid.filter (fun x=>x.2.handleName?.isSome)=[]:=by kernel_rfl
 unfold laidMetH
 rw [e]
 exact laidMet_of_run3 8 (by kernel_rfl) (by kernel_rfl) (by kernel_rfl)
end GV
end Go.Proofs.YtkkcidhcfkmbjaaGreatDoor
