import Derived.Test.YtncblcdhmcmkmaaShWd
import Derived.Test.YtncblcdhmcmkmaaShXa
import Derived.Test.YtncblcdhmcmkmaaShXb
import Derived.Test.YtncblcdhmcmkmaaRows
set_option linter.unusedVariables false
set_option linter.unusedSimpArgs false
namespace Go.Proofs.Ytncblcdhmcmkmaa
namespace GV
open _root_.Go.Proofs.Try
open Go.IntWalk
set_option maxRecDepth 100000
set_option maxHeartbeats 20000000
theorem z0v{N:Nat}{R:RH}{m:Mach}{b:Value}(c:VRep (qy false false) R b m){r:(List (List Int))×(List Bool)}(a:tu N m=some r):CallP prog 13 #[b] R (fun v R'=> ∃ j k,v= .tuple #[j,k]∧VRep (tSl true (tSl false (zw .i64))) R' j r.1∧VRep (tSl true bn) R' k r.2):=by
 refine ql (args:=[b]) func13 rfl rfl fun A=>?_;rw [tu] at a;refine zn (uj (T:=(qy false false)) rfl rfl rfl c fun q s d l t=>?_);refine zi vs0 (zi vs0 (jd (zq (jr z1x rfl rfl l (c.mono d)) ?_)));obtain⟨u,n,a⟩:=zk a
 refine qx rfl zun rfl (z4n (c.mono d) n) fun w o g p=>?_;obtain⟨e,f,rfl,h,i⟩:=p;refine zq (qa rfl rfl) (zq (qa rfl rfl) (zi e (zi f (za (qw ?_)))));obtain rfl:=Option.some.inj a
 refine qd (D:=[]) (J:=[]) (rs:=[.tmp 2,.tmp 3]) (vs:=[e,f]) (d.trans g) rfl rfl ⟨rfl,rfl,trivial⟩ ?_;exact⟨rfl,⟨e,f,rfl,h,i⟩⟩
theorem zsb:Enters prog 13:=enters_of func13 rfl (by kernel_rfl)
end GV
end Go.Proofs.Ytncblcdhmcmkmaa
