
import Derived.Test.YtkcccdcloealfaaGreatLaw09d
set_option linter.unusedVariables false
set_option linter.unusedSimpArgs false
namespace Go.Proofs.YtkcccdcloealfaaGreat
namespace GV
set_option maxRecDepth 1000000
def zjn:List Nat:=[1,2,4,8,16,32,64]
def rgM(n:Nat):Mach:=⟨1,2,(List.range 64).map fun s:Nat=>[⟨((s:Int)+1)%64,(((s:Int)%(n:Int))+1)/(n:Int)⟩]⟩
def rgQ(n:Nat):Mach:=⟨1,2,(List.range n).map fun c:Nat=>[⟨(((c+1)%n:Nat):Int),if c+1=n then 1 else 0⟩]⟩
def rgW:List Int:=List.replicate 64 0
theorem q6y: ∀ n∈zjn,z0z (rgM n)=0∧z0z (rgQ n)=0:=by decide+kernel
theorem zit: ∀ n∈zjn,∀ s,s<64→s%n<n∧ou (rgQ n) (s%n) 0=ou (rgM n) s 0∧ed (rgQ n) (s%n) 0=hI (· %n) (ed (rgM n) s 0):=by decide+kernel
theorem q8s: ∀ n∈zjn,∀ c,c<n→(z2x (rgQ n) (c:Int) rgW).idxOf 1=n-1-c:=by decide+kernel
theorem zv9: ∀ n∈zjn,1≤n∧n≤64:=by decide+kernel
theorem z9q(n:Nat):(rgM n).rows.length=64:=by simp [rgM]
theorem zz2(n:Nat):(rgQ n).rows.length=n:=by simp [rgQ]
section
variable {n : Nat} (hn : n ∈ zjn)
include hn
theorem q7y:Hom (rgM n) (rgQ n) (· %n):=by
 have h:=q6y n hn
 have b:=zit n hn
 refine⟨(z2y _).1 h.1,(z2y _).1 h.2,rfl,fun s a=>?_,fun s i a hi=>?_,fun s i a hi=>?_⟩
 ·rw [z9q] at a;rw [zz2];exact(b s a).1
 ·rw [z9q] at a;obtain rfl:i=0:=by have:i<1:=hi;omega
  exact(b s a).2.1
 ·rw [z9q] at a;obtain rfl:i=0:=by have:i<1:=hi;omega
  exact(b s a).2.2
theorem ztx{s t:Nat}(b:s<64)(c:t<64):cls (rgM n) s=cls (rgM n) t↔s%n=t%n:=by
 have H:=q7y hn
 have hs':s<(rgM n).rows.length:=by rw [z9q];exact b
 have ht':t<(rgM n).rows.length:=by rw [z9q];exact c
 rw [zpd H.ok hs' ht']
 constructor
 ·intro h
  have a:WOk (rgM n).inputs rgW:=fun k d=>by
   have hk':k<64:=by simpa [rgW] using d
   have:rgW.getD k default=0:=by unfold rgW;rw [List.getD_eq_getElem?_getD,List.getElem?_replicate,if_pos hk'];rfl
   rw [this];exact⟨by decide,by show (0:Int)<1;decide⟩
  have e:=(H.run rgW hs' a).1
  have f:=(H.run rgW ht' a).1
  have g:=q8s n hn (s%n) (zit n hn s b).1
  have i:=q8s n hn (t%n) (zit n hn t c).1
  rw [e,h rgW a,←f,i] at g
  have:=(zit n hn s b).1
  have:=(zit n hn t c).1
  omega
 ·intro h w a
  rw [←(H.run w hs' a).1,←(H.run w ht' a).1,h]
theorem zo1{u:Nat}(a:u<64):z1v (cls (rgM n)) u=decide (u<n):=by
 have b:=zv9 n hn
 rw [Bool.eq_iff_iff,decide_eq_true_iff,oo]
 constructor
 ·intro h
  by_cases e:u<n
  ·exact e
  ·exact absurd ((ztx hn (show u-n<64 by omega) a).2 (by
    have:u=(u-n)+n:=by omega
    rw [this,Nat.add_mod_right];simp)) (h (u-n) (by omega))
 ·intro h t c e
  have:=(ztx hn (by omega) a).1 e
  rw [Nat.mod_eq_of_lt h,Nat.mod_eq_of_lt (by omega)] at this
  omega
theorem zyr: ∀ {c:Nat},c≤n→cntF (cls (rgM n)) c=c
 |0,_=>rfl
 |c+1,h=>by
  have a:=zv9 n hn
  show cntF _ c+_=_
  rw [zyr (by omega),zo1 hn (by omega),decide_eq_true (by omega),if_pos rfl]
theorem q7u{s:Nat}(a:s<64):cls (rgM n) s=s%n:=by
 have c:=zv9 n hn
 have b:=(zit n hn s a).1
 rw [←z9p]
 unfold name
 rw [zlu (u:=s%n) (by rw [zo1 hn (by omega)];exact decide_eq_true b) ((ztx hn (by omega) a).2 (Nat.mod_mod _ _)) (Nat.mod_le _ _),zyr hn (by omega)]
theorem q5v:z2f (cls (rgM n)) 64=(List.range 64).filter fun u=>decide (u<n):=by
 unfold z2f
 exact List.filter_congr fun u a=>zo1 hn (List.mem_range.1 a)
end
theorem q9r: ∀ n∈zjn,((List.range 64).filter fun u=>decide (u<n)).map (fun u=>((rgM n).rows.getD u default).map fun e=>(⟨hI (· %n) e.to,e.out⟩:Edge))=(rgQ n).rows:=by decide+kernel
theorem q88: ∀ n∈zjn,∀ u<64,∀ e∈(rgM n).rows.getD u default,0≤e.to∧e.to<64:=by decide+kernel
theorem q0f{n:Nat}(hn:n∈zjn):z1q (rgM n)=rgQ n:=by
 unfold z1q
 rw [z9q,q5v hn]
 have:((List.range 64).filter fun u=>decide (u<n)).map (fun u=>((rgM n).rows.getD u default).map fun e=>(⟨hI (cls (rgM n)) e.to,e.out⟩:Edge))=(rgQ n).rows:=by
  rw [←q9r n hn]
  refine List.map_congr_left fun u a=>List.map_congr_left fun e b=>?_
  have h:=q88 n hn u (List.mem_range.1 (List.mem_filter.1 a).1) e b
  unfold hI
  rw [if_neg (by omega),if_neg (by omega),q7u hn (by omega)]
 rw [this];rfl
theorem q5x: ∀ n∈zjn,(z8n (rgQ n)).rows.length=n∧((z3s (rch (rgQ n) 0)).idxOf (63%n)=63%n∧(z3s (rch (rgQ n) 0)).idxOf 0=0)∧occ (rch (rgM n) 0) 63=true∧occ (rch (rgM n) 0) (n%64)=true:=by decide+kernel
theorem q2y: ∀ n∈zjn,nk 2000 (n:Int) 2000 0 []=some (rgM n).rows:=by decide+kernel
end GV
end Go.Proofs.YtkcccdcloealfaaGreat

namespace Go.Proofs.YtkcccdcloealfaaGreat
namespace GV
set_option maxRecDepth 1000000
theorem zzi{n k:Int}(o:0≤n∧n<60)(g:0≤k∧k≤100002): ∃ r,uy 2000 n 2000 k [] [] 0=some r∧(0≤r.1∧r.1≤100002)∧RngL 65535 r.2.1∧RngL 255 r.2.2:=by
 refine z3c (σ:=Int×List Int×List Int) (fun F i s=>uy 2000 n F s.1 s.2.1 s.2.2 (i:Int)) 18
  (fun i s=>(0≤s.1∧s.1≤100002)∧RngL 65535 s.2.1∧RngL 255 s.2.2∧s.2.1.length=i∧s.2.2.length=i) _ (fun F i s hi h=> .inr ?_) (fun F s h=>?_) 2000 0 (k,[],[]) (Nat.zero_le _) (by omega) ⟨g,fun z j=>by simp at j,fun z j=>by simp at j,rfl,rfl⟩
 ·obtain⟨a,l,t⟩:=s
  obtain⟨f,d,e,b,c⟩:=h
  dsimp only at f d e b c⊢
  have m:=Int.emod_nonneg (a*31+7*(i:Int)+11) (show (100003:Int)≠0 by decide)
  have p:=Int.emod_lt_of_pos (a*31+7*(i:Int)+11) (show (0:Int)<100003 by decide)
  refine⟨((a*31+7*(i:Int)+11)%100003,l++[IntKind.u16.wrap ((a*31+7*(i:Int)+11)%100003%(8+n))],t++[IntKind.u8.wrap ((a*31+7*(i:Int)+11)%100003/7)]),⟨?_,?_,?_,?_,?_⟩,?_⟩
  rotate_right
  ·simp only [uy]
   rw [yf (by omega),zk (qy (by omega)),zk (qy (by omega)),zk (qy (by omega)),zk (qy (by omega)),zk ⟨by omega,by omega⟩,zk (qy (by omega)),zk ⟨by omega,by omega⟩,zk ⟨by simp only [List.length_singleton];omega,by simp only [List.length_singleton];omega⟩,zk ⟨by omega,by omega,by omega⟩,zk ⟨by simp only [List.length_singleton];omega,by simp only [List.length_singleton];omega⟩,zk (qy (by omega))]
   rfl
  ·exact⟨m,by omega⟩
  ·exact d.snoc (zwi _)
  ·exact e.snoc (z9i _)
  ·simp only [List.length_append,List.length_singleton];omega
  ·simp only [List.length_append,List.length_singleton];omega
 ·obtain⟨a,l,t⟩:=s
  obtain⟨f,d,e,b,c⟩:=h
  dsimp only at f d e b c⊢
  simp only [uy]
  rw [uw (by omega)]
  exact⟨_,rfl,f,d,e⟩
theorem zc8{a b:Int}{p:Bool}{l:List Int}(c:RngL 65535 l):MDOk ⟨IntKind.u8.wrap a,IntKind.u8.wrap b,1,p,l⟩:=⟨z9i _,z9i _,(show (0:Int)≤1∧(1:Int)≤255 by decide),c.get⟩
theorem zrb{a b:Int}{t l:List Int}(c:RngL 255 t)(d:RngL 65535 l):CDOk ⟨IntKind.u8.wrap a,IntKind.u8.wrap b,1,t,l⟩:=⟨z9i _,z9i _,(show (0:Int)≤1∧(1:Int)≤255 by decide),c.get,d.get⟩
theorem zzm: ∃ r,uz 2000 2000 1 0=some r∧r= .go ():=by
 refine z3c (σ:=Int) (fun F n k=>uz 2000 F k (n:Int)) 60 (fun n k=>0≤k∧k≤100002) _ (fun F n k g c=> .inr ?_) (fun F k c=>?_) 2000 0 1 (Nat.zero_le _) (by omega) (by omega)
 ·obtain⟨⟨a,l,t⟩,f,e,b,d⟩:=zzi (n:=(n:Int)) (by omega) c
  dsimp only at e b d
  refine⟨a,e,?_⟩
  simp only [uz]
  rw [yf (by omega),zx f]
  dsimp only
  rw [zk ⟨by omega,by omega,by omega⟩,zk ⟨by omega,by omega⟩,zk ⟨by omega,by omega,by omega⟩,zk ⟨by omega,by omega,by omega⟩]
  refine(zx (zq2 (zc8 b) zpk)).trans ?_
  refine(zx (x:=some true) ((znq rfl).trans (by rw [q2u (zc8 b) zpk];rfl))).trans ?_
  refine(zx (x:=some true) ((znq rfl).trans (by rw [ztp (zc8 b) (fun k c=>(b.get k c).1)];rfl))).trans ?_
  refine(zx (x:=some true) ((znq rfl).trans (by rw [ztj (zc8 b) (zrb d b)];rfl))).trans ?_
  refine(zk (fun _=>⟨by omega,by omega⟩)).trans ?_
  refine(zk (fun _=>qy (by omega))).trans ?_
  refine(zk (fun _=>⟨by omega,by omega,by simp only [List.length_cons,List.length_nil];omega⟩)).trans ?_
  refine(zx (x:=some true) ((znq rfl).trans (by rw [zjs (zc8 b) (zc8 b) zpk];rfl))).trans ?_
  refine(zx (x:=some true) ((znq rfl).trans (by rw [q74 (zrb d b)];rfl))).trans ?_
  refine(cf rfl).trans ?_
  exact zk (qy (by omega))
 ·simp only [uz]
  rw [uw (by omega)]
  exact⟨_,rfl,rfl⟩
theorem q44{n:Nat}(a:n∈zjn):z3u 2000 (rgM n)=some (l7 (rgM n),z7t (rgM n),0):=zph (q7y a).ok (by decide)
theorem z7e{n F G:Nat}{k k':Int}(a:n∈zjn)(i:G=F+1)(j:k=(n:Int))(hk':k'=(n:Int)*2):u7 2000 G k=u7 2000 F k':=by
 subst i j hk'
 have z:=zv9 n a
 obtain⟨m,⟨o,p⟩,r,t⟩:=q5x n a
 have u:=q2y n a
 have c:=q44 a
 have hmin:(l7 (rgM n)).rows.length=n:=by unfold l7;rw [q0f a];exact m
 have b:(z7t (rgM n)).length=64:=by rw [zc7,z9q]
 have d (s:Nat) (f:s<64) (v:occ (rch (rgM n) 0) s=true):(z7t (rgM n)).getD s default=(((z3s (rch (rgQ n) 0)).idxOf (s%n):Nat):Int):=by
  rw [z8c (by rw [z9q];exact f)]
  unfold z9x z0r
  rw [if_pos v,q0f a,q7u a f]
 have g:ix (z7t (rgM n)) 63=(63:Int)%(n:Int):=by
  show (z7t (rgM n)).getD 63 default=_
  rw [d 63 (by decide) r,o];rfl
 have h:ix (z7t (rgM n)) ((n:Int)%64)=0:=by
  have:(n:Int)%64=((n%64:Nat):Int):=by omega
  rw [this,z0a,d _ (Nat.mod_lt _ (by decide)) t]
  have:n%64%n=0:=by
   by_cases e:n=64
   ·subst e;rfl
   ·rw [show n%64=n from Nat.mod_eq_of_lt (by omega),Nat.mod_self]
  rw [this,p];rfl
 generalize l7 (rgM n)=q at c hmin
 generalize z7t (rgM n)=l at c b g h
 have w:wz 2000 (rgM n)=some (⟨q.inputs,q.outputs,q.rows⟩,0):=by unfold wz;rw [c];rfl
 have x:z1a 2000 (rgM n)=some (l,0):=by unfold z1a;rw [c];rfl
 simp only [u7]
 rw [yf (by omega),zx u]
 refine(zx w).trans ?_
 refine(zx x).trans ?_
 have y:decide ((q.rows.length:Int)≠(n:Int))=false:=by rw [hmin];simp
 dsimp only
 rw [y,g,h]
 refine(zk (fun _=>⟨by omega,by rw [b];decide⟩)).trans ?_
 refine(zk (fun _=>⟨by omega,by omega⟩)).trans ?_
 refine(zk (fun _=>⟨by omega,by omega⟩)).trans ?_
 refine(zk (fun _=>⟨by omega,by rw [b];omega⟩)).trans ?_
 refine(cf (by simp)).trans ?_
 exact zk (qy (by omega))
theorem zxm(F:Nat):u7 2000 (F+1) 128=some (.go ()):=by
 simp only [u7]
 rw [uw (by decide)]
theorem q0s:u7 2000 2000 1=some (.go ()):=by
 rw [z7e (n:=1) (F:=1999) (G:=2000) (k:=1) (k':=2) (by decide) rfl rfl rfl,z7e (n:=2) (F:=1998) (G:=1999) (k:=2) (k':=4) (by decide) rfl rfl rfl,z7e (n:=4) (F:=1997) (G:=1998) (k:=4) (k':=8) (by decide) rfl rfl rfl,
  z7e (n:=8) (F:=1996) (G:=1997) (k:=8) (k':=16) (by decide) rfl rfl rfl,z7e (n:=16) (F:=1995) (G:=1996) (k:=16) (k':=32) (by decide) rfl rfl rfl,z7e (n:=32) (F:=1994) (G:=1995) (k:=32) (k':=64) (by decide) rfl rfl rfl,z7e (n:=64) (F:=1993) (G:=1994) (k:=64) (k':=128) (by decide) rfl rfl rfl]
 exact zxm 1992
theorem zwm:z0s 2000=some true:=by
 unfold z0s
 rw [zx q0s]
 rw [zir]
 obtain⟨r,a,rfl⟩:=zzm
 rw [zx a]
 rw [zir,zx z6h]
end GV
end Go.Proofs.YtkcccdcloealfaaGreat
