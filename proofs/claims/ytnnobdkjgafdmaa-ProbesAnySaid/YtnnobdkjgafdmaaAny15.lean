import Derived.Test.YtnnobdkjgafdmaaBld15
import Derived.Test.YtnnobdkjgafdmaaChk15
import Derived.Test.YtnnobdkjgafdmaaWds15
set_option linter.unusedVariables false
set_option linter.unusedSimpArgs false
set_option linter.unusedSectionVars false
namespace Go.Proofs.Ytnnobdkjgafdmaa
namespace GV
set_option maxRecDepth 100000
theorem zuq{m:Mach}: ∃ e,z08 5000 m=some e∧(e=0→m.rows.length≤8∧ ∀ k,k<m.rows.length→(m.rows.getD k default).length≤4):=by
 unfold z08
 by_cases h:8<(m.rows.length:Int)
 ·rw [xu h];exact⟨1,rfl,fun e=>by cases e⟩
 ·rw [yo h]
  have key: ∀ F (k:Nat),k≤m.rows.length→m.rows.length-k<F→(∀ j,j<k→(m.rows.getD j default).length≤4)→ ∃ r,gp 5000 m F (k:Int)=some r∧(r=Ex.rt 1∨(r=Ex.go ()∧ ∀ j,j<m.rows.length→(m.rows.getD j default).length≤4)):=by
   intro F
   induction F with
   |zero=>intro k _ h;omega
   |succ F ih=>
    intro k f g hi
    unfold gp
    by_cases e:k=m.rows.length
    ·subst e
     rw [yo (by omega)];exact⟨_,rfl,.inr ⟨rfl,hi⟩⟩
    ·rw [xu (by omega),zl (jk (by omega)),z0g]
     by_cases a:4<((m.rows.getD k default).length:Int)
     ·rw [xu a];exact⟨_,rfl,.inl rfl⟩
     ·rw [yo a,zl (jb (by omega)),yt]
      exact ih (k+1) (by omega) (by omega) fun j b=>by
       by_cases ej:j=k
       ·subst ej;omega
       ·exact hi j (by omega)
  obtain⟨r,c,a⟩:=key 5000 0 (Nat.zero_le _) (by omega) fun j b=>by omega
  rw [qc (show gp 5000 m 5000 0=some r from c)]
  rcases a with rfl|⟨rfl,d⟩
  ·exact⟨1,rfl,fun e=>by cases e⟩
  ·exact⟨0,rfl,fun _=>⟨by omega,d⟩⟩
theorem zsu{m:Mach}(a:Small m):z09 5000 m=some (readyI m):=by
 unfold z09 readyI
 rw [qc (zon a (by decide))]
 by_cases h:properM m=0
 ·rw [yo (fun e=>e h),if_neg (fun e=>e h)]
  by_cases h6:6<m.rows.length
  ·rw [xu (by omega),if_pos h6]
  ·rw [yo (by omega),if_neg h6]
 ·rw [xu h,if_pos h]
theorem zyl{m:Mach}(a:Small m)(h:readyI m≠0)(s mo:Int):z04 5000 m s mo=some ([],readyI m)∧aa 5000 m mo=some ([],readyI m)∧z1d 5000 m=some (⟨[]⟩,readyI m)∧z0f 5000 m ⟨[]⟩=some (readyI m):=by
 refine⟨?_,?_,?_,?_⟩
 ·unfold z04;rw [qc (ready_eq a),xu h]
 ·unfold aa;rw [qc (ready_eq a),xu h]
 ·unfold z1d;rw [qc (ready_eq a),xu h]
 ·unfold z0f;rw [qc (ready_eq a),xu h]
theorem zs2{m:Mach}(a:PM m)(e:m.inputs≤4){s most:Int}(f: ¬(4<most∧most≤256)):(∃ r,z04 5000 m s most=some r∧((r=([],1)∧((most<0∨256<most)∨s<0∨(m.rows.length:Int)≤s))∨(¬((most<0∨256<most)∨s<0∨(m.rows.length:Int)≤s)∧ ∃ k:Nat,s=(k:Int)∧k<m.rows.length∧Told m most.toNat (zeo m k) r∧most≤4)))∧
 ∃ r,aa 5000 m most=some r∧((r=([],1)∧(most<0∨256<most))∨(¬(most<0∨256<most)∧Told m most.toNat (fun w=> ∀ s,s<m.rows.length→zeo m s w) r∧most≤4)):=by
 have b: ∀ n:Nat,n≤4→nIn m^n≤4096:=fun n g=>Nat.le_trans (Nat.pow_le_pow_left (show nIn m≤4 by have:=a.toCM.nin;omega) n) (Nat.le_trans (Nat.pow_le_pow_right (by decide) g) (by decide))
 refine⟨?_,?_⟩
 ·by_cases hb:(most<0∨256<most)∨s<0∨(m.rows.length:Int)≤s
  ·refine⟨([],1),?_,.inl ⟨rfl,hb⟩⟩
   unfold z04
   rw [qc a.ready_eq,yo (fun h=>h rfl)]
   have:(((decide (s<0)||decide ((m.rows.length:Int)≤s))||decide (most<0))||decide (256<most))=true:=by
    rw [Bool.or_eq_true,Bool.or_eq_true,Bool.or_eq_true,decide_eq_true_iff,decide_eq_true_iff,decide_eq_true_iff,decide_eq_true_iff];omega
   exact ct this
  ·obtain⟨k,rfl⟩: ∃ k:Nat,s=(k:Int):=⟨s.toNat,by omega⟩
   obtain⟨n,rfl⟩: ∃ n:Nat,most=(n:Int):=⟨most.toNat,by omega⟩
   obtain⟨r,c,d⟩:=zwe a (show k<m.rows.length by omega) (show n≤256 by omega) (b n (by omega))
   exact⟨r,c,.inr ⟨hb,k,rfl,by omega,d,by omega⟩⟩
 ·by_cases hb:most<0∨256<most
  ·refine⟨([],1),?_,.inl ⟨rfl,hb⟩⟩
   unfold aa
   rw [qc a.ready_eq,yo (fun h=>h rfl)]
   have:(decide (most<0)||decide (256<most))=true:=by
    rw [Bool.or_eq_true,decide_eq_true_iff,decide_eq_true_iff];omega
   exact ct this
  ·obtain⟨n,rfl⟩: ∃ n:Nat,most=(n:Int):=⟨most.toNat,by omega⟩
   obtain⟨r,c,d⟩:=zno a (show n≤256 by omega) (b n (by omega))
   exact⟨r,c,.inr ⟨hb,d,by omega⟩⟩
theorem zx9{m:Mach}{s most:Int}:ib 5000 m s most=some true:=by
 obtain⟨e,D,E⟩:=zuq (m:=m)
 unfold ib
 rw [qc D]
 by_cases l:e≠0∨(4<most∧most≤256)
 ·have:(decide (e≠0)||(decide (4<most)&&decide (most≤256)))=true:=by
   rw [Bool.or_eq_true,Bool.and_eq_true,decide_eq_true_iff,decide_eq_true_iff,decide_eq_true_iff];exact l
  exact ct this
 ·have hq':(decide (e≠0)||(decide (4<most)&&decide (most≤256)))=false:=by
   rw [←Bool.not_eq_true,Bool.or_eq_true,Bool.and_eq_true,decide_eq_true_iff,decide_eq_true_iff,decide_eq_true_iff];exact l
  have F:e=0:=by
   by_cases h:e=0
   ·exact h
   ·exact absurd (.inl h) l
  obtain⟨Y,x⟩:=E F
  have A:Small m:=⟨by omega,fun k n=>by have:=x k n;omega⟩
  rw [cf hq',qc (zsu A)]
  by_cases hr:readyI m=0
  ·have d:=zyh hr
   have B:=d.pos
   have o:m.inputs≤4:=by
    have:=d.ok.row 0 B
    have:=x 0 B
    omega
   obtain⟨⟨a,G,p⟩,b,H,q⟩:=zs2 d o (s:=s) (most:=most) (fun h=>l (.inr h))
   rw [qc G,qc H,qc (zp0 d),qc (show z0f 5000 m (⟨([]:(List Sa))⟩:Sc)=some 4 from zsq d (by simp) rfl),hr,yo (fun h=>h rfl)]
   rw [decide_eq_false (show¬(4:Int)≠4 from fun h=>h rfl),Bool.false_or]
   have I:(decide ((if 0≤FT m (num m.rows.length (z92 m)) then((⟨zq6 m⟩:Sc),(0:Int)) else((⟨[]⟩:Sc),7)).2≠0)&&decide ((if 0≤FT m (num m.rows.length (z92 m)) then((⟨zq6 m⟩:Sc),(0:Int)) else((⟨[]⟩:Sc),7)).2≠7))=false:=by
    split<;>rfl
   rw [cf I]
   have J:(decide ((decide (most<0)||decide (256<most))≠decide (b.2=1))||decide ((((decide (most<0)||decide (256<most))||decide (s<0))||decide ((m.rows.length:Int)≤s))≠decide (a.2=1)))=false:=by
    have f:(decide (most<0)||decide (256<most))=decide (b.2=1):=by
     rw [Bool.eq_iff_iff,Bool.or_eq_true,decide_eq_true_iff,decide_eq_true_iff,decide_eq_true_iff]
     rcases q with⟨rfl,r⟩|⟨r,g,_⟩
     ·exact⟨fun _=>rfl,fun _=>r⟩
     ·refine⟨fun h=>absurd h r,fun h=>?_⟩
      rcases g with⟨w,rfl,_⟩|⟨rfl,_⟩<;>cases h
    have i:(((decide (most<0)||decide (256<most))||decide (s<0))||decide ((m.rows.length:Int)≤s))=decide (a.2=1):=by
     rw [Bool.eq_iff_iff,Bool.or_eq_true,Bool.or_eq_true,Bool.or_eq_true,decide_eq_true_iff,decide_eq_true_iff,decide_eq_true_iff,decide_eq_true_iff,decide_eq_true_iff]
     rcases p with⟨rfl,C⟩|⟨C,k,rfl,_,j,_⟩
     ·exact⟨fun _=>rfl,fun _=>by omega⟩
     ·refine⟨fun h=>absurd (by omega) C,fun h=>?_⟩
      rcases j with⟨w,rfl,_⟩|⟨rfl,_⟩<;>cases h
    rw [i,f,decide_eq_false (fun h=>h rfl),decide_eq_false (fun h=>h rfl)];rfl
   rw [cf J]
   have K: ∃ y,gop (true&&((decide (a.2=0))==true)) (dz 5000 m a.1 s)=some y∧((decide (a.2=0))&&(!(y.getD default)))=false:=by
    by_cases h:a.2=0
    ·rcases p with⟨rfl,_⟩|⟨_,k,rfl,n,j,L⟩
     ·cases h
     ·rcases j with⟨w,rfl,M,t,u,_⟩|⟨rfl,_⟩
      ·obtain⟨c,f,i⟩:=zgz d n t (by omega)
       refine⟨some c,zd9 rfl f,?_⟩
       rw [i.2 u];rfl
      ·cases h
    ·exact⟨none,zjs (by rw [decide_eq_false h];rfl),by rw [decide_eq_false h];rfl⟩
   obtain⟨y,N,O⟩:=K
   rw [qc N,O]
   have v: ∃ z,gop ((true&&(false==false))&&((decide (b.2=0))==true)) (ax 5000 m b.1)=some z∧((decide (b.2=0))&&(!(z.getD default)))=false:=by
    by_cases h:b.2=0
    ·rcases q with⟨rfl,_⟩|⟨_,g,L⟩
     ·cases h
     ·rcases g with⟨w,rfl,M,t,u,_⟩|⟨rfl,_⟩
      ·obtain⟨c,f,i⟩:=zou d t (by omega)
       refine⟨some c,zd9 rfl f,?_⟩
       rw [i.2 u];rfl
      ·cases h
    ·exact⟨none,zjs (by rw [decide_eq_false h];rfl),by rw [decide_eq_false h];rfl⟩
   obtain⟨z,P,Q⟩:=v
   rw [qc P,Q]
   refine(cf rfl).trans ?_
   have R:(decide (a.2=0)||decide ((a.1.length:Int)=0))=true:=by
    rw [Bool.or_eq_true,decide_eq_true_iff,decide_eq_true_iff]
    rcases p with⟨rfl,_⟩|⟨_,k,_,_,j,_⟩
    ·exact .inr rfl
    ·rcases j with⟨w,rfl,_⟩|⟨rfl,_⟩
     ·exact .inl rfl
     ·exact .inr rfl
   have S:(decide (b.2=0)||decide ((b.1.length:Int)=0))=true:=by
    rw [Bool.or_eq_true,decide_eq_true_iff,decide_eq_true_iff]
    rcases q with⟨rfl,_⟩|⟨_,g,_⟩
    ·exact .inr rfl
    ·rcases g with⟨w,rfl,_⟩|⟨rfl,_⟩
     ·exact .inl rfl
     ·exact .inr rfl
   rw [R,S]
   exact qc (zd9 rfl zmc)
  ·obtain⟨T,U,V,W⟩:=zyl A hr s most
   rw [qc T,qc U,qc V,qc (show z0f 5000 m (⟨([]:(List Sa))⟩:Sc)=_ from W),xu hr]
   have X:decide (readyI m=readyI m)=true:=decide_eq_true rfl
   dsimp only
   rw [X,zl (fun _=>by decide),zl (fun _=>by decide)]
   exact qc (zd9 rfl zmc)
end GV
end Go.Proofs.Ytnnobdkjgafdmaa
