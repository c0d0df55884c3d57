import Derived.Test.YtkkcidhcfkmbjaaGreatDoorDif
set_option linter.unusedVariables false
set_option linter.unusedSimpArgs false
set_option linter.unusedSectionVars false
namespace Go.Proofs.YtkkcidhcfkmbjaaGreatDoor
namespace GV
set_option maxRecDepth 100000
theorem zgv{κ β:Type}[DecidableEq κ]{M:List (κ×β)}{k t:κ}{v z:β}:ai z (z1q M k v) t=if t=k then v else ai z M t:=by
 induction M with
 |nil=>simp [z1q,ai]
 |cons p l ih=>
  unfold z1q
  by_cases h:k=p.1
  ·rw [if_pos h]
   simp only [ai]
   by_cases ht:t=k
   ·rw [if_pos ht,if_pos ht]
   ·rw [if_neg ht,if_neg ht,if_neg (by rw [←h];exact ht)]
  ·rw [if_neg h]
   simp only [ai]
   by_cases ht:t=p.1
   ·rw [if_pos ht,if_neg (by rw [ht];exact fun e=>h e.symm),if_pos ht]
   ·rw [if_neg ht,ih,if_neg ht]
theorem zcd(m:Mach)(x:BE)(All:List BE){k:Nat}: ∀ j,k≤j→jo m x All k<+:jo m x All j
 |0,h=>by
  obtain rfl:k=0:=by omega
  exact List.prefix_refl _
 |j+1,h=>by
  by_cases e:k=j+1
  ·subst e;exact List.prefix_refl _
  ·exact(zcd m x All j (by omega)).trans (zlu m x _ j)
structure ArL (nb:Nat) (l:List Sa) (All:List BE):Prop where
 len:l.length=All.length
 pair: ∀ j,j<All.length→(l.getD j default).fC=((((All.getD j default).st/nb:Nat):Int),(((All.getD j default).st%nb:Nat):Int))
 root:(l.getD 0 default).fQ= -1∧(All.getD 0 default).wd=[]
 frm: ∀ j,0<j→j<All.length→ ∃ q i:Nat,q<j∧(l.getD j default).fQ=(q:Int)∧(l.getD j default).fG=(i:Int)∧(All.getD j default).wd=(All.getD q default).wd++[(i:Int)]
def zod(na nb:Nat)(M:List ((Int×Int)×Bool))(All:List BE):Prop:= ∀ s t:Nat,s<na→t<nb→ai false M ((s:Int),(t:Int))=occ All (s*nb+t)
theorem zr5(All:List BE)(e:BE)(t:Nat):occ (All++[e]) t=(occ All t||decide (e.st=t)):=by simp [occ]
theorem z18{α:Type}[Inhabited α]{X:List α}{e:α}{j:Nat}(h:j<X.length):(X++[e]).getD j default=X.getD j default:=by
 simp [List.getD_eq_getElem?_getD,List.getElem?_append_left h]
theorem z5j{α:Type}[Inhabited α]{X:List α}{e:α}{n:Nat}(h:n=X.length):(X++[e]).getD n default=e:=by
 subst h;simp [List.getD_eq_getElem?_getD]
section
variable {N : Nat} {a b : Mach}
def zhc(a b:Mach)(st p i:Nat):Sg:=⟨(p:Int),(i:Int),(a.rows.getD (st/b.rows.length) default).getD i default,(b.rows.getD (st%b.rows.length) default).getD i default⟩
theorem zqc(n:MOk a)(w:MOk b)(hi:a.inputs=b.inputs)(z:a.rows.length*b.rows.length≤64)(hN:200≤N){σ:Type}(B:(Sg×(List Sa))→σ→Option (Bool×σ))(Ip:Nat→List BE→σ→Prop)(Post:σ→Prop)
 {p:Nat} {All:List BE} {l:List Sa} (v:p<All.length) (hInv:Inv (jg a b) 0 p 0 All) (Z:ArL b.rows.length l All)
 (hstep: ∀ i st lk,i<a.inputs.toNat→ArL b.rows.length lk (jo (jg a b) (All.getD p default) All i)→Ip i (jo (jg a b) (All.getD p default) All i) st→
  ∃ c st',B (zhc a b (All.getD p default).st p i,lk) st=some (c,st')∧(c=true→Ip (i+1) (jo (jg a b) (All.getD p default) All (i+1)) st')∧(c=false→Post st')):
 ∀ F k st M lk,k≤a.inputs.toNat→a.inputs.toNat-k<F→Ip k (jo (jg a b) (All.getD p default) All k) st→zod a.rows.length b.rows.length M (jo (jg a b) (All.getD p default) All k)→ArL b.rows.length lk (jo (jg a b) (All.getD p default) All k)→
  ∃ r,mf N σ B a b (p:Int) l F st (k:Int) M lk=some r∧((∃ st' M' l',r=Ex.go (st',M',l')∧Ip a.inputs.toNat (jo (jg a b) (All.getD p default) All a.inputs.toNat) st'∧
   zod a.rows.length b.rows.length M' (jo (jg a b) (All.getD p default) All a.inputs.toNat)∧ArL b.rows.length l' (jo (jg a b) (All.getD p default) All a.inputs.toNat))∨ ∃ st',r=Ex.rt st'∧Post st'):=by
 have hi1:=n.i1;have hi2:=n.i2
 have hP:=zbr n w hi z
 have g:=hInv.rng p v
 rw [z10] at g
 obtain⟨A,C⟩:=zk9 g
 have ab:=n.row _ A
 have ac:=w.row _ C
 have hpair:=Z.pair p v
 have D:(ix l (p:Int)).fC.1=(((All.getD p default).st/b.rows.length:Nat):Int):=by rw [pg,hpair]
 have E:(ix l (p:Int)).fC.2=(((All.getD p default).st%b.rows.length:Nat):Int):=by rw [pg,hpair]
 intro F
 induction F with
 |zero=>intro k st M lk h1 h2;omega
 |succ F ih=>
  intro k st M lk h1 h2 hI o f
  simp only [mf]
  by_cases e:k=a.inputs.toNat
  ·subst e
   rw [yz (by omega)]
   exact⟨_,rfl,.inl ⟨st,M,lk,rfl,hI,o,f⟩⟩
  ·have G:k<a.inputs.toNat:=by omega
   obtain⟨c,st',hB,H,I⟩:=hstep k st lk G f hI
   have hinvk:=z8j hP hInv v k (by show k≤a.inputs.toNat;omega)
   have hlen:=z4v hinvk
   rw [z10] at hlen
   have J:=z2a n A G
   have K:=z2a w C (i:=k) (by omega)
   rw [bq (by omega)]
   rw [D,E]
   have u:B ((⟨(p:Int),(k:Int),(⟨(ix (ix a.rows (((All.getD p default).st/b.rows.length:Nat):Int)) (k:Int)).to,(ix (ix a.rows (((All.getD p default).st/b.rows.length:Nat):Int)) (k:Int)).out⟩:Edge),(⟨(ix (ix b.rows (((All.getD p default).st%b.rows.length:Nat):Int)) (k:Int)).to,(ix (ix b.rows (((All.getD p default).st%b.rows.length:Nat):Int)) (k:Int)).out⟩:Edge)⟩:Sg),lk) st=some (c,st'):=hB
   have T:okI a.rows (((All.getD p default).st/b.rows.length:Nat):Int):=j3 A
   have U:okI (ix a.rows (((All.getD p default).st/b.rows.length:Nat):Int)) (k:Int):=j3 (by rw [pg];omega)
   have V:okI b.rows (((All.getD p default).st%b.rows.length:Nat):Int):=j3 C
   have W:okI (ix b.rows (((All.getD p default).st%b.rows.length:Nat):Int)) (k:Int):=j3 (by rw [pg];omega)
   have ea:(ix (ix a.rows (((All.getD p default).st/b.rows.length:Nat):Int)) (k:Int)).to=ed a ((All.getD p default).st/b.rows.length) k:=rfl
   have eb:(ix (ix b.rows (((All.getD p default).st%b.rows.length:Nat):Int)) (k:Int)).to=ed b ((All.getD p default).st%b.rows.length) k:=rfl
   cases c
   ·refine⟨Ex.rt st',?_,.inr ⟨st',rfl,I rfl⟩⟩
    refine(zu (x:=(Ex.rt (Ex.rt st'):Ex (σ×List ((Int×Int)×Bool)×List Sa) (Ex (σ×List ((Int×Int)×Bool)×List Sa) σ))) ?_).trans rfl
    rw [zi T,zi U,zi V,zi W,zu u]
    rfl
   ·have hnext: ∃ M' l',zod a.rows.length b.rows.length M' (jo (jg a b) (All.getD p default) All (k+1))∧ArL b.rows.length l' (jo (jg a b) (All.getD p default) All (k+1))∧
     (bif ((decide (ed a ((All.getD p default).st/b.rows.length) k≠(-1)))&&(decide (ed b ((All.getD p default).st%b.rows.length) k≠(-1))))&&(!(ai false M ((ed a ((All.getD p default).st/b.rows.length) k,ed b ((All.getD p default).st%b.rows.length) k):(Int×Int)))) then(
      gd (fits 32 lk ([(⟨((ed a ((All.getD p default).st/b.rows.length) k,ed b ((All.getD p default).st%b.rows.length) k):(Int×Int)),(p:Int),(k:Int)⟩:Sa)]:List Sa))<|
      some (Ex.go (st',(z1q M ((ed a ((All.getD p default).st/b.rows.length) k,ed b ((All.getD p default).st%b.rows.length) k):(Int×Int)) true),(lk++([(⟨((ed a ((All.getD p default).st/b.rows.length) k,ed b ((All.getD p default).st%b.rows.length) k):(Int×Int)),(p:Int),(k:Int)⟩:Sa)]:List Sa))))) else(
      some (Ex.go (st',M,lk))))=some (Ex.go (st',M',l'):Ex (σ×List ((Int×Int)×Bool)×List Sa) (Ex (σ×List ((Int×Int)×Bool)×List Sa) σ)):=by
     have hpush:jo (jg a b) (All.getD p default) All (k+1)=push (jg a b) (All.getD p default) (jo (jg a b) (All.getD p default) All k) k:=rfl
     rw [hpush]
     unfold push
     rw [zk2 g G]
     by_cases d:ed a ((All.getD p default).st/b.rows.length) k= -1∨ed b ((All.getD p default).st%b.rows.length) k= -1
     ·rw [if_pos (by unfold prI;rw [if_pos d])]
      refine⟨M,lk,o,f,?_⟩
      rw [cf (by rw [Bool.and_eq_false_iff];left;rw [Bool.and_eq_false_iff];rcases d with d|d;exact .inl (decide_eq_false (fun h=>h d));exact .inr (decide_eq_false (fun h=>h d)))]
     ·have ha':=J.resolve_left (fun e=>d (.inl e))
      have hb':=K.resolve_left (fun e=>d (.inr e))
      obtain⟨x,X⟩:=Int.eq_ofNat_of_zero_le ha'.1
      obtain⟨y,Y⟩:=Int.eq_ofNat_of_zero_le hb'.1
      have L:x<a.rows.length:=by omega
      have m:y<b.rows.length:=by omega
      have O:prI b (ed a ((All.getD p default).st/b.rows.length) k) (ed b ((All.getD p default).st%b.rows.length) k)=((x*b.rows.length+y:Nat):Int):=by
       unfold prI;rw [if_neg d,X,Y,Int.natCast_add,Int.natCast_mul]
      rw [O,if_neg (by omega),Int.toNat_natCast,X,Y,decide_eq_true (by omega),decide_eq_true (by omega),o x y L m,Bool.and_true,Bool.true_and]
      have P:=f.len
      cases ho:occ (jo (jg a b) (All.getD p default) All k) (x*b.rows.length+y)
      ·rw [if_neg (by decide),Bool.not_false,cond_true,zi ⟨by simp;omega,by simp;omega⟩]
       refine⟨_,_,?_,?_,rfl⟩
       ·intro s t hs' ht'
        rw [zgv,zr5]
        by_cases h:s=x∧t=y
        ·obtain⟨rfl,rfl⟩:=h
         rw [if_pos rfl,decide_eq_true rfl,Bool.or_true]
        ·rw [if_neg (fun e=>h (by have:=Prod.mk.inj e;omega)),o s t hs' ht',decide_eq_false (fun e=>h ?_),Bool.or_false]
         have e1:=z7d (s:=x) (t:=y) m
         have e2:=z7d (s:=s) (t:=t) ht'
         have e:x*b.rows.length+y=s*b.rows.length+t:=e
         rw [e] at e1
         omega
       ·have Q:p<(jo (jg a b) (All.getD p default) All k).length:=by have:=(ah (jg a b) (All.getD p default) All k).length_le;omega
        have R:(jo (jg a b) (All.getD p default) All k).getD p default=All.getD p default:=z9t (ah _ _ _ _) v
        refine⟨by simp [P],fun j S=>?_,?_,fun j h0 S=>?_⟩
        ·rw [List.length_append,List.length_singleton] at S
         by_cases hj2:j<(jo (jg a b) (All.getD p default) All k).length
         ·rw [z18 hj2,z18 (by omega)];exact f.pair j hj2
         ·rw [z5j (by omega),z5j (by omega)]
          have:=z7d (s:=x) (t:=y) m
          simp only [this]
        ·rw [z18 (by omega),z18 (by omega)];exact f.root
        ·rw [List.length_append,List.length_singleton] at S
         by_cases hj2:j<(jo (jg a b) (All.getD p default) All k).length
         ·obtain⟨q,i,q1,q2,q3,q4⟩:=f.frm j h0 hj2
          refine⟨q,i,q1,?_,?_,?_⟩
          ·rw [z18 (by omega)];exact q2
          ·rw [z18 (by omega)];exact q3
          ·rw [z18 hj2,z18 (by omega)];exact q4
         ·refine⟨p,k,by omega,?_,?_,?_⟩
          ·rw [z5j (by omega)]
          ·rw [z5j (by omega)]
          ·rw [z5j (by omega),z18 Q,R]
      ·rw [if_pos rfl,Bool.not_true,cond_false]
       exact⟨M,lk,o,f,rfl⟩
    obtain⟨M',l',hM',hL',hrun⟩:=hnext
    obtain⟨r,hr,hpost⟩:=ih (k+1) st' M' l' (by omega) (by omega) (H rfl) hM' hL'
    refine⟨r,?_,hpost⟩
    refine(zu (x:=(Ex.go (st',M',l'):Ex (σ×List ((Int×Int)×Bool)×List Sa) (Ex (σ×List ((Int×Int)×Bool)×List Sa) σ))) ?_).trans ?_
    ·rw [zi T,zi U,zi V,zi W,zu u]
     exact hrun
    ·rw [zh0,zi (ja (by omega))]
     exact hr
theorem zr3(v:MOk a)(w:MOk b)(hi:a.inputs=b.inputs)(o:a.rows.length*b.rows.length≤64)(O:200≤N){σ:Type}(B:(Sg×(List Sa))→σ→Option (Bool×σ))(Ip:Nat→Nat→List BE→σ→Prop)(Post:σ→Prop)
 (hstep: ∀ p i All st lk,p<All.length→i<a.inputs.toNat→All<+:rch (jg a b) 0→ArL b.rows.length lk All→Ip p i All st→
  ∃ c st',B (zhc a b (All.getD p default).st p i,lk) st=some (c,st')∧(c=true→Ip p (i+1) (push (jg a b) (All.getD p default) All i) st')∧(c=false→Post st'))
 (hrow: ∀ p All st,p<All.length→Ip p a.inputs.toNat All st→Ip (p+1) 0 All st) (hend: ∀ st,Ip (rch (jg a b) 0).length 0 (rch (jg a b) 0) st→Post st) (s0:σ) (k:Ip 0 0 [⟨0,-1,-1,[]⟩] s0):
 ∃ st,z1l N a b σ B s0=some st∧Post st:=by
 have J:=zbr v w hi o
 have y:=v.r1;have q:=w.r1
 have P:=J.r2
 have outer: ∀ g p F All st M l,p+g=(jg a b).rows.length→p≤All.length→Inv (jg a b) 0 p 0 All→g<F→bfs (jg a b) g p All=rch (jg a b) 0→Ip p 0 All st→zod a.rows.length b.rows.length M All→ArL b.rows.length l All→
  ∃ st',dw N σ B a b F st (p:Int) M l=some st'∧Post st':=by
  intro g
  induction g with
  |zero=>
   intro p F All st M l Q z hInv R n hI K d
   obtain⟨F,rfl⟩: ∃ F',F=F'+1:=⟨F-1,by omega⟩
   have:=z4v hInv
   have e:p=All.length:=by omega
   simp only [dw]
   rw [yz (by rw [d.len];omega)]
   have hR':All=rch (jg a b) 0:=n
   refine⟨st,rfl,hend st ?_⟩
   rw [←hR',←e];exact hI
  |succ g ih=>
   intro p F All st M l Q z hInv R n hI K d
   obtain⟨F,rfl⟩: ∃ F',F=F'+1:=⟨F-1,by omega⟩
   have hlen:=z4v hInv
   simp only [dw]
   by_cases hp:p<All.length
   ·have hbfs:bfs (jg a b) (g+1) p All=bfs (jg a b) g (p+1) (jo (jg a b) (All.getD p default) All a.inputs.toNat):=by
     show (if p<All.length then _ else _)=_
     rw [if_pos hp];rfl
    rw [hbfs] at n
    have hpreR:jo (jg a b) (All.getD p default) All a.inputs.toNat<+:rch (jg a b) 0:=by rw [←n];exact zf4 _ _ _ _
    obtain⟨r,L,hpost⟩:=zqc (N:=N) v w hi o O B (Ip p) Post hp hInv d (fun i st' lk u A C=>by
     have hpre:=ah (jg a b) (All.getD p default) All i
     have hg':=z9t hpre hp
     have:=hstep p i (jo (jg a b) (All.getD p default) All i) st' lk (by have:=hpre.length_le;omega) u ((zcd _ _ _ _ (Nat.le_of_lt u)).trans hpreR) A C
     rw [hg'] at this
     exact this) N 0 st M l (Nat.zero_le _) (by have:=v.i2;omega) hI K d
    have S:(l.length:Int)=All.length:=by rw [d.len]
    rcases hpost with⟨st',M',l',rfl,hI',hM',hL'⟩|⟨st',rfl,D⟩
    ·have hpre:=(ah (jg a b) (All.getD p default) All a.inputs.toNat).length_le
     have f:Inv (jg a b) 0 (p+1) 0 (jo (jg a b) (All.getD p default) All a.inputs.toNat):=zbo (m:=jg a b) (z8j J hInv hp a.inputs.toNat (Nat.le_refl _)) (by omega)
     obtain⟨E,G,H⟩:=ih (p+1) F (jo (jg a b) (All.getD p default) All a.inputs.toNat) st' M' l' (by omega) (by omega) f (by omega) n (hrow p _ st' (by omega) hI') hM' hL'
     refine⟨E,?_,H⟩
     rw [bq (by omega)]
     refine(zu (x:=(Ex.go (st',M',l'):Ex (σ×List ((Int×Int)×Bool)×List Sa) σ)) ?_).trans ?_
     ·rw [zi (j3 (by rw [d.len];exact hp)),zi (j3 (by rw [d.len];exact hp))]
      exact L
     ·rw [zh0,zi (ja (by omega))]
      exact G
    ·refine⟨st',?_,D⟩
     rw [bq (by omega)]
     refine(zu (x:=(Ex.rt st':Ex (σ×List ((Int×Int)×Bool)×List Sa) σ)) ?_).trans rfl
     rw [zi (j3 (by rw [d.len];exact hp)),zi (j3 (by rw [d.len];exact hp))]
     exact L
   ·have e:p=All.length:=by omega
    have hR':All=rch (jg a b) 0:=by rw [←n];unfold bfs;rw [if_neg hp]
    rw [yz (by rw [d.len];omega)]
    refine⟨st,rfl,hend st ?_⟩
    rw [←hR',←e];exact hI
 have hroot:Inv (jg a b) 0 0 0 [⟨0,-1,-1,[]⟩]:=zcu (by rw [z10];exact Nat.mul_pos y q)
 refine outer (jg a b).rows.length 0 N [⟨0,-1,-1,[]⟩] s0 _ _ (by omega) (Nat.zero_le _) hroot (by omega) rfl k ?_ ?_
 ·intro s t T U
  rw [zgv]
  by_cases h:s=0∧t=0
  ·obtain⟨rfl,rfl⟩:=h
   rw [if_pos (show ((((0:Nat):Int),((0:Nat):Int)):Int×Int)=(0,0) from rfl)];simp [occ]
  ·rw [if_neg (fun e=>h (by have:=Prod.mk.inj e;omega))]
   have: ¬(0=s*b.rows.length+t):=fun e=>h ⟨by
    rcases Nat.eq_zero_or_pos s with k|k
    ·exact k
    ·have:=Nat.mul_pos k q;omega,by omega⟩
   simp [occ,ai,this]
 ·refine⟨rfl,fun j I=>?_,⟨rfl,rfl⟩,fun j k I=>?_⟩
  ·have:j=0:=by simpa using I
   subst this
   show ((0:Int),(0:Int))=(((0/b.rows.length:Nat):Int),((0%b.rows.length:Nat):Int))
   rw [Nat.zero_div,Nat.zero_mod];rfl
  ·have:j=0:=by simpa using I
   omega
theorem zsb{N:Nat}{s:List Int}:z04 N s=some s:=by
 unfold z04;rw [zi (zf2 s),zew]
theorem zv8{nb:Nat}{l:List Sa}{All:List BE}(a:ArL nb l All)(k:200≤N)(m:All.length≤64){p:Nat}(c:p<All.length)(i:Int):z08 N l (p:Int) [i]=some ((All.getD p default).wd++[i]):=by
 have key: ∀ F p more,p<All.length→p<F→more.length+p≤1000→oh N l F (p:Int) more=some ((All.getD p default).wd++more):=by
  intro F
  induction F with
  |zero=>intro p more b d;omega
  |succ F ih=>
   intro p more b d n
   have e:=a.len
   simp only [oh]
   rw [zi (j3 (by omega)),pg]
   by_cases h0:p=0
   ·subst h0
    rw [a.root.1,a.root.2,yz (by simp)];rfl
   ·obtain⟨q,j,o,f,g,h⟩:=a.frm p (by omega) b
    rw [f,g,h,bq (by omega),zi (j3 (by omega)),zi ⟨by simp;omega,by simp;omega⟩,zi (j3 (by omega)),ih q _ (by omega) (by omega) (by simp;omega)]
    simp
 unfold z08
 rw [zu (key N p [i] c (by omega) (by simp;omega)),zu zsb]
theorem zja{s:List (Int×Int)}{v:Int×Int}(g:s.length<N)(i:s.length≤100000):xh N s v=some (s.contains v):=by
 have h:ky N s v N 0=some (if s.contains v=true then Ex.rt (zh3 (fun x=>decide (v=x)) s) else Ex.go ()):=by
  refine mq (σ:=Unit) (fun F k _=>ky N s v F (k:Int)) s.length (fun k _=>(s.take k).any (fun x=>decide (v=x))=false) _ (fun F k _ b hi=>?_) (fun F _ hi=>?_) N 0 () (Nat.zero_le _) (by omega) (by simp)
  ·simp only [ky]
   rw [bq (by omega),zi (j3 b),pg]
   by_cases he:v=s.getD k default
   ·left
    rw [bq (by rw [←he];exact⟨rfl,rfl⟩)]
    have e:=zfp (fun x=>decide (v=x)) s k b hi (decide_eq_true he)
    have a:s.contains v=true:=by rw [List.contains_iff_mem,he];exact z0i b
    rw [if_pos a,e]
   ·right
    refine⟨(),by rw [z7v _ s k b,hi,decide_eq_false he];rfl,?_⟩
    rw [yz (fun d=>he (Prod.ext d.1 d.2)),zi (ja (by omega))];rfl
  ·simp only [ky]
   rw [yz (by omega)]
   rw [List.take_length] at hi
   have:s.contains v=false:=by
    rw [Bool.eq_false_iff]
    intro a
    rw [List.contains_iff_mem] at a
    have:=List.any_eq_false.1 hi v a
    simp at this
   rw [this];rfl
 unfold xh z0g
 cases a:s.contains v
 ·rw [a] at h
  rw [zu (show (bd (ky N s v N 0) fun c=>Ex.on c (fun f=>some (-1)) some)=some (-1:Int) by rw [zu h];rfl)]
  rfl
 ·rw [a] at h
  rw [zu (show (bd (ky N s v N 0) fun c=>Ex.on c (fun f=>some (-1)) some)=some (zh3 (fun x=>decide (v=x)) s) by rw [zu h];rfl)]
  rw [zpm]
  congr 1
  rw [List.any_eq_true]
  exact⟨v,by rw [←List.contains_iff_mem];exact a,by simp⟩
def z5o(nb:Nat)(All:List BE):List (Int×Int):=All.map fun e=>(((e.st/nb:Nat):Int),((e.st%nb:Nat):Int))
theorem zgw(i:0<b.rows.length){All:List BE}{x y:Nat}(d:y<b.rows.length):(z5o b.rows.length All).contains ((x:Int),(y:Int))=occ All (x*b.rows.length+y):=by
 rw [Bool.eq_iff_iff,List.contains_iff_mem]
 unfold z5o occ
 rw [List.mem_map,List.any_eq_true]
 constructor
 ·rintro⟨e,a,h⟩
  refine⟨e,a,decide_eq_true ?_⟩
  have c:=Prod.mk.inj h
  have f:e.st/b.rows.length=x:=by have:=c.1;omega
  have g:e.st%b.rows.length=y:=by have:=c.2;omega
  have:=Nat.div_add_mod e.st b.rows.length
  rw [f,g,Nat.mul_comm] at this
  exact this.symm
 ·rintro⟨e,a,h⟩
  have h:=of_decide_eq_true h
  have:=z7d (s:=x) (t:=y) d
  rw [←h] at this
  exact⟨e,a,by rw [this.1,this.2]⟩
def zso(N:Nat)(a:Sg×List Sa)(s:Ex (List (Int×Int)) ((List Int)×(List (Int×Int)))):Option (Bool×Ex (List (Int×Int)) ((List Int)×(List (Int×Int)))):=
 Ex.on s (fun b=>
  bif decide (a.1.fI.out≠a.1.fK.out) then(
  bd (z08 N a.2 a.1.fU ([a.1.fG]:List Int)) fun d=>
  some (false,Ex.rt (d,([]:(List (Int×Int)))))) else(
  bd (gop (true&&((decide (a.1.fI.to≠(-1)))==true)) (xh N b ((a.1.fI.to,a.1.fK.to):(Int×Int)))) fun c=>
  bif (decide (a.1.fI.to≠(-1)))&&(!(c.getD default)) then(
  gd (fits 16 b ([((a.1.fI.to,a.1.fK.to):(Int×Int))]:List (Int×Int)))<|
  some (true,Ex.go (b++([((a.1.fI.to,a.1.fK.to):(Int×Int))]:List (Int×Int))))) else(
  some (true,Ex.go b)))) fun _=>none
theorem zv5{p i st:Nat}{All:List BE}{lk:List Sa}(c:ArL b.rows.length lk All)(d:200≤N)(e:All.length≤64)(f:p<All.length)(h: ¬zfj a b st i):
 zso N (zhc a b st p i,lk) (Ex.go (z5o b.rows.length All))=some (false,Ex.rt ((All.getD p default).wd++[(i:Int)],[])):=by
 unfold zso
 rw [zh0,bq (show (zhc a b st p i).fI.out≠(zhc a b st p i).fK.out from h)]
 exact zu (zv8 c d e f _)
theorem zw8(m:MOk a)(n:MOk b)(hi:a.inputs=b.inputs){p i:Nat}{e:BE}{All:List BE}{lk:List Sa}(z:200≤N)(A:All.length≤64)(d:e.st<a.rows.length*b.rows.length)(c:i<a.inputs.toNat)(h:zfj a b e.st i):
 zso N (zhc a b e.st p i,lk) (Ex.go (z5o b.rows.length All))=some (true,Ex.go (z5o b.rows.length (push (jg a b) e All i))):=by
 obtain⟨o,q⟩:=zk9 d
 have g:=z2a m o c
 have j:=z2a n q (i:=i) (by omega)
 have oa:=(z9k m o c).1
 have ob:=(z9k n q (i:=i) (by omega)).1
 have hplen:(z5o b.rows.length All).length=All.length:=by simp [z5o]
 have ea:(zhc a b e.st p i).fI.to=ed a (e.st/b.rows.length) i:=rfl
 have eb:(zhc a b e.st p i).fK.to=ed b (e.st%b.rows.length) i:=rfl
 unfold zso
 rw [zh0,yz (show¬(zhc a b e.st p i).fI.out≠(zhc a b e.st p i).fK.out from fun v=>v h)]
 dsimp only
 rw [ea,eb,z9n (fun _=>zja (N:=N) (by omega) (by omega))]
 unfold push
 rw [zk2 d c]
 by_cases hn:ed a (e.st/b.rows.length) i= -1
 ·rw [if_pos (by unfold prI;rw [if_pos (.inl hn)]),hn]
  rfl
 ·have k:ed b (e.st%b.rows.length) i≠ -1:=fun w=>hn (oa.2 (by unfold zfj at h;rw [h];exact ob.1 w))
  have ha':=g.resolve_left hn
  have hb':=j.resolve_left k
  obtain⟨x,r⟩:=Int.eq_ofNat_of_zero_le ha'.1
  obtain⟨y,u⟩:=Int.eq_ofNat_of_zero_le hb'.1
  have f:y<b.rows.length:=by omega
  have l:prI b (ed a (e.st/b.rows.length) i) (ed b (e.st%b.rows.length) i)=((x*b.rows.length+y:Nat):Int):=by
   unfold prI;rw [if_neg (by omega),r,u,Int.natCast_add,Int.natCast_mul]
  rw [l,if_neg (by omega),Int.toNat_natCast,r,u,decide_eq_true (show ((x:Int)≠ -1) by omega),zgw (by omega) f]
  cases ho:occ All (x*b.rows.length+y)
  ·rw [if_neg (by decide)]
   show (gd (fits 16 (z5o b.rows.length All) ([((x:Int),(y:Int))]:List (Int×Int)))<|some (true,Ex.go (z5o b.rows.length All++([((x:Int),(y:Int))]:List (Int×Int)))))=_
   rw [zi ⟨by simp;omega,by simp;omega⟩]
   have:=z7d (s:=x) (t:=y) f
   simp only [z5o,List.map_append,List.map_cons,List.map_nil,this]
  ·rw [if_pos rfl];rfl
theorem zhz(g:MOk a)(k:MOk b)(hi:a.inputs=b.inputs)(c:a.rows.length*b.rows.length≤64)(t:200≤N):
 (∃ w,rf N a b=some (w,[])∧zlx a b w)∨(rf N a b=some ([],z5o b.rows.length (rch (jg a b) 0))∧ ∀ v,¬zmw a b v):=by
 have D:=zbr g k hi c
 have u:=g.r1;have y:=k.r1
 have n:=z8i D (s0:=0) (by rw [z10];exact Nat.mul_pos u y)
 have A:=n.le
 rw [z10] at A
 obtain⟨st,d,hpost⟩:=zr3 (N:=N) g k hi c t (zso N)
  (fun p i All s=>s=Ex.go (z5o b.rows.length All)∧(∀ q j,q<p→j<a.inputs.toNat→zfj a b ((rch (jg a b) 0).getD q default).st j)∧ ∀ j,j<i→zfj a b ((rch (jg a b) 0).getD p default).st j)
  (fun s=>(∃ w,s=Ex.rt (w,[])∧zlx a b w)∨(s=Ex.go (z5o b.rows.length (rch (jg a b) 0))∧ ∀ v,¬zmw a b v))
  (by
   rintro p i All s lk B l hpre E ⟨rfl,o,r⟩
   have f:=z9t hpre B
   have F:=hpre.length_le
   have d:=n.rng p (by omega)
   rw [f,z10] at d
   by_cases ho:zfj a b (All.getD p default).st i
   ·refine⟨true,_,zw8 g k hi t (by omega) d l ho,fun _=>⟨rfl,o,fun j m=>?_⟩,fun h=>by cases h⟩
    by_cases e:j=i
    ·subst e;rw [f];exact ho
    ·exact r j (by omega)
   ·refine⟨false,_,zv5 E t (by omega) B ho,(fun h=>(by cases h)),fun _=> .inl ⟨_,rfl,?_⟩⟩
    rw [←f] at ho⊢
    exact zqr g k hi c n (by omega) l o r ho)
  (by
   rintro p All s B ⟨rfl,o,r⟩
   refine⟨rfl,fun q j G m=>?_,fun j m=>by omega⟩
   by_cases e:q=p
   ·subst e;exact r j m
   ·exact o q j (by omega) m)
  (fun s hI=> .inr ⟨hI.1,zu4 g k hi c n hI.2.1⟩) (Ex.go [(0,0)]) ⟨by
   show Ex.go [((0:Int),(0:Int))]=Ex.go [(((0/b.rows.length:Nat):Int),((0%b.rows.length:Nat):Int))]
   rw [Nat.zero_div,Nat.zero_mod];rfl,fun q j G=>by omega,fun j m=>by omega⟩
 have hrun: ∀ {z},Ex.on st (fun C=>some (([]:(List Int)),C)) some=some z→rf N a b=some z:=fun {z} H=>by
  unfold rf
  rw [zu (show z3c N a b=some (a,b) from rfl)]
  exact(zu (x:=st) d).trans H
 rcases hpost with⟨w,rfl,I⟩|⟨rfl,J⟩
 ·exact .inl ⟨w,hrun rfl,I⟩
 ·exact .inr ⟨hrun rfl,J⟩
theorem zpl(d:MOk a)(e:MOk b)(hi:a.inputs=b.inputs)(c:200≤N):z2w N a b=some 0:=by
 unfold z2w
 rw [zu (zb7 d c),zu (zb7 e c),zu (or2 (by omega))]
 rw [show decide (a.inputs≠b.inputs)=false from decide_eq_false (fun h=>h hi),Bool.and_false,cond_false,zkt]
theorem zvy{w:List Int}(h:zlx a b w):w≠[]:=fun e=>by subst e;exact h.1.2 rfl
theorem zrg(f:MOk a)(g:MOk b)(hi:a.inputs=b.inputs)(d:a.rows.length*b.rows.length≤64)(h:200≤N):
 (∃ w,z0c N a b=some (w,true,0)∧zlx a b w)∨(z0c N a b=some ([],false,0)∧ ∀ v,¬zmw a b v):=by
 have i:=zpl (N:=N) f g hi h
 rcases zhz (N:=N) f g hi d h with⟨w,e,c⟩|⟨e,c⟩
 ·refine .inl ⟨w,?_,c⟩
  unfold z0c
  rw [zu i,yz (by simp),zu e]
  have:=List.length_pos_iff.2 (zvy c)
  rw [decide_eq_true (by show (0:Int)<(w.length:Int);omega)]
 ·refine .inr ⟨?_,c⟩
  unfold z0c
  rw [zu i,yz (by simp),zu e]
  rfl
end
end GV
end Go.Proofs.YtkkcidhcfkmbjaaGreatDoor
