/- Part 6 of what FnBoth needs. No condition. -/
import Derived.Test.YthnjiffnjaaejaaGreatDoorFnBothE
set_option linter.all false
namespace Go.Eng
section
variable{j:Bool}
theorem dD.any{k:Nat}{B:H}(h:dD j k B):∀a,dD j (k+mD a) (a++B)
 |[]=>h
 |b::t=>by
  have c:=h.any t;unfold mD;split
  ·rename_i aE;simp only[hH,By] at aE;rw[Nat.zero_add];exact .free c λ_=>hc.plain (Vs aE.1.1 aE.1.2 aE.2)
  ·rw[show k+(1+mD t)=k+mD t+1 by omega];exact .mark b c
def dd(j:Bool)(K:Nat)(w:H):Prop:=∀a C,w=a++C->∀k B,dD j k B->∃i,i<=k+K/\dD j i (a++B)
theorem dd.mono{K a:Nat}{w:H}(h:dd j K w)(av:K<=a):dd j a w:=λb C he k B c=>by obtain⟨i,M,U⟩:=h b C he k B c;exact⟨i,by omega,U⟩
theorem dd.nil:dd j 0 []:=λb C he k B a=>by obtain⟨rfl,_⟩:=List.append_eq_nil_iff.1 he.symm;exact⟨k,cF _,a⟩
theorem dd.const{p y:H}{K c:Nat}(e:dd j c y)(aE:∀n,n<=p.length->mD (p.take n)<=K)(g:mD p+c<=K):dd j K (p++y):=by
 intro b C he k B d;rcases List.append_eq_append_iff.1 he with⟨a,M,U⟩|⟨a,M,U⟩
 ·obtain⟨i,h,f⟩:=e a C U k B d;refine⟨i+mD p,by omega,?_⟩;rw[M,ob];exact f.any p
 ·refine⟨k+mD b,?_,d.any b⟩;have:=aE b.length (by rw[M];simp);rw[M,List.take_left] at this;omega
theorem dd.of{p:H}{K:Nat}(aE:∀n,n<=p.length->mD (p.take n)<=K):dd j K p:=by have:=dd.const (dd.nil (j:=j)) aE (by have:=aE p.length (cF _);rw[List.take_length] at this;omega);simpa using this
theorem dd.app{x y:H}{K:Nat}(c:dd j K x)(f:dd j K y)(g:∀a C k B,y=a++C->a≠[]->dD j k (a++B)->dD j k (x++(a++B))):dd j K (x++y):=by
 intro d C he k B b;rcases List.append_eq_append_iff.1 he with⟨a,M,U⟩|⟨a,M,U⟩
 ·by_cases e:a=[]
  ·subst e;rw[kj] at M;exact c d [] (by rw[M];simp) k B b
  ·obtain⟨i,h,l⟩:=f a C U k B b;refine⟨i,h,?_⟩;rw[M,ob];exact g a C i B U e l
 ·exact c d a M k B b
structure J_(j:Bool)(d:Nat):Prop where
 wd:∀{w:H},fU d w->dd j (4+2*d) w
 ls:∀{t:H},gi d t->dd j (4+2*d) t
theorem OE{w:H}(a:w∈nn):dd j 4 w:=dd.of ((by decide:∀w∈nn,∀n,n<=w.length->mD (w.take n)<=4) w a)
theorem dd.uC{d:Nat}(aD:d<=3){t y:H}{b:UInt8}{K:Nat}(e:b=10\/b=41\/b=59)(f:gi d t)(h:dd j K t)(g:dd j K (b::y)):dd j K (t++b::y):=by
 refine h.app g λa C k B he au i=>?_;cases a with
 |nil=>exact absurd rfl au
 |cons c a=>
  cases he;refine(GO d aD).ls f (v':=b::(a++B)) ?_ i;rcases e with rfl|rfl|rfl
  ·exact eg.nl _
  ·exact eg.FN _
  ·exact eg.GN _
theorem dd.OF{d:Nat}(aD:d<=3){w y:H}{K:Nat}(b:fU d w)(h:dd j K w)(c:dd j K y):dd j K (w++y):=h.app c λa C k B he au e=>(GO d aD).wd b e
theorem dd.list{C:H->Prop}{K:Nat}(g:∀{c:H},C c->dd j K c)(hW:∀{c v v':H}{k:Nat},C c->eg v v'->dD j k v->dD j k (c++v)){t:H}(w:rV C t):dd j K t:=by
 obtain⟨c,l,M,U,rfl⟩:=w;induction l generalizing c with
 |nil=>simpa[cN] using g M
 |cons p l y=>
  obtain⟨h,z⟩:=U p (by simp);have A:=y p.2 z λq E=>U q (by simp[E]);have he:c++cN (p::l)=c++(p.1++(p.2++cN l)):=by simp[cN]
  rw[he];intro F D hA k B m
  have G:∀n,n<=p.1.length->mD (p.1.take n)=0:=(by decide:∀q∈jl,∀n,n<=q.length->mD (q.take n)=0) p.1 h
  rcases List.append_eq_append_iff.1 hA with⟨a,d,s⟩|⟨a,d,s⟩
  ·rcases List.append_eq_append_iff.1 s with⟨b,e,u⟩|⟨b,e,u⟩
   ·obtain⟨i,f,o⟩:=A b D u k B m;obtain⟨I,r⟩:=Vb (x:=b++B) h;refine⟨i,f,?_⟩;have:=hW M r (o.const ((by decide:∀j∈jl,w6 j=true) p.1 h));rw[d,e];simpa using this
   ·have f:=m.any a;have:mD a=0:=by have:=G a.length (by rw[e];simp);rw[e,List.take_left] at this;exact this
    rw[this] at f;obtain⟨i,o,r⟩:=g M c [] (by simp) k (a++B) f;exact⟨i,o,by rw[d];simpa using r⟩
  ·exact g M F a d k B m
theorem dd.simple{d:Nat}(aD:d<=3){c:H}(hW:∀{w:H},fU d w->dd j (4+2*d) w)(az:qm (fU d) (fU 0) c):dd j (4+2*d) c:=by
 obtain⟨x,ws,r,M,U,rfl,e⟩:=az;have f:dd j (4+2*d) r:=by
  rcases e with rfl|rfl|⟨w,a,rfl⟩
  ·exact dd.nil.mono (by omega)
  ·exact(dd.of (K:=0) (by decide)).mono (by omega)
  ·exact(dd.const (K:=4) (OE a) (p:=[32,62]) (by decide) (by decide)).mono (by omega)
 have g:dd j (4+2*d) (jc ws++r):=by
  clear M;induction ws with
  |nil=>exact f
  |cons w ws h=>have i:=dd.OF aD (U w (by simp)) (hW (U w (by simp))) (h λw a=>U w (by simp[a]));have:=dd.const i (p:=[32]) (K:=4+2*d) (λn au=>kB ((by decide:∀n,n<=([32]:H).length->mD (([32]:H).take n)<=0) n au) (by omega)) (by rw[show mD [32]=0 from rfl];omega);simpa[jc] using this
 have b:∀x∈q3,(∀n,n<=x.length->mD (x.take n)<=4)/\mD x=0:=by decide
 rw[ob];exact dd.const g (λn au=>kB ((b x M).1 n au) (by omega)) (by rw[(b x M).2];omega)
theorem dd.k{p y:H}{K a c:Nat}(aE:∀n,n<=p.length->mD (p.take n)<=c)(b:dd j a y)(d:c+a<=K):dd j K (p++y):=dd.const b (λn au=>kB (aE n au) (by omega)) (by have:=aE p.length (cF _);rw[List.take_length] at this;omega)
theorem dd.jn{p y:H}{K a c c0:Nat}(aE:∀n,n<=p.length->mD (p.take n)<=c0)(az:mD p=c)(b:dd j a y)(h0:c0<=K)(d:c+a<=K):dd j K (p++y):=dd.const b (λn au=>kB (aE n au) h0) (by omega)
theorem J_.word{d:Nat}(aD:d<=2)(i:J_ j d){w:H}(a:fU (d+1) w):dd j (4+2*(d+1)) w:=by
 rcases a with a|⟨t,M,rfl|rfl⟩|⟨x,M,rfl⟩
 ·exact(OE a).mono (by omega)
 ·have:=dd.k (p:=[36,40]) (c:=2) (K:=4+2*(d+1)) (by decide) (dd.uC (by omega) (.inr (.inl rfl)) M (i.ls M) ((dd.of (p:=[41]) (K:=0) (by decide)).mono (by omega))) (by omega);simpa using this
 ·have:=dd.k (p:=[34,120,36,40]) (c:=2) (K:=4+2*(d+1)) (by decide) (dd.uC (by omega) (.inr (.inl rfl)) M (i.ls M) ((dd.of (p:=[41,34]) (K:=0) (by decide)).mono (by omega))) (by omega);simpa using this
 ·have:=dd.k (p:=[36,123,120,58,45]) (c:=2) (K:=4+2*(d+1)) (by decide) (dd.OF (by omega) M (i.wd M) ((dd.of (p:=[125]) (K:=0) (by decide)).mono (by omega))) (by omega);simpa using this
theorem J_.comp{d:Nat}(aD:d<=2)(i:J_ j d){c:H}(az:tm (gi d) (fU d) c):dd j (4+2*(d+1)) c:=by
 have a:d<=3:=by omega
 rcases az with⟨t,M,rfl⟩|⟨t,M,rfl⟩|⟨t,u,M,U,rfl⟩|⟨t,u,M,U,rfl⟩|⟨t,u,M,U,rfl⟩|⟨w,u,M,U,rfl⟩|rfl|⟨w,u,M,U,rfl⟩|⟨t,M,rfl⟩
 ·have:=dd.k (p:=[40]) (c:=2) (K:=4+2*(d+1)) (by decide) (dd.uC a (.inr (.inl rfl)) M (i.ls M) ((dd.of (p:=[41]) (K:=0) (by decide)).mono (by omega))) (by omega);simpa using this
 ·have:=dd.k (p:=[123,32]) (c:=2) (K:=4+2*(d+1)) (by decide) (dd.uC a (.inl rfl) M (i.ls M) ((dd.of (p:=[10,125]) (K:=0) (by decide)).mono (by omega))) (by omega);simpa using this
 ·have:=dd.k (p:=[105,102,32]) (c:=2) (K:=4+2*(d+1)) (by decide) (dd.uC a (.inr (.inr rfl)) M (i.ls M) (dd.k (p:=[59,32,116,104,101,110,32]) (c:=0) (K:=4+2*d) (by decide) (dd.uC a (.inl rfl) U (i.ls U) ((dd.of (p:=[10,102,105]) (K:=1) (by decide)).mono (by omega))) (by omega))) (by omega);simpa using this
 ·have:=dd.jn (p:=[105,102,32,97,59,32,116,104,101,110,10]) (c:=1) (c0:=2) (K:=4+2*(d+1)) (by decide) rfl (dd.uC a (.inl rfl) M ((i.ls M).mono (by omega)) (dd.jn (p:=[10,101,108,105,102,32,98,10,116,104,101,110,32,99,10,101,108,115,101,32]) (c:=1) (c0:=2) (K:=4+2*d+1) (by decide) rfl (dd.uC a (.inr (.inr rfl)) U (i.ls U) ((dd.of (p:=[59,102,105,32,50,62,102]) (K:=1) (by decide)).mono (by omega))) (by omega) (by omega))) (by omega) (by omega);simpa using this
 ·have:=dd.k (p:=[119,104,105,108,101,32]) (c:=2) (K:=4+2*(d+1)) (by decide) (dd.uC a (.inl rfl) M (i.ls M) (dd.k (p:=[10,100,111,32]) (c:=0) (K:=4+2*d) (by decide) (dd.uC a (.inr (.inr rfl)) U (i.ls U) ((dd.of (p:=[59,32,100,111,110,101]) (K:=0) (by decide)).mono (by omega))) (by omega))) (by omega);simpa using this
 ·have:=dd.k (p:=[102,111,114,32,120,32,105,110,32,97,32]) (c:=2) (K:=4+2*(d+1)) (by decide) (dd.OF a M (i.wd M) (dd.k (p:=[59,32,100,111,32]) (c:=0) (K:=4+2*d) (by decide) (dd.uC a (.inr (.inr rfl)) U (i.ls U) ((dd.of (p:=[59,100,111,110,101]) (K:=0) (by decide)).mono (by omega))) (by omega))) (by omega);simpa using this
 ·exact(dd.of (K:=2) (by decide)).mono (by omega)
 ·have:=dd.k (p:=[99,97,115,101,32]) (c:=2) (K:=4+2*(d+1)) (by decide) (dd.OF a M (i.wd M) (dd.jn (p:=[32,105,110,32,97,124,98,41,32]) (c:=0) (c0:=1) (K:=4+2*d) (by decide) rfl (dd.uC a (.inr (.inr rfl)) U (i.ls U) ((dd.of (p:=[59,59,10,40,99,41,32,59,59,32,100,41,32,101,115,97,99]) (K:=2) (by decide)).mono (by omega))) (by omega) (by omega))) (by omega);simpa using this
 ·have:=dd.k (p:=[102,40,41,32,123,10]) (c:=2) (K:=4+2*(d+1)) (by decide) (dd.uC a (.inl rfl) M (i.ls M) ((dd.of (p:=[10,125,32,62,102]) (K:=1) (by decide)).mono (by omega))) (by omega);simpa using this
theorem OG:∀d,d<=3->J_ j d
 |0,_=>⟨λa=>OE a,λb=>dd.list (λaz=>dd.simple (d:=0) (by omega) (λa=>OE a) az) (λaz c h=>uB.simple (λa h=>h.J9 _ a) az h) b⟩
 |d+1,aD=>by
  have i:=OG d (by omega);have w:=GO (j:=j) d (by omega);have e:=GO (j:=j) (d+1) aD;refine⟨λa=>i.word (by omega) a,λb=>dd.list (λaz=>?_) (λaz c h=>?_) b⟩
  ·rcases az with az|az
   ·exact dd.simple (d:=d+1) aD (λa=>i.word (by omega) a) az
   ·exact i.comp (by omega) az
  ·rcases az with az|az
   ·exact uB.simple (λa h=>e.wd a h) az h
   ·exact w.comp (by omega) az c h
end
end Go.Eng
namespace Go.Eng
open Go Go.Proofs
theorem arR{I:H}{st:dH}(h:eJ I st){n:Int}(M:1<=n)(U:n<=1000000):∃v c,h_ st n=some (v,c)/\0<=v/\v<n/\eJ I c:=by
 by_cases d:n<=256
 ·exact sv h M d
 unfold h_;obtain⟨v,s1,i,t,ak,e⟩:=JX h;obtain⟨w,s2,j,u,z,f⟩:=JX e;obtain⟨x,a,k,fb,A,g⟩:=JX f;obtain⟨y,B,l,C,D,b⟩:=JX g;have az:=h.c;rw[eE (show¬n<=0 by omega),eE d];simp only[aW];rw[i,aR rfl];dsimp only;rw[show(st.1,s1.2.1,s1.2.2)=s1 by rw[az,<-e.c],j,aR rfl];dsimp only;rw[show(st.1,s2.2.1,s2.2.2)=s2 by rw[az,<-f.c],k,aR rfl];dsimp only;rw[show(st.1,a.2.1,a.2.2)=a by rw[az,<-g.c],l,aR rfl];dsimp only;rw[b1 (show n≠0 by omega)];have m:W (v*16777216)=v*16777216:=dJ (by omega) (by omega);have o:W (w*65536)=w*65536:=dJ (by omega) (by omega);have p:W (x*256)=x*256:=dJ (by omega) (by omega);have q:W (v*16777216+w*65536)=v*16777216+w*65536:=dJ (by omega) (by omega);have r:W (v*16777216+w*65536+x*256)=v*16777216+w*65536+x*256:=dJ (by omega) (by omega);have s:W (v*16777216+w*65536+x*256+y)=v*16777216+w*65536+x*256+y:=dJ (by omega) (by omega);rw[m,o,p,q,r,s];refine⟨_,_,rfl,Int.tmod_nonneg _ (by omega),Int.tmod_lt_of_pos _ (by omega),az,b.lo,b.bh,b.b7⟩
def bits:bx:=[([97]:H),([98,49]:H),([32]:H),([32]:H),([10]:H),([10]:H),([59]:H),([38]:H),([124]:H),([38,38]:H),([124,124]:H),([59,59]:H),([40]:H),([41]:H),([105,102,32]:H),([116,104,101,110,32]:H),([101,108,115,101,32]:H),([101,108,105,102,32]:H),([102,105]:H),([100,111,32]:H),([100,111,110,101]:H),([119,104,105,108,101,32]:H),([117,110,116,105,108,32]:H),([102,111,114,32]:H),([120,32]:H),([105,110,32]:H),([99,97,115,101,32]:H),([101,115,97,99]:H),([123,32]:H),([125]:H),([33,32]:H),([60]:H),([62]:H),([60,60,69]:H),([60,60,45,69]:H),([69,10]:H),([9,69,10]:H),([50,62]:H),([62,38,49]:H),([39]:H),([39,113,39]:H),([34]:H),([34,113,34]:H),([92]:H),([92,10]:H),([36]:H),([36,40]:H),([36,40,40]:H),([49,43,40,50,41]:H),([41,41]:H),([36,123]:H),([125]:H),([96]:H),([96,99,96]:H),([35,114]:H),([9]:H),([102,40,41,32]:H),([195,169]:H)]
theorem adt:∀p∈bits,p.length<=6:=by decide
def vB(n:Nat)(x:H):Prop:=∃ax:bx,ax.length<=n/\(∀p∈ax,p∈bits)/\x=ax.flatten
theorem vB.len{n:Nat}{x:H}(h:vB n x):x.length<=6*n:=by
 obtain⟨ax,M,U,rfl⟩:=h
 have:∀ax:bx,(∀p∈ax,p∈bits)->ax.flatten.length<=6*ax.length:=by
  intro ax;induction ax with
  |nil=>intro _;simp
  |cons p t a=>intro h;have M:=adt p (h p (by simp));have U:=a λq b=>h q (by simp[b]);simp only[List.flatten_cons,m3,j5];omega
 have:=this ax U;omega
theorem adu(x:dH)(ys:bx)(j:H×Int×Int->Option (H×dH))(k:H×Int×Int×Int->Option (H×dH))(s:H)(c a b:Int):IT x ys j k (s,c,a,b)=bif(decide (0<c)) then
 (aw (h_ (x.1,a,b) (ys.length:Int)) λv=>(a4 (0<=v.1/\v.1<(ys.length:Int))<|(a4 (((s.length+(at' ys v.1).length:Nat):Int)<=9223372036854775807)<|k ((s++(at' ys v.1)),(W (c-1)),v.2.2.1,v.2.2.2)))) else j (s,a,b):=rfl
theorem arS{I:H}{x:dH}(g:x.1=I){j:H×Int×Int->Option (H×dH)}:∀(bw c:Nat)(s:H)(st:dH),c<bw->c<=12->s.length+6*c<=900000->eJ I st->
  ∃y a,fixF (IT x bits j) bw (s,(c:Int),st.2.1,st.2.2)=j (s++y,a.2.1,a.2.2)/\vB c y/\eJ I a:=by
 intro bw;induction bw with
 |zero=>intro c s st h;omega
 |succ bw b=>
  intro c s st az z Y h;rw[fl];generalize fixF (IT x bits j) bw=k at b⊢;cases c with
  |zero=>rw[adu];refine⟨[],st,?_,⟨[],by simp,by simp,rfl⟩,h⟩;rw[eE (show¬(0:Int)<((0:Nat):Int) by decide),aW,kj]
  |succ c=>
   have d:(bits.length:Int)=58:=by decide
   obtain⟨v,i,m,e,f,o⟩:=sv h (n:=(bits.length:Int)) (by rw[d];decide) (by rw[d];decide);have aE:=at_mem (l:=bits) e f;have A:=adt _ aE;rw[adu,decide_eq_true (show(0:Int)<((c+1:Nat):Int) by omega),aL,g,h.st,m,aR rfl];dsimp only;have q:W (((c+1:Nat):Int)-1)=(c:Int):=by rw[dJ (by omega) (by omega)];omega
   rw[b1 ⟨e,f⟩,b1 (pF _ _ (by omega) (by omega)),q];obtain⟨y,a,r,⟨ax,B,t,u⟩,w⟩:=b c (s++at' bits v) i (by omega) (by omega) (by simp only[m3];omega) o;refine⟨at' bits v++y,a,by rw[r,ob],⟨at' bits v::ax,by simp;omega,λp h=>?_,by rw[u];rfl⟩,w⟩;rcases kT.1 h with rfl|h
   ·exact aE
   ·exact t p h
theorem arT(x:dH)(n:Int):zj x n=aw (h_ x (W (n+1))) λz=>fixF (IT x bits λq=>some (q.1,(x.1,q.2.1,q.2.2))) bD ([],z.1,z.2.2.1,z.2.2.2):=rfl
theorem Vu{I:H}{st:dH}(h:eJ I st){n:Nat}(au:n<=12):∃y a,zj st (n:Int)=some (y,a)/\vB n y/\eJ I a:=by
 have d:W ((n:Int)+1)=((n+1:Nat):Int):=by rw[dJ (by omega) (by omega)];omega
 obtain⟨v,e,f,m,o,g⟩:=sv h (n:=((n+1:Nat):Int)) (by omega) (by omega)
 obtain⟨c,rfl⟩:∃c:Nat,v=(c:Int):=⟨v.toNat,by omega⟩
 rw[arT,d,f,aR rfl];obtain⟨y,a,i,⟨ax,p,k,l⟩,b⟩:=arS h.c (j:=λq=>some (q.1,(st.1,q.2.1,q.2.2))) bD c [] e (by rw[gD];omega) (by omega) (by simp;omega) g;exact⟨y,a,by rw[i,q6,h.c,b.st],⟨ax,by omega,k,l⟩,b⟩
def tq:H:=[92,10]
def vC:H:=[99,97,116,32,60,60,45,39,69,32,70,39,32,60,60,92,71,10,120,10,9,69,32,70,10,121,10,71,10]
def tr:bx:=[[],([32,38,38,32]:H),([32,124,32]:H),([59,32]:H)]
def uD:H:=[99,97,116,32,60,60,69]
def vD:H:=[10,120,10,69,10]
noncomputable def OH(x:dH)(z:H×Int×Int):Option (H×dH):=
 aw (h_ (x.1,z.2.1,z.2.2) 12) λv=>bif decide (v.1=0) then(a4 (((z.1.length+tq.length:Nat):Int)<=9223372036854775807)<|some (z.1++tq,(x.1,v.2.2.1,v.2.2.2))) else some (z.1,(x.1,v.2.2.1,v.2.2.2))
noncomputable def OI(x:dH)(y:Int)(z:H×Int×Int):Option (H×dH):=
 bif decide (y=10) then aw (zj (x.1,z.2.1,z.2.2) 2) λv=>(a4 (((z.1.length+v.1.length:Nat):Int)<=9223372036854775807)<|OH x (z.1++v.1,v.2.2.1,v.2.2.2)) else OH x z
noncomputable def OJ(x:dH)(y:Int)(z:H×Int×Int):Option (H×dH):=
 bif decide (y=9) then aw (h_ (x.1,z.2.1,z.2.2) (W ((z.1.length:Int)+1))) λu=>
 (a4 (0<=(0:Int)/\(0:Int)<=u.1/\u.1<=(z.1.length:Int))<|aw (zj (x.1,u.2.2.1,u.2.2.2) 1) λv=>(a4 ((((b4 z.1 0 u.1).length+v.1.length:Nat):Int)<=9223372036854775807)<|(a4 (0<=u.1/\u.1<=(z.1.length:Int)/\(z.1.length:Int)<=(z.1.length:Int))<|(a4 (((((b4 z.1 0 u.1)++v.1).length+(b4 z.1 u.1 (z.1.length:Int)).length:Nat):Int)<=9223372036854775807)<|OI x y ((((b4 z.1 0 u.1)++v.1)++(b4 z.1 u.1 (z.1.length:Int))),v.2.2.1,v.2.2.2))))) else OI x y z
noncomputable def OK(x:dH)(y:Int)(z:H×Int×Int):Option (H×dH):=
 bif(bif(bif(decide (3<y)) then(decide (y<9)) else false) then(decide (0<(z.1.length:Int))) else false) then
 aw (h_ (x.1,z.2.1,z.2.2) (W ((z.1.length:Int)+1))) λu=>
 (a4 (0<=(0:Int)/\(0:Int)<=u.1/\u.1<=(z.1.length:Int))<|OJ x y ((b4 z.1 0 u.1),u.2.2.1,u.2.2.2)) else OJ x y z
noncomputable def Ka(x:dH)(y:Int)(z:H×Int×Int):Option (H×dH):=
 bif decide (y=3) then(a4 (((vC.length+z.1.length:Nat):Int)<=9223372036854775807)<|OK x y (vC++z.1,z.2.1,z.2.2)) else OK x y z
theorem arU(x:dH):IU x=aw (h_ x 12) λu=>bif decide (u.1=0) then aw (zj (x.1,u.2.2.1,u.2.2.2) 12) λv=>some (v.1,(x.1,v.2.2.1,v.2.2.2)) else
 aw (rz.hv (x.1,u.2.2.1,u.2.2.2) 3 []) λv=>bif decide (u.1<3) then aw (h_ (x.1,v.2.2.1,v.2.2.2) 4) λw=>
  (a4 (0<=w.1/\w.1<(tr.length:Int))<|(a4 (((uD.length+(at' tr w.1).length:Nat):Int)<=9223372036854775807)<|(a4 ((((uD++(at' tr w.1)).length+v.1.length:Nat):Int)<=9223372036854775807)<|(a4 (((((uD++(at' tr w.1))++v.1).length+vD.length:Nat):Int)<=9223372036854775807)<|Ka x u.1 (((uD++(at' tr w.1))++v.1)++vD,w.2.2.1,w.2.2.2))))) else Ka x u.1 (v.1,v.2.2.1,v.2.2.2):=rfl
def Kb(T:H):Prop:=vB 12 T\/∃t o,gi 3 t/\t.length<=460000/\(o=[]\/o=tq)/\((∃s∈tr,T=uD++s++t++vD++o)\/T=vC++t++o\/∃a C B P m,t=a++C/\(B=[]/\m=2\/B=C/\m=1)/\vB m P/\T=a++P++B++o)
theorem adv{I:H}{x st:dH}(b:x.1=I)(h:eJ I st){s:H}(Y:s.length<=900000):∃o c,OH x (s,st.2.1,st.2.2)=some (s++o,c)/\(o=[]\/o=tq):=by
 obtain⟨v,e,d,f,g,i⟩:=sv h (n:=12) (by omega) (by omega);unfold OH;dsimp only;rw[b,h.st,d,aR rfl];dsimp only;by_cases a:v=0
 ·rw[decide_eq_true a,aL,b1 (pF s tq (by omega) (by decide))];exact⟨_,_,rfl,.inr rfl⟩
 ·rw[eE a,aW];exact⟨[],_,by rw[kj],.inl rfl⟩
theorem adw{I:H}{x st:dH}(b:x.1=I)(h:eJ I st){s:H}(Y:s.length<=800000){y:Int}:∃P o a,OI x y (s,st.2.1,st.2.2)=some (s++P++o,a)/\(o=[]\/o=tq)/\(P=[]\/y=10/\vB 2 P):=by
 unfold OI;by_cases c:y=10
 ·obtain⟨P,j,g,f,i⟩:=Vu h (n:=2) (by omega);have ay:=f.len;rw[decide_eq_true c,aL];dsimp only;rw[b,h.st,show(2:Int)=((2:Nat):Int) from rfl,g,aR rfl];dsimp only;rw[b1 (pF s P (by omega) (by omega))];obtain⟨o,a,d,e⟩:=adv b i (s:=s++P) (by simp only[m3];omega);exact⟨P,o,a,d,e,.inr ⟨c,f⟩⟩
 ·rw[eE c,aW];obtain⟨o,a,d,e⟩:=adv b h (s:=s) (by omega);exact⟨[],o,a,by rw[kj];exact d,e,.inl rfl⟩
theorem adx(s:H)(v:Int):b4 s 0 v=s.take v.toNat:=by unfold b4;simp
theorem arV(s:H){v:Int}(h:0<=v):b4 s v (s.length:Int)=s.drop v.toNat:=by unfold b4;rw[GV];simp
theorem ady{I:H}{st:dH}(h:eJ I st){s:H}(Y:s.length<=700000):∃v a,h_ st (W ((s.length:Int)+1))=some (v,a)/\(0<=v/\v<=(s.length:Int))/\eJ I a:=by have b:W ((s.length:Int)+1)=(s.length:Int)+1:=dJ (by omega) (by omega);obtain⟨v,a,c,d,f,e⟩:=arR h (n:=(s.length:Int)+1) (by omega) (by omega);exact⟨v,a,by rw[b];exact c,⟨d,by omega⟩,e⟩
theorem adz{I:H}{x st:dH}(e:x.1=I)(h:eJ I st){s:H}(Y:s.length<=700000){y:Int}:∃j C B P m o a,OJ x y (s,st.2.1,st.2.2)=some (j++P++B++o,a)/\s=j++C/\(y=9\/C=[])/\(B=[]/\m=2/\C=[]\/B=C/\m=1)/\vB m P/\(o=[]\/o=tq)/\(y=9\/y=10\/P=[]):=by
 unfold OJ;by_cases c:y=9
 ·obtain⟨v,w,q,b,k⟩:=ady h Y;obtain⟨P,z,r,p,t⟩:=Vu k (n:=1) (by omega);have ay:=p.len;rw[decide_eq_true c,aL];dsimp only;rw[e,h.st,q,aR rfl];dsimp only;rw[b1 ⟨sz 0,b.1,b.2⟩,k.st,show(1:Int)=((1:Nat):Int) from rfl,r,aR rfl];dsimp only;rw[adx,arV s b.1];have A:(s.take v.toNat).length<=s.length:=by rw[OT];exact Nat.min_le_right _ _
  have D:(s.drop v.toNat).length<=s.length:=by simp
  rw[b1 (pF _ P (by omega) (by omega)),b1 ⟨b.1,b.2,sz _⟩,b1 (pF _ _ (by simp only[m3];omega) (by omega))];obtain⟨Q,o,a,f,g,d⟩:=adw e t (s:=s.take v.toNat++P++s.drop v.toNat) (by simp only[m3];have:=OT (i:=v.toNat) (l:=s);have:=DQ (i:=v.toNat) (l:=s);omega) (y:=y);have u:Q=[]:=by
   rcases d with h|⟨h,_⟩
   ·exact h
   ·omega
  subst u;refine⟨s.take v.toNat,s.drop v.toNat,s.drop v.toNat,P,1,o,a,by rw[f,kj],(VH _ _).symm,.inl c,.inr ⟨rfl,rfl⟩,p,g,.inl c⟩
 ·rw[eE c,aW];obtain⟨P,o,a,f,g,d⟩:=adw e h (s:=s) (by omega) (y:=y);refine⟨s,[],[],P,2,o,a,by rw[f];simp,by simp,.inr rfl,.inl ⟨rfl,rfl,rfl⟩,?_,g,?_⟩
  ·rcases d with rfl|⟨_,h⟩
   ·exact⟨[],by simp,by simp,rfl⟩
   ·exact h
  ·rcases d with h|⟨h,_⟩
   ·exact .inr (.inr h)
   ·exact .inr (.inl h)
theorem adA{I:H}{x st:dH}(f:x.1=I)(h:eJ I st){s:H}(Y:s.length<=700000){y:Int}:∃a C B P m o b,OK x y (s,st.2.1,st.2.2)=some (a++P++B++o,b)/\s=a++C/\(B=[]/\m=2\/B=C/\m=1)/\vB m P/\(o=[]\/o=tq)/\(y<=3->C=[]/\P=[]):=by
 unfold OK;dsimp only;by_cases az:(3<y/\y<9)/\(0:Int)<(s.length:Int)
 ·obtain⟨v,w,p,l,q⟩:=ady h Y;rw[decide_eq_true az.1.1,decide_eq_true az.1.2,decide_eq_true az.2];simp only[aL];rw[f,h.st,p,aR rfl];dsimp only;rw[b1 ⟨sz 0,l.1,l.2⟩,adx];obtain⟨a,C,B,P,m,o,b,g,d,i,e,j,k,c⟩:=adz f q (s:=s.take v.toNat) (by simp;omega) (y:=y);have n:C=[]:=by
   rcases i with h|h
   ·omega
   ·exact h
  have r:B=[]:=by
   rcases e with h|h
   ·exact h.1
   ·rw[h.1,n]
  have hm:m<=2:=by rcases e with h|h<;>omega
  rw[n,kj] at d;obtain⟨ax,z,t,u⟩:=j;refine⟨a,s.drop v.toNat,B,P,2,o,b,g,?_,.inl ⟨r,rfl⟩,⟨ax,by omega,t,u⟩,k,λh=>by omega⟩;rw[<-d];exact(VH _ _).symm
 ·have:(bif(bif(decide (3<y)) then(decide (y<9)) else false) then(decide ((0:Int)<(s.length:Int))) else false)=false:=by
   cases h:(bif(bif(decide (3<y)) then(decide (y<9)) else false) then(decide ((0:Int)<(s.length:Int))) else false) with
   |false=>rfl
   |true=>exact absurd (by simpa using h) az
  rw[this,aW];obtain⟨a,C,B,P,m,o,b,g,d,i,e,j,k,c⟩:=adz f h (s:=s) Y (y:=y);refine⟨a,C,B,P,m,o,b,g,d,?_,j,k,λh=>⟨?_,?_⟩⟩
  ·rcases e with h|h
   ·exact .inl ⟨h.1,h.2.1⟩
   ·exact .inr h
  ·rcases i with h|h
   ·omega
   ·exact h
  ·rcases c with h|h|h
   ·omega
   ·omega
   ·exact h
theorem arW{I:H}{st:dH}(h:eJ I st):∃T a,IU st=some (T,a)/\Kb T:=by
 obtain⟨y,O,J,Q,R,k⟩:=sv h (n:=12) (by omega) (by omega);have az:=h.c;rw[arU,J,aR rfl];dsimp only;by_cases D:y=0
 ·obtain⟨P,K,p,e,L⟩:=Vu k (n:=12) (by omega);rw[decide_eq_true D,aL,az,k.st,show(12:Int)=((12:Nat):Int) from rfl,p,aR rfl];exact⟨_,_,rfl,.inl e⟩
 rw[eE D,aW,az,k.st];obtain⟨t,K,p,e,L,q⟩:=acx (sfx:=[]) (by decide) k;rw[kj] at p;have ay:o6 3<=460000:=(qn (d:=3) (by decide)).2.1;rw[p,aR rfl];dsimp only
 have rest:∀{s:H}{f:dH},eJ I f->s.length<=700000->y≠3->∃c C B P m o a,Ka st y (s,f.2.1,f.2.2)=some (c++P++B++o,a)/\s=c++C/\(B=[]/\m=2\/B=C/\m=1)/\vB m P/\(o=[]\/o=tq)/\(y<=3->C=[]/\P=[]):=λ{s f} r Y u=>by unfold Ka;rw[eE u,aW];exact adA az r Y
 by_cases r:y<3
 ·obtain⟨v,f,M,E,F,x⟩:=sv q (n:=4) (by omega) (by omega);have G:=at_mem (l:=tr) E F;have S:=(by decide:∀s∈tr,s.length<=4) _ G;rw[decide_eq_true r,aL,q.st,M,aR rfl];dsimp only;have U:uD.length=7:=rfl;rw[b1 ⟨E,F⟩,b1 (pF _ _ (by decide) (by omega)),b1 (pF _ _ (by simp only[m3];omega) (by omega)),b1 (pF _ _ (by simp only[m3];omega) (by decide))];have N:vD.length=5:=rfl;obtain⟨c,C,B,P,m,o,a,g,b,i,z,j,w⟩:=rest (s:=uD++at' tr v++t++vD) x (by simp only[m3];omega) (by omega);obtain⟨rfl,rfl⟩:=w (by omega);have A:B=[]:=by rcases i with h|h<;>exact h.1
  subst A;rw[kj] at b;refine⟨_,a,g,.inr ⟨t,o,e,by omega,j,.inl ⟨_,G,?_⟩⟩⟩;rw[kj,kj,<-b]
 rw[eE r,aW];by_cases u:y=3
 ·unfold Ka;have V:vC.length=29:=rfl;rw[decide_eq_true u,aL];dsimp only;rw[b1 (pF _ _ (by decide) (by omega))];obtain⟨c,C,B,P,m,o,a,g,b,i,z,j,w⟩:=adA az q (s:=vC++t) (by simp only[m3];omega) (y:=y);obtain⟨rfl,rfl⟩:=w (by omega);have A:B=[]:=by rcases i with h|h<;>exact h.1
  subst A;rw[kj] at b;refine⟨_,a,g,.inr ⟨t,o,e,by omega,j,.inr (.inl ?_)⟩⟩;rw[kj,kj,<-b]
 ·obtain⟨c,C,B,P,m,o,a,g,b,i,z,j,w⟩:=rest (s:=t) q (by omega) u;exact⟨_,a,g,.inr ⟨t,o,e,by omega,j,.inr (.inr ⟨c,C,B,P,m,b,i,z,rfl⟩)⟩⟩
theorem arY(I:H)(a:I.length<=1048576):∃T,IV I=some T/\Kb T:=by obtain⟨st,b,M⟩:=aci I a;obtain⟨T,e,c,d⟩:=arW M;unfold IV;rw[b,aR rfl,c];exact⟨T,rfl,d⟩
end Go.Eng
namespace Go.Eng
theorem adC{b:UInt8}{r d a:H}(h:b::r<:+d++a)(hA:b∉d):b::r<:+a:=by
 induction d with
 |nil=>exact h
 |cons c d e=>
  rcases List.suffix_cons_iff.1 h with h|h
  ·cases h;simp at hA
  ·exact e h (λf=>hA (by simp[f]))
theorem Vv(d:Nat):(∀w,fU d w->(60:UInt8)∉w)/\∀t,gi d t->(60:UInt8)∉t:=by
 have av:∀w∈nn,(60:UInt8)∉w:=by decide
 have Y:∀{W:H->Prop},(∀w,W w->(60:UInt8)∉w)->∀{c:H},qm W (fU 0) c->(60:UInt8)∉c:=by
  rintro W hW c ⟨x,ws,r,M,U,rfl,k⟩;have m:=(by decide:∀x∈q3,(60:UInt8)∉x) x M;have e:(60:UInt8)∉jc ws:=by
   intro h;simp only[jc,List.mem_flatMap,kT] at h;obtain⟨w,b,h|h⟩:=h
   ·exact absurd h (by decide)
   ·exact hW w (U w b) h
  have n:(60:UInt8)∉r:=by
   rcases k with rfl|rfl|⟨w,b,rfl⟩
   ·simp
   ·decide
   ·have:=av w b;simp[this]
  simp[m,e,n]
 have ay:∀{C:H->Prop},(∀c,C c->(60:UInt8)∉c)->∀{t:H},rV C t->(60:UInt8)∉t:=by
  rintro C i t ⟨c,l,M,U,rfl⟩;have e:(60:UInt8)∉cN l:=by
   intro h;simp only[cN,List.mem_flatMap,rW] at h;obtain⟨p,aE,h|h⟩:=h
   ·exact(by decide:∀j∈jl,(60:UInt8)∉j) _ (U p aE).1 h
   ·exact i _ (U p aE).2 h
  simp[i c M,e]
 induction d with
 |zero=>exact⟨av,λt f=>ay (λc az=>Y av az) f⟩
 |succ d o=>
  obtain⟨g,a⟩:=o
  have b:∀w,fU (d+1) w->(60:UInt8)∉w:=by
   intro w h;rcases h with h|⟨t,M,rfl|rfl⟩|⟨v,M,rfl⟩
   ·exact av w h
   ·simp[a t M]
   ·simp[a t M]
   ·simp[g v M]
  refine⟨b,λt f=>ay (λc az=>?_) f⟩;rcases az with az|az
  ·exact Y b az
  ·rcases az with⟨t,M,rfl⟩|⟨t,M,rfl⟩|⟨t,u,M,U,rfl⟩|⟨t,u,M,U,rfl⟩|⟨t,u,M,U,rfl⟩|⟨w,u,M,U,rfl⟩|rfl|⟨w,u,M,U,rfl⟩|⟨t,M,rfl⟩
   ·simp[a t M]
   ·simp[a t M]
   ·simp[a t M,a u U]
   ·simp[a t M,a u U]
   ·simp[a t M,a u U]
   ·simp[g w M,a u U]
   ·decide
   ·simp[g w M,a u U]
   ·simp[a t M]
theorem adE:∀(n:Nat)(d:H)(tabs:Bool)(r q:H),r.length<=n->jR d tabs r=some q->∃p s,r=p++(d++s)/\(s=[]/\q=[]\/s=10::q):=by
 intro n;induction n with
 |zero=>intro d tabs r q au h;have:=m4.1 (Nat.le_zero.1 au);subst this;simp[jR] at h
 |succ n c=>
  intro d tabs r q au h;cases r with
  |nil=>simp[jR] at h
  |cons b t=>
   rw[xI] at h;have Y:=Vp (b::t);have a:=IW (b::t) (by simp);generalize (b::t:H)=r at*;by_cases ay:(if tabs then(hF r).1.dropWhile (· ==9) else(hF r).1)=d
   ·rw[bc ay] at h;cases h
    have aE:∃p,(hF r).1=p++d:=by
     cases tabs with
     |true=>exact⟨(hF r).1.takeWhile (· ==9),by rw[<-ay];simp[OV]⟩
     |false=>exact⟨[],by simpa using ay⟩
    obtain⟨p,aE⟩:=aE;rcases Y with⟨M,U⟩|M
    ·exact⟨p,[],by rw[kj,<-aE];exact M,.inl ⟨rfl,U⟩⟩
    ·exact⟨p,10::(hF r).2,by rw[<-ob,<-aE];exact M,.inr rfl⟩
   ·rw[aO ay] at h;obtain⟨p,s,M,U⟩:=c d tabs _ q (by omega) h;rcases Y with⟨al,e⟩|al
    ·refine⟨(hF r).1++p,s,?_,U⟩;rw[e] at M;rw[ob,<-M,kj];exact al
    ·refine⟨(hF r).1++10::p,s,?_,U⟩;rw[M] at al;exact al.trans (by simp)
theorem adF:∀(F:ah)(d:H)(tabs:Bool)(r q:H),ks (F++[(d,tabs)]) r= .inl q->∃m,ks F r= .inl m/\jR d tabs m=some q
 |[],d,tabs,r,q,h=>by
  refine⟨r,rfl,?_⟩;simp only[q6,ks] at h;cases a:jR d tabs r with
  |none=>rw[a] at h;cases h
  |some x=>rw[a] at h;simpa[ks] using h
 |e::F,d,tabs,r,q,h=>by
  simp only[fV,ks] at h⊢;cases a:jR e.1 e.2 r with
  |none=>rw[a] at h;cases h
  |some x=>rw[a] at h;exact adF F d tabs x q h
def DN(j:Bool)(x:H):Prop:=(∃y,(x=69::y\/x=45::69::y)/\∀u tt d tabs q,10::u<:+y->tt<:+u->(10:UInt8)∉d->jR (69::d) tabs tt=some q->q<:+m2 j)\/x.head?=some 60\/x=[]\/x=[10]\/x=[92,10]
theorem DL.of{j:Bool}{T:H}(h:∀x,60::60::x<:+T->DN j x):DL j T:=by
 intro r F o tabs r' O C P a s aD
 have D:∃x,r=60::60::x/\(tabs=true->∃z,x=45::z)/\(tabs=false->x.head?≠some 45):=by
  rcases s with⟨rfl,rfl⟩|⟨rfl,rfl⟩
  ·have:[60,60]<+:r:=by
    have U:aq r= .op [60,60]:=by
     cases r with
     |nil=>simp[bs,kd] at a
     |cons b t=>rw[mB (by simp)];exact a
    exact(h4 U).2.1
   obtain⟨x,rfl⟩:=this;refine⟨x,rfl,by simp,λ_ hh=>?_⟩;cases x with
   |nil=>cases hh
   |cons c z=>cases hh;simp[bs,kd,uF,List.isPrefixOf] at a
  ·have:[60,60,45]<+:r:=by
    have U:aq r= .op [60,60,45]:=by
     cases r with
     |nil=>simp[bs,kd] at a
     |cons b t=>rw[mB (by simp)];exact a
    exact(h4 U).2.1
   obtain⟨x,rfl⟩:=this;exact⟨45::x,rfl,λ_=>⟨x,rfl⟩,by simp⟩
 obtain⟨x,rfl,M,U⟩:=D;have E:=h x C;have G:(60::60::x).drop o.length=bif tabs then x.drop 1 else x:=by
  rcases s with⟨rfl,rfl⟩|⟨rfl,rfl⟩
  ·rfl
  ·obtain⟨z,rfl⟩:=M rfl;rfl
 rw[G] at aD;rcases E with⟨y,bl,I⟩|hh|rfl|rfl|rfl
 ·have f:(bif tabs then x.drop 1 else x)=69::y:=by
   cases tabs with
   |true=>obtain⟨z,rfl⟩:=M rfl;rcases bl with bl|bl<;>cases bl;rfl
   |false=>
    rcases bl with rfl|rfl
    ·rfl
    ·exact absurd rfl (U rfl)
  rw[f] at aD;have s1:bo (69::y)=some (69::y):=jG (by decide) (by decide) (by decide)
  have s2:∃w p,aq (69::y)= .word w p:=by rw[x1,aO (by decide),mU (by decide),aO (by simp)];exact⟨_,_,rfl⟩
  obtain⟨w,p,s2⟩:=s2;have J:df (69::y)=(df y).map λq=>(69::q.1,q.2):=by rw[wA,aO (by rw[FF (by decide)];simp),aO (by decide),aO (by decide),aO (by decide),aO (by decide)]
  unfold gS at aD;rw[s1] at aD;simp only[s2,J] at aD;cases g:df y with
  |none=>rw[g] at aD;cases aD
  |some v=>
   obtain⟨u,q,K⟩:=v;rw[g] at aD;simp only[zZ] at aD;by_cases fb:(69::u).contains 10=true
   ·rw[bc fb] at aD;cases aD
   rw[aO fb,aO (by simp)] at aD;by_cases A:K≠[]
   ·rw[bc A] at aD;cases aD
   rw[aO A] at aD;by_cases B:q=[]
   ·rw[bc B] at aD;cases aD
   rw[aO B] at aD;cases aD;have i:r'<:+y:=MU _ _ _ (cF _) g;intro tt k d l;right;obtain⟨m,L,N⟩:=adF _ _ _ _ _ l;have:=I tt m u tabs k (d.trans i) (vl F tt [] m L).1 (λh=>fb (by simp[h])) N;exact j4.h.2 this
 ·exfalso;cases x with
  |nil=>cases hh
  |cons c z=>
   cases hh;have d:tabs=false:=by
    cases tabs with
    |false=>rfl
    |true=>obtain⟨z,n⟩:=M rfl;cases n
   subst d
   have s2:∃o,aq (60::z)= .op o:=by
    rw[x1,aO (by decide)];by_cases h0:bs (60::z)=[]
    ·have:bs (60::z)≠[]:=by
      have hf:(kd.find? (λo=>o.isPrefixOf (60::z))).isSome=true:=by rw[List.find?_isSome];exact⟨[60],by decide,by simp[List.isPrefixOf]⟩
      obtain⟨o,a⟩:=Kr.1 hf;unfold bs;rw[a];have:=List.mem_of_find?_eq_some a;intro e;simp at e;subst e;exact absurd this (by decide)
     exact absurd h0 this
    ·rw[bc h0];exact⟨_,rfl⟩
   obtain⟨Q,s2⟩:=s2;have s1:bo (60::z)=some (60::z):=jG (by decide) (by decide) (by decide);unfold gS at aD;simp only[aW] at aD;rw[s1] at aD;simp only[s2] at aD;cases aD
 all_goals
  exfalso;have d:tabs=false:=by
   cases tabs with
   |false=>rfl
   |true=>obtain⟨z,n⟩:=M rfl;cases n
  subst d;unfold gS at aD;simp[bo,fJ,aq] at aD
theorem adG{j:Bool}{k:Nat}{T:H}(h:dD j k T)(av:k<=23)(a:m2 j<:+T)(aD:DL j T):∀q,f_ true 30 T≠ .deep q:=by obtain⟨E,M,rfl,b,_⟩:=h.nd a aD (n:=30) (by omega);exact Zw M b
theorem ar3{x a y b:H}(h:x++69::a=y++69::b)(g:(69:UInt8)∉y)(i:(69:UInt8)∉b):a=b:=by
 rcases List.append_eq_append_iff.1 h with⟨c,f,d⟩|⟨c,f,d⟩
 ·cases c with
  |nil=>simpa using d
  |cons e c=>simp only[fV,vE] at d;exact absurd (by rw[f,d.1];simp) g
 ·cases c with
  |nil=>simpa using d.symm
  |cons e c=>simp only[fV,vE] at d;exact absurd (by rw[d.2];simp) i
theorem adH{t s o:H}{j:Bool}(f:gi 3 t)(Y:s∈tr)(a:o=m2 j):∀q,f_ true 30 (uD++s++t++vD++o)≠ .deep q:=by
 have he:uD++s++t++vD++o=[99,97,116,32]++(60::60::([69]++(s++(t++(10::([120,10,69,10]++o)))))):=by simp[uD,vD]
 rw[he];have l:w6 o=true:=by subst a;cases j<;>decide
 have M:dD j 0 (10::([120,10,69,10]++o)):=by have:=((dD.nil (j:=j)).const l).const (p:=[10,120,10,69,10]) (by decide);simpa using this
 have U:=((GO 3 (by omega)).ls f (eg.nl _) M).const ((by decide:∀s∈tr,w6 s=true) s Y);have m:=(U.const (p:=[69]) (by decide)).const (p:=[99,97,116,32,60,60]) (by decide);have n:(60:UInt8)∉[69]++(s++(t++(10::([120,10,69,10]++o)))):=by
  have g:=(by decide:∀s∈tr,(60:UInt8)∉s) s Y;have ak:=(Vv 3).2 t f;have a3:(60:UInt8)∉o:=by subst a;cases j<;>decide
  simp[g,ak,a3]
 have i:(69:UInt8)∉s++(t++[10,120,10])/\(69:UInt8)∉10::o:=by
  have g:=(by decide:∀s∈tr,(69:UInt8)∉s) s Y;have ak:=((GL 3).2 t f).1;have a3:(69:UInt8)∉o:=by subst a;cases j<;>decide
  simp[g,ak,a3]
 generalize r:s++(t++(10::([120,10,69,10]++o)))=y at*;have b:y=(s++(t++[10,120,10]))++69::(10::o):=by rw[<-r];simp
 refine adG (show dD j 0 ([99,97,116,32]++(60::60::([69]++y))) from m) (by omega) ?_ (DL.of λx v=> .inl ⟨y,.inl ?_,λu tt d tabs q hu w z A=>?_⟩)
 ·rw[b,<-a];exact⟨[99,97,116,32]++(60::60::([69]++(s++(t++[10,120,10])++69::[10]))),by simp⟩
 ·have:=adC v (by decide);rcases List.suffix_cons_iff.1 this with h|h
  ·cases h;rfl
  ·rcases List.suffix_cons_iff.1 h with h|h
   ·cases h
   ·exact absurd (h.subset (by simp)) n
 ·obtain⟨p,s2,B,ba⟩:=adE _ _ _ _ _ (cF _) A;obtain⟨C,k⟩:=w.trans ((dL 10 u).trans hu);rw[B,b] at k;have e:d++s2=10::o:=ar3 (x:=C++p) (y:=s++(t++[10,120,10])) (by rw[ob];exact k) i.1 i.2;have D:d=[]:=by
   cases d with
   |nil=>rfl
   |cons c d=>simp only[fV,vE] at e;exact absurd (by rw[e.1];simp) z
  subst D;rcases ba with⟨rfl,rfl⟩|ba
  ·exact nP
  ·rw[ba] at e;have:q=o:=by simpa using e
   rw[this,a];exact fq
theorem DN.none{j:Bool}{x y:H}(a:x=69::y\/x=45::69::y)(h:∀u,10::u<:+y->(69:UInt8)∉u):DN j x:=by refine .inl ⟨y,a,λu tt d tabs q hu b f c=>?_⟩;obtain⟨p,s2,e,g⟩:=adE _ _ _ _ _ (cF _) c;exact absurd (b.subset (by rw[e];simp)) (h u hu)
def OL(w:H):Bool:=w==[]||w.head?==some 60||(match w with|69::y=> !y.dropLast.contains 10|45::69::y=> !y.dropLast.contains 10|_=>false)
def DO:H->Bool
 |60::60::w=>OL w&&DO (60::w)
 |_::w=>DO w
 |[]=>true
theorem Vx{w:H}:∀{p:H},DO p=true->60::60::w<:+p->OL w=true
 |[],_,h=>by simp at h
 |b::p,av,h=>by
  rcases List.suffix_cons_iff.1 h with h|h
  ·cases h;simp only[DO,hH] at av;exact av.1
  ·refine Vx ?_ h;unfold DO at av;split at av
   ·rename_i U;cases U;simp only[hH] at av;exact av.2
   ·rename_i U;cases U;exact av
   ·rename_i U;cases U
theorem ar4{t e C B P o:H}{m:Nat}(n:gi 3 t)(hA:t=e++C)(s:B=[]/\m=2\/B=C/\m=1)(S:vB m P)(v:o=[]\/o=[10]\/o=[92,10]):∀q,f_ true 30 (e++(P++(B++o)))≠ .deep q:=by
 have T:w6 o=true:=by rcases v with rfl|rfl|rfl<;>decide
 have h0:dD false 0 o:=by have:=(dD.nil (j:=false)).const T;simpa using this
 obtain⟨ax,V,d,rfl⟩:=S
 have E:∃i,i+3*m<=13/\dD false i (B++o):=by
  rcases s with⟨rfl,rfl⟩|⟨rfl,rfl⟩
  ·exact⟨0,by omega,h0⟩
  ·obtain⟨i,M,U⟩:=(OG 3 (by omega)).ls n t [] (by simp) 0 o h0;obtain⟨F,a,G⟩:=U.sfx (r:=B++o) (by rw[hA];exact⟨e,by simp⟩);exact⟨F,by omega,G⟩
 obtain⟨i,bh,E⟩:=E
 have aE:∀ax:bx,(∀p∈ax,p∈bits)->∃k,k<=i+3*ax.length/\dD false k (ax.flatten++(B++o)):=by
  intro ax;induction ax with
  |nil=>intro _;exact⟨i,by simp,E⟩
  |cons p ax I=>intro h;obtain⟨k,L,A⟩:=I λq W=>h q (by simp[W]);have J:=A.any p;have:=(by decide:∀p∈bits,mD p<=3) p (h p (by simp));exact⟨k+mD p,by simp only[j5];omega,by simpa using J⟩
 obtain⟨k,L,A⟩:=aE ax d;obtain⟨k',J,N⟩:=(OG 3 (by omega)).ls n e C hA k _ A;refine adG N (by omega) nP (DL.of λx f=>?_);have g:(60:UInt8)∉e/\(60:UInt8)∉B:=by
  have:=(Vv 3).2 t n;rw[hA] at this;simp only[rW,xa] at this;refine⟨this.1,?_⟩;rcases s with⟨rfl,_⟩|⟨rfl,_⟩
  ·simp
  ·exact this.2
 have K:(69:UInt8)∉B++o:=by
  have:=((GL 3).2 t n).1;rw[hA] at this;simp only[rW,xa] at this;have U:(69:UInt8)∉B:=by
   rcases s with⟨rfl,_⟩|⟨rfl,_⟩
   ·simp
   ·exact this.2
  have a:(69:UInt8)∉o:=by rcases v with rfl|rfl|rfl<;>decide
  simp[U,a]
 have l:(60:UInt8)∉B++o:=by
  have a:(60:UInt8)∉o:=by rcases v with rfl|rfl|rfl<;>decide
  simp[g.2,a]
 have f:=adC f g.1
 have X:∃w,60::60::w<:+ax.flatten/\x=w++(B++o):=by
  generalize ax.flatten=P at f;clear aE A N L J hA;induction P with
  |nil=>exact absurd (f.subset (by simp)) l
  |cons b P I=>
   rcases List.suffix_cons_iff.1 f with h|h
   ·cases P with
    |nil=>simp only[fV,q6,vE] at h;have U:60::x=B++o:=h.2;exact absurd (by rw[<-U];simp) l
    |cons c P=>simp only[fV,vE] at h;obtain⟨rfl,rfl,rfl⟩:=h;exact⟨P,fq,rfl⟩
   ·obtain⟨w,M,U⟩:=I h;exact⟨w,M.trans (dL _ _),U⟩
 obtain⟨w,M,rfl⟩:=X;have av:OL w=true/\(m=1->w=[69]\/w=[45,69]):=by
  match ax,V,d,M with
  |[],_,_,M=>simp at M
  |[p],_,d,M=>
   have:=(by decide:∀p∈bits,DO p=true/\(p=[60,60,69]\/p=[60,60,45,69]\/p.count 60<=1)) p (d p (by simp));simp only[List.flatten_cons,List.flatten_nil,kj] at M;refine⟨Vx this.1 M,λ_=>?_⟩;rcases this.2 with rfl|rfl|U
   ·have a:∀{b c:UInt8}{r:H},60::60::w<:+60::b::c::r->(60:UInt8)∉c::r->w=c::r:=λ{b c r} h au=>by
     rcases List.suffix_cons_iff.1 h with h|h
     ·cases h;rfl
     ·rcases List.suffix_cons_iff.1 h with h|h
      ·cases h;simp at au
      ·exact absurd (h.subset (by simp)) au
    exact .inl (a M (by decide))
   ·have a:∀{b c:UInt8}{r:H},60::60::w<:+60::b::c::r->(60:UInt8)∉c::r->w=c::r:=λ{b c r} h au=>by
     rcases List.suffix_cons_iff.1 h with h|h
     ·cases h;rfl
     ·rcases List.suffix_cons_iff.1 h with h|h
      ·cases h;simp at au
      ·exact absurd (h.subset (by simp)) au
    exact .inr (a M (by decide))
   ·have:=M.sublist.count_le 60;simp at this;omega
  |[p,O],U,d,M=>refine⟨?_,λh=>by subst h;simp at U⟩;have:=(by decide+kernel:∀p∈bits,∀q∈bits,DO (p++q)=true) p (d p (by simp)) O (d O (by simp));simp only[List.flatten_cons,List.flatten_nil,kj] at M;exact Vx this M
  |_::_::_::_,U,_,_=>simp only[j5] at U;omega
 obtain⟨av,Y⟩:=av;rcases s with⟨rfl,hm⟩|⟨Z,hm⟩
 ·simp only[q6] at*
  have D:∀y,(!y.dropLast.contains 10)=true->∀u,10::u<:+y++o->(69:UInt8)∉u:=by
   intro y D u hu;have ay:u.length<=o.length:=by
    false_or_by_contra
    obtain⟨z,Q⟩:=hu;have:(10:UInt8)∈y.dropLast:=by
     have U:z.length<y.dropLast.length:=by have:=mC List.length Q;simp only[m3,j5,List.length_dropLast] at*;omega
     have a:y.dropLast[z.length]? =some 10:=by
      rw[List.getElem?_dropLast];have G:z.length<y.length-1:=by simpa using U
      rw[bc G];have R:(y++o)[z.length]? =some 10:=by rw[<-Q];simp
      rw[VC (by omega)] at R;exact R
     exact sA a
    simp[this] at D
   have:u<:+o:=by
    rcases List.suffix_or_suffix_of_suffix ((dL 10 u).trans hu) (fO y o) with h|h
    ·exact h
    ·rw[h.eq_of_length_le ay];exact fq
   exactλh=>K (this.subset h)
  unfold OL at av;simp only[yl] at av;rcases av with(av|av)|av
  ·have:w=[]:=by simpa using av
   subst this;rcases v with rfl|rfl|rfl
   ·exact .inr (.inr (.inl rfl))
   ·exact .inr (.inr (.inr (.inl rfl)))
   ·exact .inr (.inr (.inr (.inr rfl)))
  ·cases w with
   |nil=>simp at av
   |cons c w=>exact .inr (.inl (by simpa using av))
  ·split at av
   ·exact DN.none (.inl rfl) (D _ av)
   ·exact DN.none (.inr rfl) (D _ av)
   ·cases av
 ·rcases Y hm with rfl|rfl
  ·exact DN.none (.inl rfl) λu hu h=>K (hu.subset (by simp[h]))
  ·exact DN.none (.inr rfl) λu hu h=>K (hu.subset (by simp[h]))
def Bw:H->Bool
 |36::_=>false
 |r=>w5 r
def sy:H->Nat
 |[]=>0
 |b::t=>(if Bw (b::t) then 1 else 0)+sy t
def Ke:H->Nat
 |[]=>0
 |b::t=>(if Bw (b::t)||(t==[]&&([105,119,117,102,99]:H).contains b)||b::t==[99,97] then 1 else 0)+Ke t
theorem ar6{b:UInt8}{t v:H}(M:Bw (b::t)=false)(U:(t==[]&&([105,119,117,102,99]:H).contains b)=false)(d:(b::t==[99,97])=false):Bw (b::t++v)=false:=by
 by_cases a:b=36
 ·subst a;rfl
 ·have e:∀r:H,Bw (b::r)=w5 (b::r):=λr=>by
   unfold Bw;split
   ·rename_i h;cases h;exact absurd rfl a
   ·rfl
  rw[e] at M;rw[fV,e,<-fV];refine Vs M ?_ d;cases t with
  |nil=>simp[a] at U⊢;exact U
  |cons c t=>rfl
theorem adL(v:H):∀p:H,sy (p++v)<=Ke p+sy v
 |[]=>by simp[Ke]
 |b::t=>by
  have a:=adL v t;rw[fV,sy,Ke];split
  ·rename_i h;by_cases az:(Bw (b::t)||(t==[]&&([105,119,117,102,99]:H).contains b)||b::t==[99,97])=true
   ·rw[bc az];omega
   ·simp only[yl,xa,Bool.not_eq_true] at az;rw[<-fV,ar6 az.1.1 az.1.2 az.2] at h;cases h
  ·split<;>omega
theorem Kf:∀{r r':H},r'<:+r->sy r'<=sy r
 |[],r',h=>by rw[List.suffix_nil.1 h];exact cF _
 |b::t,r',h=>by
  rcases List.suffix_cons_iff.1 h with rfl|h
  ·exact cF _
  ·have:=Kf h;rw[sy];omega
theorem adM{P o:H}(d:vB 12 P)(c:o=[]\/o=[10]):∀q,f_ true 30 (P++o)≠ .deep q:=by
 obtain⟨ax,m,e,rfl⟩:=d
 have au:∀ax:bx,(∀p∈ax,p∈bits)->sy (ax.flatten++o)<=2*ax.length:=by
  intro ax;induction ax with
  |nil=>intro _;rcases c with rfl|rfl<;>decide
  |cons p ax f=>intro h;have M:=(by decide:∀p∈bits,Ke p<=2) p (h p (by simp));have U:=f λq g=>h q (by simp[g]);have s:=adL (ax.flatten++o) p;simp only[List.flatten_cons,ob,j5];omega
 have t:=au ax e
 have a:∀{u v:H},Bw v=true->(∃b,v=b::u)->∀i,sy (u.drop i)+1<=sy v:=λ{u v} c j i=>by obtain⟨b,rfl⟩:=j;have:=Kf (lO i u);rw[sy,bc c];omega
 have ok:(k7.mk (ax.flatten++o) sy 1 λ_ _=>True).mN:=by
  refine⟨cF _,λ_ _ h _=>Kf h,λ_ _ _ _ _ _=>trivial,λ_ _=>trivial,λ_ _ _ _ _ _ _ _ _ _ _=>trivial,λu _ _=> .inl ?_,λu _=> .inl ?_,λr _ Y az=> .inl ?_,λu _=> .inl (a rfl ⟨_,rfl⟩ 0)⟩
  ·exact kB (a (v:=40::u) rfl ⟨_,rfl⟩ 0) (Kf (dL _ _))
  ·exact kB (a (v:=123::u) rfl ⟨_,rfl⟩ 0) (Kf (dL _ _))
  ·show sy _+1<=sy r;rcases GM az with⟨u,rfl⟩|⟨w,k,l,u,rfl⟩
   ·rw[wE];exact a rfl ⟨_,rfl⟩ 0
   ·rw[l];rcases DM k with rfl|rfl|rfl|rfl|rfl|rfl
    ·exact a (u:=[102]++u) (v:=105::([102]++u)) rfl ⟨_,rfl⟩ 1
    ·exact a (u:=[104,105,108,101]++u) (v:=119::([104,105,108,101]++u)) rfl ⟨_,rfl⟩ 4
    ·exact a (u:=[110,116,105,108]++u) (v:=117::([110,116,105,108]++u)) rfl ⟨_,rfl⟩ 4
    ·exact a (u:=[111,114]++u) (v:=102::([111,114]++u)) rfl ⟨_,rfl⟩ 2
    ·exact a (u:=[97,115,101]++u) (v:=99::([97,115,101]++u)) rfl ⟨_,rfl⟩ 3
    ·exact a (u:=u) (v:=123::u) rfl ⟨_,rfl⟩ 0
 exact Zw ok (n:=30) (by show sy (ax.flatten++o)+1<=30;omega)
def ts:H:=[120,10,9,69,32,70,10,121,10,71,10]
def yk:ah:=[([69,32,70],true),([71],false)]
theorem adN{l x:H}(h:(10:UInt8)∉l):hF (l++10::x)=(l,x):=by
 induction l with
 |nil=>rfl
 |cons b l a=>simp only[kT,xa] at h;rw[fV,hF,aO (λe=>h.1 e.symm),a h.2]
theorem adO{d l x:H}{tabs:Bool}(ay:l≠[])(h:(10:UInt8)∉l)(aD:(if tabs then l.dropWhile (· ==9) else l)=d):jR d tabs (l++10::x)=some x:=by obtain⟨b,t,rfl⟩:=List.exists_cons_of_ne_nil ay;have:=adN (x:=x) h;rw[fV] at this⊢;rw[xI,this,bc aD]
theorem adP{d l x:H}{tabs:Bool}(ay:l≠[])(h:(10:UInt8)∉l)(aD:(if tabs then l.dropWhile (· ==9) else l)≠d):jR d tabs (l++10::x)=jR d tabs x:=by obtain⟨b,t,rfl⟩:=List.exists_cons_of_ne_nil ay;have:=adN (x:=x) h;rw[fV] at this⊢;rw[xI,this,aO aD]
theorem ar7(s:H):ks yk (ts++s)= .inl s:=by
 have M:jR [69,32,70] true (ts++s)=some ([121,10,71,10]++s):=by show jR _ _ ([120]++10::([9,69,32,70]++10::([121,10,71,10]++s)))=_;rw[adP (by simp) (by decide) (by decide),adO (by simp) (by decide) (by decide)]
 have U:jR [71] false ([121,10,71,10]++s)=some s:=by show jR _ _ ([121]++10::([71]++10::s))=_;rw[adP (by simp) (by decide) (by decide),adO (by simp) (by decide) (by decide)]
 simp only[yk,ks,M,U]
theorem adQ{tabs:Bool}{y q d:H}{b:UInt8}{F:ah}(a:fJ b=false/\b≠35/\b≠10/\o1 b=false)(Y:bo (b::y)=some (b::y))(aD:df (b::y)=some (d,q,[]))(c:q≠[])(e:d.contains 10=false)(f:d.head?≠some 9):gS tabs (b::y) F= .ok () q (F++[(d,tabs)]):=by
 obtain⟨w,p,g⟩:∃w p,aq (b::y)= .word w p:=by rw[x1,aO a.2.2.1,mU a.2.2.2,aO (by simp)];exact⟨_,_,rfl⟩
 unfold gS;rw[Y];simp only[g,aD];rw[aO (by rw[e];decide),aO (λh=>f h.2),aO (by simp),aO c]
theorem adR{D:ae Unit}{x y q d o:H}{tabs:Bool}{F:ah}(Y:bo x=some (o++y))(a:(o++y).dropWhile ch=o++y)(c:bs (o++y)=o)(b:o=[60,60]/\tabs=false\/o=[60,60,45]/\tabs=true)(aD:gS tabs y F= .ok () q (F++[(d,tabs)])):dz D x F= .ok true q (F++[(d,tabs)]):=by
 have e:fL x F= .ok (some o) y F:=by unfold fL;rw[Y];simp only[a,c];rw[bc (by rcases b with⟨rfl,_⟩|⟨rfl,_⟩<;>decide),oN]
 unfold dz;rw[aS e];simp only;rcases b with⟨rfl,rfl⟩|⟨rfl,rfl⟩
 ·rw[bc rfl,aS aD];rfl
 ·rw[aO (by decide),bc rfl,aS aD];rfl
theorem ar9(z:H):df (10::z)=some ([],10::z,[]):=by rw[wA,bc (Fq _)]
theorem ar_{lo:Option ea}{D:ae Unit}{z:H}:fG true lo D ([99,97,116]++([32,60,60,45,39,69,32,70,39]++([32,60,60,92,71]++10::z))) []= .ok () (10::z) yk:=by
 obtain⟨d,c⟩:=l2 (w:=[99,97,116]) (r:=[32,60,60,45,39,69,32,70,39]++([32,60,60,92,71]++10::z)) (by decide) (by decide) (by decide) rfl;have e:dz D ([32,60,60,92,71]++10::z) [([69,32,70],true)]= .ok true (10::z) yk:=by
  refine adR (o:=[60,60]) (y:=92::71::10::z) ?_ rfl ?_ (.inl ⟨rfl,rfl⟩) (adQ ⟨by decide,by decide,by decide,by decide⟩ ?_ ?_ (by simp) (by decide) (by decide))
  ·show bo (32::_)=_;rw[kx];exact jG (by decide) (by decide) (by decide)
  ·exact arx (by decide) (by decide)
  ·rw[nK];simp[fJ]
  ·rw[wA,aO (by simp[c1,fJ,mU (b:=92) (by decide)]),bc rfl];show Option.map _ (df (10::z))=_;rw[ar9];rfl
 have f:dz D ([32,60,60,45,39,69,32,70,39]++([32,60,60,92,71]++10::z)) []= .ok true ([32,60,60,92,71]++10::z) [([69,32,70],true)]:=by
  refine adR (o:=[60,60,45]) (y:=39::([69,32,70,39]++([32,60,60,92,71]++10::z))) ?_ rfl ?_ (.inr ⟨rfl,rfl⟩) (adQ ⟨by decide,by decide,by decide,by decide⟩ ?_ ?_ (by simp) (by decide) (by decide))
  ·show bo (32::_)=_;rw[kx];exact jG (by decide) (by decide) (by decide)
  ·simp[bs,kd,uF,List.isPrefixOf]
  ·exact jG (by decide) (by decide) (by decide)
  ·rw[wA,aO (by simp[c1,fJ,mU (b:=39) (by decide)]),aO (by decide),bc rfl];have:gw ([69,32,70,39]++([32,60,60,92,71]++10::z))=some ([32,60,60,92,71]++10::z):=rfl;rw[this];simp only;rw[show df ([32,60,60,92,71]++10::z)=some ([],[32,60,60,92,71]++10::z,[]) from(wA 32 _).trans (bc (rJ _))];simp
 have s1:bo ([32,60,60,45,39,69,32,70,39]++([32,60,60,92,71]++10::z))=some (60::60::45::39::([69,32,70,39]++([32,60,60,92,71]++10::z))):=by show bo (32::_)=_;rw[kx];exact jG (by decide) (by decide) (by decide)
 have a:=l1 _ _ _ (cF _) s1;have g:dz D (60::60::45::39::([69,32,70,39]++([32,60,60,92,71]++10::z))) []= .ok true ([32,60,60,92,71]++10::z) [([69,32,70],true)]:=by rw[<-f];unfold dz N fL;rw[s1,a]
 unfold fG;rw[aS (cu c),d,aO (by simp),aO (by decide)];simp only;rw[aO (by decide),aS (show dz D ([99,97,116]++([32,60,60,45,39,69,32,70,39]++([32,60,60,92,71]++10::z))) []= .ok false ([99,97,116]++([32,60,60,45,39,69,32,70,39]++([32,60,60,92,71]++10::z))) [] from S3 c (by decide) (by decide)),aO (by simp),aS (Br (by decide) rfl (by simp)),bc (by decide),aS (cu s1)];have h:aq (60::60::45::39::([69,32,70,39]++([32,60,60,92,71]++10::z)))= .op [60,60,45]:=by rw[mB (by simp)];simp[bs,kd,uF,List.isPrefixOf]
 rw[h,aO (by decide)];unfold g8;rw[cz,aS g,bc rfl];show(if _ then g8 true D ([32,60,60,92,71]++10::z) [([69,32,70],true)] else .bad _)=_;rw[bc (by simp only[j5,m3,w8];omega)];unfold g8;rw[cz,aS e,bc rfl];show(if _ then g8 true D (10::z) yk else .bad _)=_;rw[bc (by simp only[j5,m3,w8];omega)];exact(eg.nl z).simple D yk
theorem adS{t o:H}(b:gi 3 t)(m:o=[10]\/o=[92,10]):∀q,f_ true 30 (vC++(t++o))≠ .deep q:=by
 have v:w6 o=true:=by rcases m with rfl|rfl<;>decide
 have h0:dD false 0 o:=by have:=(dD.nil (j:=false)).const v;simpa using this
 obtain⟨k,K,y⟩:=(OG 3 (by omega)).ls b t [] (by simp) 0 o h0;have z:(60:UInt8)∉t++o:=by
  have M:=(Vv 3).2 t b;have A:(60:UInt8)∉o:=by rcases m with rfl|rfl<;>decide
  simp[M,A]
 obtain⟨E,d,B,C,D⟩:=y.nd nP (DL.of λx F=>absurd (F.subset (by simp)) z) (n:=30) (by omega);obtain⟨c,l,M,U,G⟩:=b.cc;obtain⟨⟨p,u,I,L,O⟩,P⟩:=M.aD.facts (cN l++o);rw[show c++(cN l++o)=t++o by rw[G];simp] at p u I;generalize t++o=s at*;have he:vC++s=[99,97,116]++([32,60,60,45,39,69,32,70,39]++([32,60,60,92,71]++10::(ts++s))):=by simp[vC,ts]
 obtain⟨a,e⟩:=l2 (w:=[99,97,116]) (r:=[32,60,60,45,39,69,32,70,39]++([32,60,60,92,71]++10::(ts++s))) (by decide) (by decide) (by decide) rfl;have f:=eg.nl (ts++s);have eK:g0 true 30 ([99,97,116]++([32,60,60,45,39,69,32,70,39]++([32,60,60,92,71]++10::(ts++s)))) []= .ok () (10::(ts++s)) yk:=
  (S1 e (by rw[a];decide) ar_ f.pH (by simp[aq]) (by simp[aq]) (by simp[aq])).2
 have g:c2 (10::(ts++s)) yk= .ok true s []:=by
  rw[rG,cz,ub f.pH];have:N jt (λ_=>a1 (.inl true)) (10::(ts++s)) yk=(.ok (.inl true) s []:dp (Bool⊕Bool)):=by unfold N;rw[s5,ar7];rfl
  rw[this];show(if s.length<(10::(ts++s)).length then b8 hX true s [] else .bad s)=_;rw[bc (by simp only[j5,m3];omega),cz,rH p u];rfl
 have h:f_ true 30 (vC++s)=b8 (dS (g0 true 30) .text true) 1 s []:=by
  rw[he];unfold f_;rw[s_,o0,aS (h3.2 (pw e (by rw[a];simp))),cz,C4 e (by rw[a];simp) (by rw[a];rfl),aS eK,aS (cu f.pH)];have:hU .text 0 (aq (10::(ts++s))) (10::(ts++s)) yk= .ok (.inl 1) s []:=by rw[show aq (10::(ts++s))= .line by simp[aq]];unfold hU;simp only;rw[aS g];rfl
  rw[this];show(if s.length<_ then b8 (dS (g0 true 30) .text true) 1 s [] else .bad _)=_;rw[bc (by simp only[j5,m3];omega)]
 rw[h];intro q J;have au:ia E s (b8 (dS (g0 true 30) .text true) 1 s []):=by refine ab.rep d (n:=30) (λi=>GI d (OB d 29) .text true i) 1 s [] ⟨by rw[B];exact fq,C,(D []).2 cU.nil⟩
 rw[J] at au;exact au
theorem asc{T:H}(h:Kb T):∀q,f_ true 30 (c8 T)≠ .deep q:=by
 have a:∀{x:H},x.getLast?=some 10->c8 x=x:=λh=>bc h
 have g:∀{x o:H},(o=[]\/o=tq)->∃e,(e=[]\/e=[10]\/e=[92,10])/\c8 (x++o)=x++e:=λ{x o} c=>by
  rcases c with rfl|rfl
  ·by_cases f:x.getLast?=some 10
   ·exact⟨[],.inl rfl,by rw[kj,a f]⟩
   ·exact⟨[10],.inr (.inl rfl),by rw[kj];exact aO f⟩
  ·exact⟨tq,.inr (.inr rfl),a (by simp[tq])⟩
 rcases h with h|⟨t,o,d,ay,c,⟨s,Y,rfl⟩|rfl|⟨i,C,B,P,m,hA,k,l,rfl⟩⟩
 ·by_cases f:T.getLast?=some 10
  ·rw[a f];have:=adM h (.inl rfl);simpa using this
  ·rw[show c8 T=T++[10] from aO f];exact adM h (.inr rfl)
 ·have he:c8 (uD++s++t++vD++o)=uD++s++t++vD++o:=by
   rcases c with rfl|rfl
   ·exact a (by simp[vD])
   ·exact a (by simp[tq])
  rw[he];rcases c with rfl|rfl
  ·exact adH (j:=false) d Y rfl
  ·exact adH (j:=true) d Y rfl
 ·have bu:=((GL 3).2 t d).2;rcases c with rfl|rfl
  ·have:c8 (vC++t++[])=vC++(t++[10]):=by rw[kj];unfold c8;rw[aO (by rw[List.getLast?_append];cases h:t.getLast? with|none=>exact absurd (List.getLast?_eq_none_iff.1 h) bu.1|some b=>have:=bu.2;rw[h] at this;simpa using this)];simp
   rw[this];exact adS d (.inl rfl)
  ·rw[a (by simp[tq]),ob];exact adS d (.inr rfl)
 ·obtain⟨e,M,U⟩:=g (x:=i++P++B) c;rw[U];have:=ar4 d hA k l M;simpa using this
theorem Kb.len{T:H}(h:Kb T):T.length<=470000:=by
 rcases h with h|⟨t,o,d,ay,a,h⟩
 ·have:=h.len;omega
 ·have M:o.length<=2:=by rcases a with rfl|rfl<;>decide
  rcases h with⟨s,Y,rfl⟩|rfl|⟨e,C,B,P,m,rfl,b,c,rfl⟩
  ·have:=(by decide:∀s∈tr,s.length<=4) s Y;simp only[m3,uD,vD,j5,w8];omega
  ·simp only[m3,vC,j5,w8];omega
  ·have U:=c.len;have f:m<=2/\B.length<=C.length:=by rcases b with⟨rfl,rfl⟩|⟨rfl,rfl⟩<;>simp
   simp only[m3] at*;omega
end Go.Eng
namespace Go.Eng
open Go Go.Proofs
theorem ase(I:H)(a:I.length<=1048576):∃T,IV I=some T/\T.length<=470000/\∀q,f_ true 30 (c8 T)≠ .deep q:=by obtain⟨T,M,U⟩:=arY I a;exact⟨T,M,U.len,asc U⟩
theorem count_le{fr:Bool}{n k:Nat}{u r:H}{F:ah}(h:f_ fr n u= .ok k r F):k<=u.length:=by
 unfold f_ at h;rw[s_,o0] at h;obtain⟨_,ad,d,M,U⟩:=bY h;have ay:=(ar.lines.sfx (h3.1 M)).length_le
 have a:∀(bw i:Nat)(r:H)(F:ah)(k:Nat)(r':H)(b:ah),r.length<=bw->b8 (dS (g0 fr n) .text true) i r F= .ok k r' b->k<=i+r.length:=by
  intro bw;induction bw with
  |zero=>intro i r F k r' b c h;have:=m4.1 (Nat.le_zero.1 c);subst this;rw[adg] at h;cases h;omega
  |succ bw e=>
   intro i r F k r' b c h;rw[cz] at h;cases hm:dS (g0 fr n) .text true i r F with
   |more _ _ _=>rw[hm] at h;cases h
   |bad _=>rw[hm] at h;cases h
   |deep _=>rw[hm] at h;cases h
   |ok x j l=>
    rw[hm] at h;have f:x= .inr i\/x= .inl (i+1)\/x= .inr (i+1):=by
     unfold dS at hm;obtain⟨t,m,p,_,hm⟩:=bY hm;split at hm
     ·split at hm<;>cases hm;exact .inl rfl
     ·split at hm
      ·cases hm;exact .inl rfl
      ·obtain⟨_,q,s,_,hm⟩:=bY hm;obtain⟨g,v,w,_,hm⟩:=bY hm;right;unfold hU at hm;cases g with
       |eof=>cases hm;exact .inl rfl
       |line=>obtain⟨_,_,_,_,hm⟩:=bY hm;cases hm;exact .inl rfl
       |word _ _=>cases hm
       |op o=>
        simp only at hm;split at hm
        ·obtain⟨_,_,_,_,hm⟩:=bY hm;obtain⟨_,_,_,_,hm⟩:=bY hm;cases hm;exact .inl rfl
        ·split at hm
         ·cases hm;exact .inr rfl
         ·cases hm
    rcases f with rfl|rfl|rfl
    ·cases h;omega
    ·unfold cR at h;simp only at h;split at h
     ·have:=e _ _ _ _ _ _ (by omega) h;omega
     ·cases h
    ·cases h;have:r.length≠0:=by intro h0;have:=m4.1 h0;subst this;rw[I5] at hm;simp at hm
     omega
 have:=a _ 0 ad d k r F (cF _) U;omega
theorem law_FnBoth(I:H):M_l_FnBoth I=some true:=by
 unfold M_l_FnBoth;by_cases j:(1048576:Int)<(I.length:Int)
 ·rw[decide_eq_true j];rfl
 rw[eE j,aW];obtain⟨T,M,U,o,c,z,p,s⟩:=arH I (by omega);obtain⟨d,t,v,x⟩:=ase I (by omega);have K:=Vr T;have Wk:=Vr d
 have both:∀{V:H},V.length<=470000->(∀q,f_ true 30 (c8 V)≠ .deep q)->CX V=some (j3 (f_ true 30 (c8 V)))/\Fm V=some (j3 (f_ true 30 (c8 V)))/\j3 (f_ false 30 (c8 V))=j3 (f_ true 30 (c8 V)):=λ{V} ay au=>by have he:=Vr V;obtain⟨s1,s2⟩:=arG (n:=30) (fr:=false) (m:=30) (by decide) au (by decide);refine⟨?_,arF (by omega),s1.j3 au⟩;rw[adj (by omega) s2];exact mC some (s1.j3 au)
 obtain⟨y,ak,a3⟩:=both U (o 30 (by decide));obtain⟨A,B,C⟩:=both v x;rw[M,aR rfl,t,aR rfl,y,aR rfl,A,aR rfl,ak,aR rfl,B,Ny [] (by decide),Ny T (by omega),Ny d (by omega)];rw[<-a3,<-C];generalize hA:f_ false 30 (c8 T)=X;generalize k:f_ false 30 (c8 d)=f;rw[decide_eq_true rfl,Zx (show(!true)=false from rfl),decide_eq_true rfl,Zx (show(bif !true then true else !true)=false from rfl)];rw[show c8 []=[10] from by decide,decide_eq_true rfl];simp only[hI,aW];by_cases av:j3 X<0\/j3 f<0
 ·have:(bif decide (j3 X<0) then true else decide (j3 f<0))=true:=by simpa using av
  rw[this];rfl
 have:(bif decide (j3 X<0) then true else decide (j3 f<0))=false:=by rw[xa] at av;rw[eE av.1,eE av.2];rfl
 rw[this,aW,aR rfl,aR rfl];cases X with
 |more _ _ _=>exact absurd (.inl (by show(-1:Int)<0;decide)) av
 |bad _=>exact absurd (.inl (by show(-1:Int)<0;decide)) av
 |deep _=>exact absurd (.inl (by show(-1:Int)<0;decide)) av
 |ok a r F=>
  cases f with
  |more _ _ _=>exact absurd (.inr (by show(-1:Int)<0;decide)) av
  |bad _=>exact absurd (.inr (by show(-1:Int)<0;decide)) av
  |deep _=>exact absurd (.inr (by show(-1:Int)<0;decide)) av
  |ok b L N=>
   obtain⟨g,h⟩:=adk T;obtain⟨Ji,D⟩:=adk d;have E:a≠0:=by rw[p] at hA;exact arJ s hA
   have e:=alz (u:=c8 T) (w:=c8 d) (.inr ⟨g,h⟩) hA E k;have i:c8 (c8 T++c8 d)=c8 T++c8 d:=by rw[D,<-ob];exact adl _
   have ay:(c8 T++c8 d).length<=1000000:=by rw[m3];omega
   have G:=count_le hA;have J:=count_le k;rw[b1 (arI (by omega)),adj (by rw[i];exact ay) (λq l=>by rw[i,e] at l;cases l),i,e,aR rfl];show some (decide (((b+a:Nat):Int)=W ((a:Int)+(b:Int))))=some true;rw[dJ (by omega) (by omega),decide_eq_true (by omega)]
end Go.Eng
