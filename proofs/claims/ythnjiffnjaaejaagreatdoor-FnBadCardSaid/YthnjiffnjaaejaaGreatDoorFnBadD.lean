/- Part 4 of what FnBad needs. No condition. -/
import Derived.Test.YthnjiffnjaaejaaGreatDoorFnBadC
set_option linter.all false
namespace Go.Eng
open Go Go.Proofs
theorem alu(l d:H)(t:Bool)(ax:(l.length:Int)<=1048576):∀(m:Nat)(k:Int),0<=k->k<=(l.length:Int)->(l.length:Int)-k<m->0<m->
  ∃r,fixF (yY l d t λ_=>some (-1)) m k=some r/\fixF (sL l d t λ_=>some (-1)) m k=some r:=by
 intro m;induction m with
 |zero=>omega
 |succ m F=>
  intro k aw g hm _;by_cases M:k<(l.length:Int)
  ·
   have s:=SU (l.drop k.toNat) 10;have G:=J6 (l.drop k.toNat) 10;have i:=aln 10 (l.drop k.toNat);simp only[DR] at s i;have Y:b1 l k (l.length:Int)=l.drop k.toNat:=MT aw;have c:∀(e a:Int),k<=e->e<=(l.length:Int)->k<a->a<=(l.length:Int)->
     (∀j,fixF (LY l j) bC k=j e)->(if e<(l.length:Int) then W (e+1) else e)=a->
     (∃r,fixF (yY l d t λ_=>some (-1)) (m+1) k=some r/\
      (bif decide ((if t then(b1 l k e).dropWhile (· ==9) else b1 l k e)=d) then some a else fixF (sL l d t λ_=>some (-1)) m a)=some r):=by
    intro e a h n I J u v;simp only[fixF,yY,a6,o8,M,cU];rw[u];have fin:∀k',k<=k'->k'<=e->b1 l k' e=(if t then(b1 l k e).dropWhile (· ==9) else b1 l k e)->
      ∃r,(if e<(l.length:Int) then a2 (0<=k'/\k'<=e/\e<=(l.length:Int)) (if b1 l k' e=d then some (W (e+1)) else fixF (yY l d t λ_=>some (-1)) m (W (e+1)))
       else a2 (0<=k'/\k'<=e/\e<=(l.length:Int)) (if b1 l k' e=d then some e else fixF (yY l d t λ_=>some (-1)) m e))=some r/\
      (if((if t then(b1 l k e).dropWhile (· ==9) else b1 l k e)=d) then some a else fixF (sL l d t λ_=>some (-1)) m a)=some r:=by
     intro k' w o x;have bt:0<=k'/\k'<=e/\e<=(l.length:Int):=⟨by omega,o,n⟩;simp only[a2,bt,cU,oa];grind
    cases t with
    |true=>
     obtain⟨k',w,o,x,K⟩:=alq l ax e n (λb=>if e<(l.length:Int) then a2 (0<=b/\b<=e/\e<=(l.length:Int)) (if b1 l b e=d then some (W (e+1)) else fixF (yY l d true λ_=>some (-1)) m (W (e+1)))
      else a2 (0<=b/\b<=e/\e<=(l.length:Int)) (if b1 l b e=d then some e else fixF (yY l d true λ_=>some (-1)) m e)) bC k aw h (by grind[gF]) (by simp[gF])
     grind
    |false=>rw[alr];grind
   have bg:∀(line:H)(a:Int),(line.length:Int)<=1048576->
     (bif t then au (B9 line [9]) λ(y:H)=>(if y=d then some a else fixF (sL l d t λ_=>some (-1)) m a) else(if line=d then some a else fixF (sL l d t λ_=>some (-1)) m a))=
     (bif decide ((if t then line.dropWhile (· ==9) else line)=d) then some a else fixF (sL l d t λ_=>some (-1)) m a):=by
    intro line a z;cases t with
    |true=>simp_all[aL,aP,Zj]
    |false=>simp
   have A:=λj=>alo l ax j bC k aw g (by grind[gF]) (by simp[gF]);generalize az:Lib.indexByte (l.drop k.toNat) 10=p at*;by_cases U:p<0
   ·obtain⟨r,ae,q⟩:=c (l.length:Int) (l.length:Int) g (sx _) M (sx _) (λj=>by grind) (by simp);refine⟨r,ae,?_⟩;simp only[fixF,sL,a6,o8,M,cU,a2,Ew,au,Y,az,aw,g,sx,oa];rw[aO (by omega)];rw[Y] at q;have:=bg (l.drop k.toNat) (l.length:Int) (by grind);grind[au]
   ·have L:=i (by omega);have B:W (k+p+1)=k+p+1:=dJ (by omega) (by omega);have C:W (k+p)=k+p:=dJ (by omega) (by omega);obtain⟨r,ae,q⟩:=c (k+p) (k+p+1) (by omega) (by omega) (by omega) (by omega) (λj=>by grind) (by omega);refine⟨r,ae,?_⟩;simp only[fixF,sL,a6,o8,M,cU,a2,Ew,au,Y,az,aw,g,sx,oa];have e1:0<=p:=by omega
    have D:(0:Int)<=0/\0<=p/\p<=((l.drop k.toNat).length:Int):=⟨by omega,by omega,by grind⟩;rw[C,B];simp only[e1,cU,true_and,show p<=((l.drop k.toNat).length:Int) from D.2.2];have E:b1 (l.drop k.toNat) 0 p=b1 l k (k+p):=by unfold b1;simp only[J5,yg,Nat.sub_zero];congr 1;omega
    rw[E];have f:((b1 l k (k+p)).length:Int)<=1048576:=by grind[b1]
    have:=bg (b1 l k (k+p)) (k+p+1) f;grind[au]
  ·simp only[fixF,yY,sL,o8,M,cH];simp
def dl:H->UInt8->Option H
 |[],q=>if q=0 then some [] else none
 |b::r,q=>
  if q=39 then(if b=39 then dl r 0 else(dl r 39).map (b::·))
  else if b=92 then
   match r with
   |[]=>none
   |n::r'=>if n=10 then dl r' q else if q=0\/n=36\/n=34\/n=92\/n=96 then(dl r' q).map (n::·) else(dl (n::r') q).map (b::·)
  else if b=36\/b=96 then none
  else if b=34 then(if q=0 then dl r 34 else dl r 0)
  else if b=39/\q=0 then dl r 39
  else(dl r q).map (b::·)
termination_by l _=>l.length
decreasing_by all_goals grind
def oE(j:H->Option (H×Bool))(o:H)(m:Option H):Option (H×Bool):=match m with
 |some s=>j (o++s)
 |none=>some ([],false)
theorem px(j:H->Option (H×Bool))(o:H)(b:UInt8)(m:Option H):oE j o (m.map (b::·))=oE j (o++[b]) m:=by
 cases m with
 |none=>rfl
 |some s=>simp[oE]
theorem tX(j:H->Option (H×Bool))(o:H):oE j o none=some ([],false):=rfl
theorem alw(l:H)(ax:(l.length:Int)<=200000000)(j:H×UInt8->Option (H×Bool))(A:∀o q,q≠0->j (o,q)=some ([],false)):
  ∀(m:Nat)(o:H)(q:UInt8)(k:Int),0<=k->k<=(l.length:Int)->(o.length:Int)<=k->(l.length:Int)-k<m->0<m->(q=0\/q=34\/q=39)->
  fixF (E_ l j) m (o,q,k)=oE (λo=>j (o,0)) o (dl (l.drop k.toNat) q):=by
 intro m;induction m with
 |zero=>omega
 |succ m t=>
  intro o q k aw G I hm _ e;by_cases M:k<(l.length:Int)
  ·have i:∀f a,(f.length:Int)<=k+1->(a=0\/a=34\/a=39)->fixF (E_ l j) m (f,a,k+1)=oE (λo=>j (o,0)) f (dl (l.drop (k+1).toNat) a):=λf a U s=>t f a (k+1) (by omega) (by omega) U (by omega) (by omega) s
   have B:k+1<(l.length:Int)->∀f a,(f.length:Int)<=k+1->(a=0\/a=34\/a=39)->fixF (E_ l j) m (f,a,k+2)=oE (λo=>j (o,0)) f (dl (l.drop (k+2).toNat) a):=λh0 f a U s=>t f a (k+2) (by omega) (by omega) (by omega) (by omega) (by omega) s
   have C:W (k+1)=k+1:=dJ (by omega) (by omega);have D:W (k+1+1)=k+2:=by grind[dJ]
   have bt:∀b:UInt8,o.length+([b]:H).length<=536870912:=by grind
   have g:∀b:UInt8,((o++[b]).length:Int)<=k+1:=by grind
   simp only[fixF,E_,a2,a6,o8,C,D,M,aw,cU,oa,bt,nb _ 39 39 rfl,nb _ 92 92 rfl,nb _ 10 10 rfl,nb _ 36 36 rfl,nb _ 34 34 rfl,nb _ 96 96 rfl,nb _ 0 0 rfl];rw[wC aw M];generalize at' l k=b at*;by_cases U:k+1=(l.length:Int)
   ·have eF:l.drop (k+1).toNat=[]:=w2 (by omega);rw[eF] at i⊢;simp only[U,bA,hE,aU];rw[dl];have c:=λ(b:UInt8)(a:UInt8)(h:a=0\/a=34\/a=39)=>i (o++[b]) a (g b) h;have d:=λ(a:UInt8)(h:a=0\/a=34\/a=39)=>i o a (by omega) h;rw[U] at c d;by_cases rP:b=39
    ·subst rP;rcases e with rfl|rfl|rfl<;>simp[c,d,px]
    by_cases nc:b=92
    ·subst nc;rcases e with rfl|rfl|rfl<;>simp[c,d,px,tX]
    by_cases qW:b=36
    ·subst qW;rcases e with rfl|rfl|rfl<;>simp[c,d,px,tX]
    by_cases oF:b=96
    ·subst oF;rcases e with rfl|rfl|rfl<;>simp[c,d,px,tX]
    by_cases oG:b=34
    ·subst oG;rcases e with rfl|rfl|rfl<;>simp[c,d,px,tX]
    rcases e with rfl|rfl|rfl<;>simp[c,d,px,rP,nc,qW,oF,oG]
   ·have s:k+1<(l.length:Int):=by omega
    have eF:l.drop (k+1).toNat=at' l (k+1)::l.drop (k+2).toNat:=by grind[wC]
    have u:=B s;rw[eF] at i⊢;generalize at' l (k+1)=n at*;have E:¬(k+1=(l.length:Int)):=U;have F:0<=k+1/\k+1<(l.length:Int):=by omega
    simp only[E,F,bH,fp,aL,cU,oa];rw[dl];have c:=λ(b:UInt8)(a:UInt8)(h:a=0\/a=34\/a=39)=>i (o++[b]) a (g b) h;have d:=λ(a:UInt8)(h:a=0\/a=34\/a=39)=>i o a (by omega) h;have p:=λ(b:UInt8)(a:UInt8)(h:a=0\/a=34\/a=39)=>u (o++[b]) a (g b) h;have r:=λ(a:UInt8)(h:a=0\/a=34\/a=39)=>u o a (by omega) h;by_cases rP:b=39
    ·subst rP;rcases e with rfl|rfl|rfl<;>simp[c,d,px]
    by_cases nc:b=92
    ·subst nc;by_cases v:n=10
     ·subst v;rcases e with rfl|rfl|rfl<;>simp[c,d,p,r,px]
     by_cases w:n=36
     ·subst w;rcases e with rfl|rfl|rfl<;>simp[c,d,p,r,px]
     by_cases x:n=34
     ·subst x;rcases e with rfl|rfl|rfl<;>simp[c,d,p,r,px]
     by_cases y:n=92
     ·subst y;rcases e with rfl|rfl|rfl<;>simp[c,d,p,r,px]
     by_cases z:n=96
     ·subst z;rcases e with rfl|rfl|rfl<;>simp[c,d,p,r,px]
     rcases e with rfl|rfl|rfl<;>simp[c,d,p,r,px,v,w,x,y,z]
    by_cases qW:b=36
    ·subst qW;rcases e with rfl|rfl|rfl<;>simp[c,d,px,tX]
    by_cases oF:b=96
    ·subst oF;rcases e with rfl|rfl|rfl<;>simp[c,d,px,tX]
    by_cases oG:b=34
    ·subst oG;rcases e with rfl|rfl|rfl<;>simp[c,d,px,tX]
    rcases e with rfl|rfl|rfl<;>simp[c,d,px,rP,nc,qW,oF,oG]
  ·simp only[fixF,E_,a2,a6,o8,M,cH];rw[w2 (by omega)];simp only[dl];by_cases U:q=0
   ·grind[oE]
   ·rw[A _ _ U,aO U];rfl
theorem alx(l:H):dl l 39=if Lib.indexByte l 39<0 then none else(dl (l.drop (Lib.indexByte l 39+1).toNat) 0).map ((l.take (Lib.indexByte l 39).toNat)++·):=by
 induction l with
 |nil=>simp[dl,Lib.indexByte]
 |cons b l a=>
  rw[dl.eq_def,Lib.indexByte];by_cases h:b=39
  ·simp_all
  ·have c:(b==39)=false:=by grind
   have g:=J6 l 39;simp only[cU,h,cH,c,fo];rw[a];generalize Lib.indexByte l 39=p at*;by_cases i:p= -1
   ·grind
   ·have d:(p== -1)=false:=by grind
    simp only[d,fo,cH];rw[aO (by omega),aO (by omega)];have e:(p+1+1).toNat=(p+1).toNat+1:=by omega
    have f:(p+1).toNat=p.toNat+1:=by omega
    rw[e,f,GJ,OJ,Option.map_map];rfl
theorem aly(l:H)(ax:(l.length:Int)<=1048576)(j:Unit->Option (H×Int))(D:j ()=some ([], -1)):
  ∀(m:Nat)(o:H)(k:Int),0<=k->k<=(l.length:Int)->(o.length:Int)<=k->(l.length:Int)-k<m->0<m->
  (fixF (tK l j) m (o,k)=some ([], -1)/\dl (l.drop k.toNat) 34=none)\/
  ∃(s:H)(k':Int),fixF (tK l j) m (o,k)=some (o++s,k')/\k<k'/\k'<=(l.length:Int)/\((o++s).length:Int)<=k'/\dl (l.drop k.toNat) 34=(dl (l.drop k'.toNat) 0).map (s++·):=by
 intro m;induction m with
 |zero=>omega
 |succ m w=>
  intro o k aw E F hm _;by_cases M:k<(l.length:Int)
  ·have x:W (k+1)=k+1:=dJ (by omega) (by omega);have y:W (k+1+1)=k+2:=by grind[dJ]
   have bt:∀b:UInt8,o.length+([b]:H).length<=536870912:=by grind
   have e:∀b c:UInt8,o.length+([b,c]:H).length<=536870912:=by grind
   simp only[fixF,tK,a2,a6,o8,x,y,M,aw,cU,oa,bt,e,nb _ 39 39 rfl,nb _ 92 92 rfl,nb _ 10 10 rfl,nb _ 36 36 rfl,nb _ 34 34 rfl,nb _ 96 96 rfl];rw[wC aw M];have f:∀(t:H),(t.length:Int)<=1->dl (at' l k::l.drop (k+1).toNat) 34=(dl (l.drop (k+1).toNat) 34).map (t++·)->
     (fixF (tK l j) m (o++t,k+1)=some ([], -1)/\dl (at' l k::l.drop (k+1).toNat) 34=none)\/
     ∃(s:H)(k':Int),fixF (tK l j) m (o++t,k+1)=some (o++s,k')/\k<k'/\k'<=(l.length:Int)/\((o++s).length:Int)<=k'/\dl (at' l k::l.drop (k+1).toNat) 34=(dl (l.drop k'.toNat) 0).map (s++·):=by
    intro t z he;rcases w (o++t) (k+1) (by omega) (by omega) (by grind) (by omega) (by omega) with⟨ae,g⟩|⟨s,k',ae,g,h,A,i⟩
    ·grind
    ·refine .inr ⟨t++s,k',by grind,by omega,h,by grind,?_⟩;rw[he,i,Option.map_map];congr 1;grind
   have a:∀(t:H),k+1<(l.length:Int)->(t.length:Int)<=2->dl (at' l k::l.drop (k+1).toNat) 34=(dl (l.drop (k+2).toNat) 34).map (t++·)->
     (fixF (tK l j) m (o++t,k+2)=some ([], -1)/\dl (at' l k::l.drop (k+1).toNat) 34=none)\/
     ∃(s:H)(k':Int),fixF (tK l j) m (o++t,k+2)=some (o++s,k')/\k<k'/\k'<=(l.length:Int)/\((o++s).length:Int)<=k'/\dl (at' l k::l.drop (k+1).toNat) 34=(dl (l.drop k'.toNat) 0).map (s++·):=by
    intro t h0 z he;rcases w (o++t) (k+2) (by omega) (by omega) (by grind) (by omega) (by omega) with⟨ae,g⟩|⟨s,k',ae,g,h,A,i⟩
    ·grind
    ·refine .inr ⟨t++s,k',by grind,by omega,h,by grind,?_⟩;rw[he,i,Option.map_map];congr 1;grind
   by_cases U:k+1=(l.length:Int)
   ·have eF:l.drop (k+1).toNat=[]:=w2 (by omega);rw[eF] at f⊢;generalize at' l k=b at*;by_cases oG:b=34
    ·subst oG;grind[dl]
    by_cases nc:b=92
    ·grind[dl]
    by_cases qW:b=36
    ·grind[dl]
    by_cases oF:b=96
    ·grind[dl]
    grind[dl]
   ·have d:k+1<(l.length:Int):=by omega
    have eF:l.drop (k+1).toNat=at' l (k+1)::l.drop (k+2).toNat:=by grind[wC]
    rw[eF] at f a⊢;generalize at' l (k+1)=n at*;generalize at' l k=b at*;have B:¬(k+1=(l.length:Int)):=U;have C:0<=k+1/\k+1<(l.length:Int):=by omega
    simp only[B,C,cH,cU,oa];by_cases oG:b=34
    ·subst oG;refine .inr ⟨[],k+1,by simp,by omega,by omega,by grind,?_⟩;simp_all[dl]
    by_cases nc:b=92
    ·subst nc;by_cases p:n=10
     ·subst p;grind[dl]
     by_cases q:n=36
     ·subst q;simpa using a [36] d (by simp) (by simp[dl])
     by_cases r:n=34
     ·subst r;simpa using a [34] d (by simp) (by simp[dl])
     by_cases u:n=92
     ·subst u;simpa using a [92] d (by simp) (by simp[dl])
     by_cases v:n=96
     ·subst v;simpa using a [96] d (by simp) (by simp[dl])
     have:=a [92,n] d (by simp) (by rw[dl];simp[p,q,r,u,v];rw[dl.eq_def];simp[p,q,r,u,v];rfl);grind
    by_cases qW:b=36
    ·grind[dl]
    by_cases oF:b=96
    ·grind[dl]
    have:=f [b] (by simp) (by simp_all[dl]);grind
  ·simp only[fixF,tK,a2,a6,o8,M,cH];grind[List.drop_eq_nil_of_le,dl]
theorem alA(l:H)(ax:(l.length:Int)<=1048576)(a:Int)(h0:0<=a)(M:a<=(l.length:Int)):
  xt l a=some (if Lib.indexByte (l.drop a.toNat) 39<0 then-1 else a+Lib.indexByte (l.drop a.toNat) 39+1):=by
 have b:=SU (l.drop a.toNat) 39;have c:=J6 (l.drop a.toNat) 39;simp only[DR] at b;unfold xt yL Ew;have e:max (0:Int) (min a (l.length:Int))=a:=by omega
 simp only[au,a2,e];rw[bh ⟨h0,M,sx _⟩,MT h0];generalize Lib.indexByte (l.drop a.toNat) 39=p at*;simp only[o8];grind[dJ]
theorem Zl(j:H->Option (H×Bool))(o s:H)(m:Option H):oE j o (m.map (s++·))=oE j (o++s) m:=by
 cases m with
 |none=>rfl
 |some t=>simp[oE]
theorem alB(l:H)(ax:(l.length:Int)<=1048576)(j:H->Option (H×Bool)):
  ∀(m:Nat)(o:H)(k:Int),0<=k->k<=(l.length:Int)->(o.length:Int)<=k->(l.length:Int)-k<m->0<m->
  fixF (ET l j) m (o,k)=oE j o (dl (l.drop k.toNat) 0):=by
 intro m;induction m with
 |zero=>omega
 |succ m d=>
  intro o k aw z A hm _;by_cases M:k<(l.length:Int)
  ·have f:W (k+1)=k+1:=dJ (by omega) (by omega);have g:W (k+2)=k+2:=dJ (by omega) (by omega)
   have bt:∀b:UInt8,o.length+([b]:H).length<=536870912:=by grind
   have h:=alA l ax (k+1) (by omega) (by omega);simp only[fixF,ET,a2,a6,o8,f,g,M,aw,cU,oa,bt,nb _ 39 39 rfl,nb _ 92 92 rfl,nb _ 10 10 rfl,nb _ 36 36 rfl,nb _ 34 34 rfl,nb _ 96 96 rfl];rw[aP h,wC aw M]
   have e:∀a,(a.length:Int)<=k+1->fixF (ET l j) m (a,k+1)=oE j a (dl (l.drop (k+1).toNat) 0):=λa U=>d a (k+1) (by omega) (by omega) U (by omega) (by omega)
   have c:∀b:UInt8,((o++[b]).length:Int)<=k+1:=by grind
   by_cases rP:at' l k=39
   ·rw[rP];simp only[show¬((39:UInt8)=92) by decide,cH,cU];have aD:dl (39::l.drop (k+1).toNat) 0=dl (l.drop (k+1).toNat) 39:=by grind[dl.eq_def]
    rw[aD,alx];have i:=SU (l.drop (k+1).toNat) 39;have B:=J6 (l.drop (k+1).toNat) 39;simp only[DR] at i;generalize az:Lib.indexByte (l.drop (k+1).toNat) 39=p at*;have q:0<=p->k+1+p<(l.length:Int):=by
     intro h0
     have:∀(l:H),0<=Lib.indexByte l 39->Lib.indexByte l 39<l.length:=by
      intro l;induction l with
      |nil=>decide
      |cons b l d=>unfold Lib.indexByte;grind
     grind
    by_cases av:p<0
    ·simp_all[cU,tX]
    ·simp only[av,cH];have:=q (by omega);rw[aO (by omega),dJ (x:=k+1+p+1-1) (by omega) (by omega)];have r:k+1+p+1-1=k+1+p:=by omega
     rw[r,bh ⟨by omega,by omega,by omega⟩];have t:b1 l (k+1) (k+1+p)=(l.drop (k+1).toNat).take p.toNat:=by grind[b1]
     have C:((b1 l (k+1) (k+1+p)).length:Int)<=p:=by grind
     rw[bh (by omega),t,Zl,List.drop_drop];grind
   ·by_cases oG:at' l k=34
    ·rw[oG];simp only[show¬((34:UInt8)=92) by decide,show¬((34:UInt8)=39) by decide,cH,cU];have aD:dl (34::l.drop (k+1).toNat) 0=dl (l.drop (k+1).toNat) 34:=by grind[dl.eq_def]
     rw[aD];have u:ER l (k+1) o=fixF (tK l λ_=>some ([], -1)) bC (o,k+1):=rfl;rcases aly l ax (λ_=>some ([], -1)) rfl bC o (k+1) (by omega) (by omega) (by omega) (by grind[gF]) (by simp[gF]) with⟨ae,v⟩|⟨s,k',ae,v,D,E,w⟩
     ·grind[aP,tX]
     ·rw[aP (u.trans ae),w,Zl];grind
    ·simp only[rP,oG,cH];by_cases U:k+1=(l.length:Int)
     ·have eF:l.drop (k+1).toNat=[]:=w2 (by omega);rw[eF] at e⊢;generalize at' l k=b at*;by_cases nc:b=92
      ·grind[dl,tX]
      by_cases qW:b=36
      ·grind[dl,tX]
      by_cases oF:b=96
      ·grind[dl,tX]
      simp only[nc,qW,oF,cH,bH,aU,fo];rw[e _ (c b),show [b]=b::([]:H) from rfl];grind[dl.eq_def,px]
     ·have F:k+1<(l.length:Int):=by omega
      have eF:l.drop (k+1).toNat=at' l (k+1)::l.drop (k+2).toNat:=by grind[wC]
      have G:∀a,(a.length:Int)<=k+2->fixF (ET l j) m (a,k+2)=oE j a (dl (l.drop (k+2).toNat) 0):=λa U=>d a (k+2) (by omega) (by omega) U (by omega) (by omega)
      have y:0<=k+1/\k+1<(l.length:Int):=by omega
      rw[eF] at e⊢;generalize at' l (k+1)=n at*;generalize at' l k=b at*;simp only[U,y,cH,cU,oa];grind[dl,dl.eq_def,px,tX]
  ·simp only[fixF,ET,a2,a6,o8,M,cH];grind[List.drop_eq_nil_of_le,dl,oE]
theorem Zm:∀(n:Nat)(l:H),l.length<=n->∀(q:UInt8)(s:H),dl l q=some s->s.length<=l.length:=by
 intro n;induction n with
 |zero=>simp[nQ,dl,fc]
 |succ n g=>
  intro l av q s h
  match l with
  |[]=>grind
  |b::r=>
   simp only[nn] at av⊢
   have a:∀(d:UInt8),dl r d=some s->s.length<=r.length+1:=λd f=>by grind
   have e:∀(d c:UInt8),(dl r d).map (c::·)=some s->s.length<=r.length+1:=by
    intro d c f;cases aD:dl r d with
    |none=>grind
    |some t=>grind
   rw[dl.eq_def] at h;simp only at h;split at h
   ·grind
   ·split at h
    ·match r,a,e,h with
     |[],_,_,h=>cases h
     |x::r',a,e,h=>
      simp only at h;simp only[nn] at av a e⊢;split at h
      ·grind
      ·split at h
       ·cases aD:dl r' q with
        |none=>grind
        |some t=>grind
       grind
    grind
theorem alC(l:H)(ax:(l.length:Int)<=200000000):∀(m:Nat)(k:Int),0<=k->k<=(l.length:Int)->(l.length:Int)-k<m->0<m->
  fixF (RR l λ_=>some (l,true)) m k=if 0<=Lib.indexByte (l.drop k.toNat) 10 then some ([],false) else some (l,true):=by
 intro m;induction m with
 |zero=>omega
 |succ m a=>
  intro k aw b hm _;simp only[fixF,RR,a2,o8];by_cases M:k<(l.length:Int)
  ·simp only[M,aw,cU,oa,nb _ 10 10 rfl];rw[dJ (by omega) (by omega),wC aw M,Lib.indexByte];grind
  ·simp only[M,cH];simp_all[w2,Lib.indexByte]
theorem alD(l:H)(ax:(l.length:Int)<=200000000):Ib l=oE (λs=>if 0<=Lib.indexByte s 10 then some ([],false) else some (s,true)) [] (dl l 0):=by
 unfold Ib;simp only[a6];rw[alw l ax _ (by intro o q a;simp only[nb _ 0 0 rfl,a,bH,fp,aL]) bC [] 0 0 (by omega) (by omega) (by simp) (by grind[gF]) (by simp[gF]) (.inl rfl)];simp only[J5,yg];cases aD:dl l 0 with
 |none=>rfl
 |some s=>
  have Y:=Zm _ l (cS _) 0 s aD;simp only[oE,re];have:(!decide (((0:UInt8).toNat:Int)=0))=false:=by decide
  simp only[this,aU];grind[alC,bC,gF]
theorem alE(l:H)(ax:(l.length:Int)<=1048576):yS l=oE (λs=>if 0<=Lib.indexByte s 10 then some ([],false) else some (s,true)) [] (dl l 0):=by
 unfold yS;simp only[a6];rw[alB l ax _ bC [] 0 (by omega) (by omega) (by simp) (by grind[gF]) (by simp[gF])];simp only[J5,yg];cases aD:dl l 0 with
 |none=>rfl
 |some s=>simp[oE,re,Q8,au,o8]
def ar(S r:H):Int:=(S.length:Int)-r.length
theorem eY{r S:H}(h:r<:+S):r.length<=S.length:=h.length_le
theorem dS{b:UInt8}{t S:H}(h:b::t<:+S):t<:+S:=(dN b t).trans h
theorem jA{b:UInt8}{t S:H}(h:b::t<:+S):at' S (ar S (b::t))=b:=by obtain⟨u,rfl⟩:=h;simp[ar,at']
theorem iQ{b:UInt8}{t S:H}(dt:S.length<=1000000)(h:b::t<:+S):W (ar S (b::t)+1)=ar S t:=by grind[eY,List.length_cons,dJ,ar]
theorem kK{w t S:H}(dt:S.length<=1000000)(h:w++t<:+S):W (ar S (w++t)+w.length)=ar S t:=by grind[eY,List.length_append,dJ,ar]
theorem g5{b:UInt8}{t S:H}(h:b::t<:+S):0<=ar S (b::t)/\ar S (b::t)<S.length:=by grind[eY,List.length_cons,ar]
theorem nO{b:UInt8}{t S:H}(h:b::t<:+S):ar S (b::t)<S.length:=(g5 h).2
theorem iv(S:H):ar S []=S.length:=by rfl
theorem I1(S:H):ar S S=0:=by simp[ar]
theorem pz{r S:H}:ar S r<=S.length:=by grind[ar]
theorem zl{r S:H}:ar S r=S.length↔r=[]:=by
 unfold ar;constructor
 ·grind[List.length_eq_zero_iff]
 grind
theorem rQ{b c:UInt8}:((b.toNat:Int)=(c.toNat:Int))↔b=c:=by
 constructor
 ·grind[UInt8.toNat_inj]
 grind
theorem I2(b:UInt8):((b.toNat:Int)=9)↔b=9:=rQ (c:=9)
theorem p_(b:UInt8):((b.toNat:Int)=10)↔b=10:=rQ (c:=10)
theorem SZ(b:UInt8):((b.toNat:Int)=32)↔b=32:=rQ (c:=32)
theorem oG(b:UInt8):((b.toNat:Int)=34)↔b=34:=rQ (c:=34)
theorem Zn(b:UInt8):((b.toNat:Int)=35)↔b=35:=rQ (c:=35)
theorem qW(b:UInt8):((b.toNat:Int)=36)↔b=36:=rQ (c:=36)
theorem rP(b:UInt8):((b.toNat:Int)=39)↔b=39:=rQ (c:=39)
theorem AY(b:UInt8):((b.toNat:Int)=40)↔b=40:=rQ (c:=40)
theorem FH(b:UInt8):((b.toNat:Int)=41)↔b=41:=rQ (c:=41)
theorem nc(b:UInt8):((b.toNat:Int)=92)↔b=92:=rQ (c:=92)
theorem oF(b:UInt8):((b.toNat:Int)=96)↔b=96:=rQ (c:=96)
theorem AZ(b:UInt8):((b.toNat:Int)=123)↔b=123:=rQ (c:=123)
theorem bX{α:Type}{c:Prop}[Decidable c]{k:Option α}(h:c):a2 c k=k:=bh h
structure cI where
 S:H
 ne:Int
 op:bw
 kr:Int
def cI.st(e:cI)(r:H)(F:ai):ag:=(e.S,ar e.S r,F,e.ne,e.op,e.kr)
structure dZ(e:cI)(r:H)(F:ai):Prop where
 b3:e.S.length<=1000000
 sfx:r<:+e.S
 kb:F.length+r.length<=e.S.length
 ops:e.op.length+r.length<=e.S.length+1
theorem dZ.mono{e:cI}{r r':H}{F:ai}(h:dZ e r F)(M:r'<:+r):dZ e r' F:=
 ⟨h.b3,M.trans h.sfx,by have:=h.kb;grind,by have:=h.ops;grind⟩
def a1{α β:Type}(e:cI)(r0:H)(m:dD α)(cv:α->H->ai->β)(y:Option (bo ag β)):Prop:=match m with
 | .ok a r F=>r<:+r0/\dZ e r F/\y=some (.inr (cv a r F))
 | .more op _ _=>∃st:ag,y=some (.inl (1,e.S.length,st))/\st.2.2.2.2.1=e.op++op
 | .bad r=>r<:+e.S/\∃st:ag,y=some (.inl (2,ar e.S r,st))
 | .deep _=>∃(p:Int)(st:ag),y=some (.inl (2,p,st))/\p<e.S.length
theorem a1.mono{α β:Type}{e:cI}{r0 ae:H}{m:dD α}{cv:α->H->ai->β}{y:Option (bo ag β)}(h:a1 e r0 m cv y)(M:r0<:+ae):a1 e ae m cv y:=by
 cases m with
 |ok a r F=>exact⟨h.1.trans M,h.2⟩
 |_=>exact h
structure db{α β:Type}(C:dD α->dD β):Prop where
 more:∀op nd ds,C (.more op nd ds)= .more op nd ds
 bad:∀r,C (.bad r)= .bad r
 deep:∀r,C (.deep r)= .deep r
theorem db.id{α:Type}:db (λx:dD α=>x):=⟨λ_ _ _=>rfl,λ_=>rfl,λ_=>rfl⟩
theorem db.k{σ α:Type}{f:σ->ad (σ⊕α)}{r:H}:db (cX f r):=⟨λ_ _ _=>rfl,λ_=>rfl,λ_=>rfl⟩
theorem a1.iZ{α d g β i:Type}{C:dD d->dD g}(c:db C){e:cI}{r0 r:H}{F:ai}{m:ad α}{k:α->ad d}{cv:α->H->ai->β}{cv':g->H->ai->i}{y:Option (bo ag β)}{k':β->Option (bo ag i)}{f:ag->ag}
  (h:a1 e r0 (m r F) cv y) (hf:∀st,(f st).2.2.2.2.1=st.2.2.2.2.1) (aw:∀a ae b,m r F= .ok a ae b->ae<:+r0->dZ e ae b->a1 e r0 (C (k a ae b)) cv' (k' (cv a ae b))):
  a1 e r0 (C (Go.Eng.N m k r F)) cv' (a_ y f k'):=by
 unfold Go.Eng.N;cases hm:m r F with
 |ok a ae b=>rw[hm] at h;obtain⟨M,U,rfl⟩:=h;exact aw a ae b hm M U
 |more op nd ds=>rw[hm] at h;obtain⟨st,rfl,U⟩:=h;rw[c.more];exact⟨f st,rfl,by grind⟩
 |bad q=>rw[hm] at h;obtain⟨M,st,rfl⟩:=h;rw[c.bad];exact⟨M,f st,rfl⟩
 |deep q=>rw[hm] at h;obtain⟨p,st,rfl,j⟩:=h;rw[c.deep];exact⟨p,f st,rfl,j⟩
theorem a1.Zo{α a β:Type}{C:dD α->dD a}(b:db C){e:cI}{r0 r:H}{F:ai}{cv:a->H->ai->β}{x:H}{st:ag}{f:ag->ag}{k:Empty->Option (bo ag β)}(M:st.1=e.S)(U:(f st).2.2.2.2.1=e.op):a1 e r0 (C ((cb x:ad α) r F)) cv (a_ (sK st) f k):=by unfold cb;rw[b.more];exact⟨f st,by grind[sK,a_],by grind⟩
theorem a1.inl{σ α β:Type}{e:cI}{f:σ->ad (σ⊕α)}{r0 r r':H}{a:ai}{s':σ}{cv:α->H->ai->β}{y:Option (bo ag β)}(ax:r'.length<r.length)(h:a1 e r0 (ck f s' r' a) cv y):a1 e r0 (cX f r (aZ (.inl s') r' a)) cv y:=by simp_all[aZ,cX,bh]
theorem a1.inr{σ α β:Type}{e:cI}{f:σ->ad (σ⊕α)}{r0 r r':H}{b:ai}{a:α}{cv:α->H->ai->β}{y:Option (bo ag β)}(M:r'<:+r0)(U:dZ e r' b)(h:y=some (.inr (cv a r' b))):a1 e r0 (cX f r (aZ (.inr a) r' b)) cv y:=⟨M,U,h⟩
theorem a1.rep{σ α τ β:Type}{e:cI}{f:σ->ad (σ⊕α)}{cv:α->H->ai->β}{en:σ->H->ai->τ}{body:(τ->Option (bo ag β))->τ->Option (bo ag β)}
  (b:∀(k:τ->Option (bo ag β))(s:σ)(r:H)(F:ai),dZ e r F->(∀s' r' a,r'<:+r->dZ e r' a->r'.length<r.length->a1 e r (ck f s' r' a) cv (k (en s' r' a)))->a1 e r (cX f r (f s r F)) cv (body k (en s r F))):
  ∀(n:Nat)(s:σ)(r:H)(F:ai),r.length<n->dZ e r F->a1 e r (ck f s r F) cv (fixF body n (en s r F)):=by
 intro n;induction n with
 |zero=>omega
 |succ n c=>grind[cK,a1,fixF,a1.mono]
theorem mj{n:Nat}(h:n<=1000000):n<bC:=by grind[gF]
theorem fm{σ α:Type}{f:(σ->Option α)->σ->Option α}{n:Nat}{s:σ}:fixF f (n+1) s=f (fixF f n) s:=rfl
theorem alF{e:cI}(I:ag)(a:I.1=e.S){j:Int->Option (bo ag ag)}(dt:e.S.length<=1000000):∀(n:Nat)(r:H),r.length<n->r<:+e.S->fixF (K5 I j) n (ar e.S r)=j (ar e.S (lV r)):=by
 intro n;induction n with
 |zero=>omega
 |succ n c=>
  intro r av Z;rw[fm];generalize fixF (K5 I j) n=k at c;unfold K5;rw[a];cases r with
  |nil=>simp[iv,a2,lV]
  |cons b t=>
   rw[bX (λ_=>g5 Z),jA Z,iQ dt Z];simp only[nO Z,bA,aL,p_];unfold lV;by_cases d:b=10
   ·grind
   ·simp only[d,bH,fp,aL,cH];grind[List.length_cons,dS]
def I3(e:cI)(r:H)(F:ai)(y:Option (bo ag ag)):Prop:=match bn r with
 |some r'=>y=some (.inr (e.st r' F))
 |none=>∃st:ag,y=some (.inl (1,e.S.length,st))/\st.2.2.2.2.1=e.op
theorem S0{c:UInt8}{u:H}(ay:c≠10):bn (92::c::u)=some (92::c::u):=by rw[nK,aO (by decide),aO (by decide),bh rfl];grind
theorem S1{u:H}:bn (92::10::u)=if u=[] then none else bn u:=by rw[nK,aO (by decide),aO (by decide),bh rfl];rfl
theorem Zp:bn [92]=some [92]:=by rw[nK,aO (by decide),aO (by decide),bh rfl]
theorem S2{t:H}:bn (35::t)=bn (lV t):=by rw[nK,aO (by decide),bh rfl]
theorem S3{b:UInt8}{t:H}(a:¬fL b=true)(c:b≠35)(d:b≠92):bn (b::t)=some (b::t):=by simp_all[nK,aO]
theorem FI{b:UInt8}{t:H}(a:fL b=true):bn (b::t)=bn t:=by rw[nK,bh a]
theorem alG{e:cI}{F:ai}(dt:e.S.length<=1000000)(I:ag)(M:I.1=e.S)(g:I.2.2.1=F)(i:I.2.2.2.1=e.ne)(j:I.2.2.2.2.1=e.op)(l:I.2.2.2.2.2=e.kr):∀(n:Nat)(r:H),r.length<n->r<:+e.S->
  I3 e r F (fixF (K6 I λm=>some (.inr (I.1,m,I.2.2.1,I.2.2.2.1,I.2.2.2.2.1,I.2.2.2.2.2))) n (ar e.S r)):=by
 intro n;induction n with
 |zero=>omega
 |succ n a=>
  intro r av Z;rw[fm];generalize fixF (K6 I _) n=k at a;unfold K6 a6;simp only[M,g,i,j,l];cases r with
  |nil=>simp only[iv,Int.lt_irrefl,bH,aU];simp[I3,mg,cI.st,iv]
  |cons b t=>
   have f:t.length<n:=by grind
   rw[bX (g5 Z),jA Z,iQ dt Z];simp only[nO Z,bA,aL,SZ,I2,nc,Zn];unfold I3;by_cases d:fL b=true
   ·rw[FI d];have:(bif decide (b=32) then true else decide (b=9))=true:=by simp[fL] at d;rcases d with rfl|rfl<;>rfl
    rw[this];exact a t f (dS Z)
   ·have o:(bif decide (b=32) then true else decide (b=9))=false:=by grind[fL]
    rw[o];simp only[aU];by_cases p:b=92
    ·subst p;cases t with
     |nil=>simp[iv,a2,cI.st,Zp]
     |cons c u=>
      rw[bX (λ_=>g5 (dS Z)),jA (dS Z)];simp only[bA,aL,nO (dS Z),p_];by_cases ay:c=10
      ·subst ay;have q:W (ar e.S (92::10::u)+2)=ar e.S u:=kK (w:=[92,10]) dt Z;rw[q];simp only[bA,aL,S1];by_cases hu:u=[]
       ·subst hu;rw[bh rfl];simp only[iv,bA,aL];exact⟨_,rfl,rfl⟩
       ·rw[aO hu];have:decide (ar e.S u=(e.S.length:Int))=false:=by grind[zl]
        rw[this];simp only[aU];exact a u (by grind) (dS (dS Z))
      simp_all[bH,aU,S0,cI.st]
    ·have s:decide (b=92)=false:=by grind
     rw[s];simp only[aU];rw[bX (λh=>by grind)];by_cases v:b=35
     ·subst v;rw[S2];simp only[decide_true,cond_true];rw[alF (e:=e) I M dt _ _ (mj (Nat.le_trans (eY Z) dt)) Z];have:lV (35::t)=lV t:=by rfl
      rw[this];exact a _ (Nat.lt_of_le_of_lt (AR t) f) ((Fp t).trans (dS Z))
     grind[S3,cI.st]
theorem alH{e:cI}{r:H}{F:ai}(h:dZ e r F):I3 e r F (P7 (e.st r F)):=
 alG h.b3 (e.st r F) rfl rfl rfl rfl rfl _ r (mj (kN (eY h.sfx) h.b3)) h.sfx
theorem S5{r S:H}(h:r<:+S):S.drop (ar S r).toNat=r:=by obtain⟨u,rfl⟩:=h;simp[ar,oO]
theorem I4{r t S:H}(h:r<:+S)(U:t<:+r):b1 S (ar S r) (ar S t)=r.take (r.length-t.length):=by grind[b1,S5,eY,ar]
theorem S6{S r:H}(dt:S.length<=1000000)(Z:r<:+S):B8 S (ar S r)=some (bu r):=by
 have M:¬ar S r<0:=by grind[eY,ar]
 unfold B8;by_cases U:(S.length:Int)<=ar S r
 ·have b:r=[]:=zl.1 (show ar S r=S.length by have:= @pz r S;omega);simp_all[bu,kG,w3,List.isPrefixOf]
 ·simp only[M,U,bH,aU];have e0:sm 32 [60,60,45,32,38,38,32,124,124,32,59,59,32,60,60,32,60,38,32,60,62,32,62,62,32,62,38,32,62,124,32,38,32,124,32,59,32,60,32,62,32,40,32,41]=kG:=by decide
  have a:=Zg [60,60,45,32,38,38,32,124,124,32,59,59,32,60,60,32,60,38,32,60,62,32,62,62,32,62,38,32,62,124,32,38,32,124,32,59,32,60,32,62,32,40,32,41] 32 (by decide);rw[e0] at a;rw[aP a];unfold a6;show fixF (Ld S (ar S r) kG λ_=>some []) bC 0=_;rw[(Zh S (ar S r) (by omega) (by omega) (by omega) kG (by decide) (by decide) (λ_=>some []) bC 0 (by omega) (by decide) (by rw[gF];decide) (by simp[gF])).2];rw[S5 Z];grind[bu,Lib.hasPrefix,List.isPrefixOf,List.find?,kG]
theorem gd{α β:Type}{g:Prop}[Decidable g]{v d:α}{k:α->Option β}:cY g (some v) d k=k (if g then v else d):=by grind[cY,au]
theorem S7{S r:H}(dt:S.length<=1000000)(Z:r<:+S):yJ S (ar S r)=some (c4 r):=by
 unfold yJ;rw[S6 dt Z,gd];cases r with
 |nil=>simp[iv,a2,c4]
 |cons b t=>
  have ax:¬(S.length:Int)<=ar S (b::t):=by simp_all[nO]
  rw[bX (λ_=>g5 Z),bX (λ_=>g5 Z),bX (λ_=>g5 Z),jA Z];simp only[ax,bH,aU,SZ,I2,p_];grind[c4,fL,bu]
theorem Zq{S t:H}{b:UInt8}(dt:S.length<=1000000)(Z:b::t<:+S):Ev S (ar S (b::t))=some (gI (b::t)):=by
 unfold Ev;rw[bX (g5 Z),jA Z,iQ dt Z];simp only[qW,AY,AZ];cases t with
 |nil=>simp[iv,a2,gI]
 |cons c u=>
  rw[bX (λ_=>g5 (dS Z)),bX (λ_ _=>g5 (dS Z)),jA (dS Z)];simp only[nO (dS Z),bA];by_cases M:b=36
  ·subst M;by_cases U:c=40
   ·grind[gI]
   by_cases a:c=123
   ·grind[gI]
   simp_all[gI]
  simp_all[gI]
theorem alI:∀(r w:H),dg r=(w,false)->w=[]
 |[],w,h=>by grind[dg]
 |b::t,w,h=>by grind[dg]
def FJ(S:H)(j:Int->Option (H×Bool))(r:H):H×Bool->Option (H×Bool)
 |(w,true)=>j (ar S (r.drop w.length))
 |(_,false)=>some ([],false)
theorem alJ{S:H}(dt:S.length<=1000000)(j:Int->Option (H×Bool)):∀(n:Nat)(r:H),r.length<n->r<:+S->fixF (Hy S j) n (ar S r)=FJ S j r (dg r):=by
 intro n;induction n with
 |zero=>omega
 |succ n a=>
  intro r av Z;rw[fm];generalize fixF (Hy S j) n=k at a;unfold Hy;rw[S7 dt Z,aP rfl];cases r with
  |nil=>rfl
  |cons b t=>
   unfold dg;by_cases d:c4 (b::t)=true
   ·rw[d,bh rfl];rfl
   ·have e:c4 (b::t)=false:=by grind
    rw[e,aO (by simp)];simp only[fp,aL];rw[bX (g5 Z),Zq dt Z,gd,jA Z,iQ dt Z];simp only[nc,rP,oG,oF];by_cases f:b=92
    ·grind[FJ]
    by_cases g:b=39
    ·grind[FJ]
    by_cases h:b=34
    ·grind[FJ]
    by_cases i:b=96
    ·grind[FJ]
    by_cases l:gI (b::t)=true
    ·grind[FJ]
    ·simp only[f,g,h,i,bH,aU,cU,l,cH,or_self];rw[a t (by grind) (dS Z)];cases az:dg t with
     |mk w c=>cases c<;>rfl
theorem alK{S r:H}(dt:S.length<=1000000)(Z:r<:+S):Le S (ar S r)=some (dg r):=by
 unfold Le a6;show fixF (Hy S _) bC (ar S r)=_;rw[alJ dt _ _ r (mj (Nat.le_trans (eY Z) dt)) Z];cases az:dg r with
 |mk w c=>
  cases c with
  |false=>rw[alI _ _ az];rfl
  |true=>have a:=(Ft _ _ az).1;obtain⟨q,rfl⟩:=a;have b:q<:+S:=(List.suffix_append w q).trans Z;show a2 _ _=_;rw[List.drop_left,bX (by grind[eY,List.length_append,ar]),I4 Z (fR w q)];simp
def jM:Tok->Int×H×Bool
 | .eof=>(0,[],false)
 | .line=>(1,[],false)
 | .op o=>(2,o,false)
 | .word w p=>(3,w,p)
theorem Zr{e:cI}{x r:H}{F:ai}(h:dZ e r F):a1 e r (bQ x r F) (λt r F=>(jM t,e.st r F)) (mD (e.st r F)):=by
 have Y:=alH h;unfold I3 at Y;unfold mD;cases aw:bn r with
 |none=>rw[aw] at Y;obtain⟨st,M,U⟩:=Y;rw[iN aw,M];exact⟨st,rfl,by grind⟩
 |some r'=>
  rw[aw] at Y;rw[cu aw,Y];have c:=ef aw;have a:=h.mono c;refine⟨c,a,?_⟩;unfold a_;simp only[cI.st];cases r' with
  |nil=>simp[iv,an,jM]
  |cons b t=>
   have bc:¬ar e.S (b::t)=(e.S.length:Int):=by simp[zl]
   simp only[bc,bH,aU];refine(bX (g5 a.sfx)).trans ?_;simp only[jA a.sfx,p_];unfold an;by_cases d:b=10
   ·grind[jM]
   ·simp only[d,bH,aU,cH];rw[S6 a.b3 a.sfx,aP rfl];by_cases f:bu (b::t)=[]
    ·simp only[f,bA,hE,aU,ne_eq,not_true,cH];rw[alK a.b3 a.sfx,aP rfl];rfl
    grind[jM]
theorem fi{σ τ α β:Type}{m:Option (bo σ α)}{f:σ->τ}{k:α->Option (bo τ β)}{y:α}(h:m=some (.inr y)):a_ m f k=k y:=by rw[h];rfl
theorem gf{σ τ α β:Type}{m:Option (bo σ α)}{f:σ->τ}{k:α->Option (bo τ β)}{c p:Int}{s:σ}(h:m=some (.inl (c,p,s))):a_ m f k=some (.inl (c,p,f s)):=by rw[h];rfl
theorem zm{σ τ α β:Type}{g:Prop}[Decidable g]{m:Option (bo σ α)}{f:σ->τ}{d:α}{k:α->Option (bo τ β)}(h:g):nT g m f d k=a_ m f k:=bh h
theorem Zs{σ τ α β:Type}{g:Prop}[Decidable g]{m:Option (bo σ α)}{f:σ->τ}{d:α}{k:α->Option (bo τ β)}(h:¬g):nT g m f d k=k d:=aO h
def xI{β:Type}(e:cI)(y:Option (bo ag β)):Prop:=∃st:ag,y=some (.inl (1,e.S.length,st))/\st.2.2.2.2.1=e.op
theorem xI.bind{β a:Type}{e:cI}{y:Option (bo ag β)}{f:ag->ag}{k:β->Option (bo ag a)}(h:xI e y)(hf:∀st,(f st).2.2.2.2.1=st.2.2.2.2.1\/(f st).2.2.2.2.1=e.op):xI e (a_ y f k):=by obtain⟨st,M,U⟩:=h;refine⟨f st,gf M,?_⟩;grind
theorem xI.more{β:Type}{e:cI}{st:ag}{f:ag->ag}{k:Empty->Option (bo ag β)}(M:st.1=e.S)(U:(f st).2.2.2.2.1=e.op):xI e (a_ (sK st) f k):=
 ⟨f st,by grind[sK,a_],U⟩
theorem xI.so{α β:Type}{e:cI}{r0:H}{cv:α->H->ai->β}{nd:H}{ds:ai}{y:Option (bo ag β)}(h:xI e y):a1 e r0 (.more [] nd ds) cv y:=by obtain⟨st,M,U⟩:=h;exact⟨st,M,by grind⟩
structure o2{β:Type}(e:cI)(f:Tok->β)(gG:ag->Option (bo ag (β×ag))):Prop where
 some:∀{r r' F},dZ e r F->bn r=some r'->gG (e.st r F)= .some (.inr (f (an r'),e.st r' F))
 none:∀{r F},dZ e r F->bn r=none->xI e (gG (e.st r F))
theorem lp(e:cI):o2 e jM mD:=by
 constructor
 ·intro r r' F h Y;have:=Zr (x:=[]) h;rw[cu Y] at this;exact this.2.2
 ·intro r F h Y;have:=Zr (x:=[]) h;rw[iN Y] at this;obtain⟨st,M,U⟩:=this;exact⟨st,M,by grind⟩
theorem rR(e:cI)(w:H):o2 e (λt=>cE t w) (λx=>qw x w):=by
 constructor
 ·intro r r' F h Y;refine(fi ((lp e).some h Y)).trans ?_;cases an r' with
  |word t p=>cases p<;>by_cases a:t=w<;>simp[jM,cE,a]<;>rfl
  |_=>rfl
 ·intro r F h Y;exact((lp e).none h Y).bind λ_=> .inl rfl
theorem sq(e:cI)(w:H):o2 e (λt=>t== .op w) (λx=>ou x w):=by
 constructor
 ·intro r r' F h Y;refine(fi ((lp e).some h Y)).trans ?_;cases an r' with
  |op t=>by_cases a:t=w<;>simp[jM,a]<;>rfl
  |_=>rfl
 ·intro r F h Y;exact((lp e).none h Y).bind λ_=> .inl rfl
def C8:Ctx->Int
 | .text=>0| .paren=>1| .p7=>2| .oZ=>3| .qH=>4| .ku=>5| .p8=>6| .done=>7| .item=>8
theorem o2.or{e:cI}{f g:Tok->Bool}{gG G:ag->Option (bo ag (Bool×ag))}(hf:o2 e f gG)(bt:o2 e g G):
  o2 e (λt=>f t||g t) (λI=>a_ (gG I) (λx=>x) λy=>nT (y.1=false) (G (y.2.1,y.2.2.1,I.2.2.1,y.2.2.2.2.1,I.2.2.2.2.1,y.2.2.2.2.2.2)) (λx=>x) (false,(y.2.1,y.2.2.1,I.2.2.1,y.2.2.2.2.1,I.2.2.2.2.1,y.2.2.2.2.2.2)) λz=>
   Option.some (.inr ((bif y.1 then true else z.1),(z.2.1,z.2.2.1,I.2.2.1,z.2.2.2.2.1,I.2.2.2.2.1,z.2.2.2.2.2.2)))):=by
 constructor
 ·intro r r' F h Y;refine(fi (hf.some h Y)).trans ?_;cases a:f (an r') with
  |true=>rfl
  |false=>refine(zm rfl).trans ((fi (bt.some (h.mono (ef Y)) (mi _ _ _ (cS _) Y))).trans ?_);rfl
 ·intro r F h Y;exact(hf.none h Y).bind λ_=> .inl rfl
theorem o2.ret{β:Type}{e:cI}{f:Tok->β}{gG:ag->Option (bo ag (β×ag))}(hf:o2 e f gG):o2 e f (λI=>a_ (gG I) (λx=>x) λy=>Option.some (.inr (y.1,(y.2.1,y.2.2.1,I.2.2.1,y.2.2.2.2.1,I.2.2.2.2.1,y.2.2.2.2.2.2)))):=by
 constructor
 ·intro r r' F h Y;exact(fi (hf.some h Y)).trans rfl
 ·intro r F h Y;exact(hf.none h Y).bind λ_=> .inl rfl
theorem alL(e:cI):o2 e (λt=>t== .eof) (λI=>a_ (mD I) (λx=>x) λy=>some (.inr (decide (y.1.1=0),(y.2.1,y.2.2.1,I.2.2.1,y.2.2.2.2.1,I.2.2.2.2.1,y.2.2.2.2.2.2)))):=by
 constructor
 ·intro r r' F h Y;refine(fi ((lp e).some h Y)).trans ?_;cases an r'<;>simp[jM]<;>rfl
 ·intro r F h Y;exact((lp e).none h Y).bind λ_=> .inl rfl
theorem o2.alM{e:cI}{f g i:Tok->Bool}{gG G dc:ag->Option (bo ag (Bool×ag))}(hf:o2 e f gG)(bt:o2 e g G)(bg:o2 e i dc):
  o2 e (λt=>f t||g t||i t) (λI=>a_ (gG I) (λx=>x) λy=>nT (y.1=false) (G (y.2.1,y.2.2.1,I.2.2.1,y.2.2.2.2.1,I.2.2.2.2.1,y.2.2.2.2.2.2)) (λx=>x) (false,(y.2.1,y.2.2.1,I.2.2.1,y.2.2.2.2.1,I.2.2.2.2.1,y.2.2.2.2.2.2)) λz=>
   nT ((bif y.1 then true else z.1)=false) (dc (z.2.1,z.2.2.1,I.2.2.1,z.2.2.2.2.1,I.2.2.2.2.1,z.2.2.2.2.2.2)) (λx=>x) (false,(z.2.1,z.2.2.1,I.2.2.1,z.2.2.2.2.1,I.2.2.2.2.1,z.2.2.2.2.2.2)) λw=>
   Option.some (.inr ((bif(bif y.1 then true else z.1) then true else w.1),(w.2.1,w.2.2.1,I.2.2.1,w.2.2.2.2.1,I.2.2.2.2.1,w.2.2.2.2.2.2)))):=by
 constructor
 ·intro r r' F h Y;have a:=mi _ _ _ (cS _) Y;have b:=h.mono (ef Y);refine(fi (hf.some h Y)).trans ?_;cases c:f (an r') with
  |true=>rfl
  |false=>
   refine(zm rfl).trans ((fi (bt.some b a)).trans ?_);cases d:g (an r') with
   |true=>rfl
   |false=>refine(zm rfl).trans ((fi (bg.some b a)).trans ?_);rfl
 ·intro r F h Y;exact(hf.none h Y).bind λ_=> .inl rfl
theorem S8(e:cI)(c:Ctx):o2 e (ec c) (λx=>Ez x (C8 c)):=by
 cases c with
 |text=>exact alL e
 |paren=>exact(sq e _).ret
 |p7=>exact(rR e _).ret
 |oZ=>exact(rR e _).ret
 |ku=>exact(rR e _).ret
 |p8=>exact(rR e _).ret
 |done=>exact(rR e _).ret
 |item=>exact(sq e _).or (rR e _)
 |qH=>exact(rR e _).alM (rR e _) (rR e _)
theorem tY{e:cI}{r r':H}{F:ai}(h:dZ e r F)(Y:bn r=some r'):
  (an r'= .eof->xI e (lC (e.st r F)))/\(an r'≠ .eof->lC (e.st r F)=some (.inl (2,ar e.S r',e.st r' F))):=by
 constructor
 ·intro a;have:lC (e.st r F)=a_ (sK (e.st r' F)) (λx=>x) λy=>Empty.elim y:=by unfold lC a6;refine(fi ((lp e).some h Y)).trans ?_;rw[a];rfl
  rw[this];exact xI.more rfl rfl
 ·intro a;unfold lC a6;refine(fi ((lp e).some h Y)).trans ?_;cases aw:an r' with
  |eof=>grind
  |_=>rfl
theorem Zt{e:cI}{r:H}{F:ai}{w:H}{t:Tok->Bool}{gG:ag->Option (bo ag (Bool×ag))}(b:o2 e t gG)(d:∀{r:H},t (an r)=true->an r≠ .eof/\w<+:r)(h:dZ e r F):
  a1 e r (m9 t w.length r F) (λ_=>e.st) (a_ (gG (e.st r F)) (λx=>x) λy=>bif !y.1 then a_ (lC (y.2.1,y.2.2.1,F,y.2.2.2.2.1,e.op,y.2.2.2.2.2.2)) (λx=>x) (λy=>Empty.elim y) else some (.inr (y.2.1,W (y.2.2.1+(w.length:Int)),F,y.2.2.2.2.1,e.op,y.2.2.2.2.2.2))):=by
 unfold m9;cases Y:bn r with
 |none=>rw[dm (iN Y)];exact((b.none h Y).bind λ_=> .inl rfl).so
 |some r'=>
  rw[aT (cu Y),fi (b.some h Y)];have f:=ef Y;have a:=h.mono f;have c:=mi _ _ _ (cS _) Y;cases aw:t (an r') with
  |true=>obtain⟨M,q,rfl⟩:=d aw;rw[aO M,bh rfl];refine⟨by grind[List.drop_left,List.suffix_append,trans],by rw[oO];exact a.mono (fR w q),?_⟩;rw[oO];show some (Sum.inr (e.S,W (ar e.S (w++q)+(w.length:Int)),F,e.ne,e.op,e.kr))=_;rw[kK h.b3 a.sfx];rfl
  |false=>
   simp only[fp,aL];by_cases he:an r'= .eof
   ·rw[bh he];exact(((tY a c).1 he).bind λ_=> .inl rfl).so
   ·rw[aO he,aO (by simp)];exact⟨a.sfx,_,gf ((tY a c).2 he)⟩
theorem I6{e:cI}{r:H}{F:ai}(w:H)(h:dZ e r F):a1 e r (cF w r F) (λ_=>e.st) (ow (e.st r F) w):=by refine Zt (rR e w) (λ{r} aw=>?_) h;grind[an,cE,qS]
theorem MU{e:cI}{r:H}{F:ai}(o:H)(h:dZ e r F):a1 e r (ji o r F) (λ_=>e.st) (tH (e.st r F) o):=by
 refine Zt (sq e o) (λ{r} aw=>?_) h;have:an r= .op o:=by grind
 simp_all[h4]
theorem S9:∀r:H,(Lib.indexByte r 10= -1/\(hS r).1=r/\(hS r).2=[])\/(Lib.indexByte r 10=((hS r).1.length:Int)/\r=(hS r).1++10::(hS r).2)
 |[]=> .inl ⟨rfl,rfl,rfl⟩
 |b::t=>by have:=S9 t;unfold hS Lib.indexByte;grind
theorem MV{r S:H}(h:r<:+S):b1 S (ar S r) S.length=r:=by rw[<-iv S,I4 h n_];simp
theorem alN{S d:H}{tabs:Bool}{j:Unit->Option Int}(dt:S.length<=1000000):∀(n:Nat)(r:H),r.length<n->r<:+S->
  fixF (sL S d tabs j) n (ar S r)=match kZ d tabs r with|some q=>some (ar S q)|none=>j ():=by
 intro n;induction n with
 |zero=>omega
 |succ n c=>
  intro r av Z;rw[fm];generalize fixF (sL S d tabs j) n=k at c;unfold sL a6;cases r with
  |nil=>simp[iv,kZ]
  |cons b t=>
   have p:=eY Z;simp only[nO Z,bA,aL];rw[bX (by have:=g5 Z;omega),MV Z];have g:∀(l q:H),q<:+S->q.length<(b::t).length->(hS (b::t)).1=l->(hS (b::t)).2=q->
     (bif tabs then au (B9 l [9]) λh=>bif decide (h=d) then some (ar S q) else k (ar S q) else bif decide (l=d) then some (ar S q) else k (ar S q))=
     match kZ d tabs (b::t) with|some q=>some (ar S q)|none=>j ():=by
    intro l q e ax M U;rw[C0,M,U];have bg:=c q (by omega) e;have s:l.length<=(b::t).length:=by
     rcases S9 (b::t) with⟨_,f,_⟩|⟨_,f⟩
     ·grind
     grind
    cases tabs with
    |true=>rw[Zj l (by omega)];simp only[aL,cU];rw[aP rfl];grind
    |false=>grind
   show au (some (Lib.indexByte (b::t) 10)) _=_;rw[aP rfl];rcases S9 (b::t) with⟨M,U,f⟩|⟨M,U⟩
   ·grind[iv]
   ·have a:=mL List.length U;simp only[qk,nn] at a;have i:decide ((0:Int)<=Lib.indexByte (b::t) 10)=true:=by grind
    have e:(hS (b::t)).2<:+S:=((dN 10 _).trans (by grind)).trans Z
    have m:b1 (b::t) 0 (Lib.indexByte (b::t) 10)=(hS (b::t)).1:=by grind[hS,b1]
    have u:(b::t).length=t.length+1:=rfl;have o:W (W (ar S (b::t)+Lib.indexByte (b::t) 10)+1)=ar S (hS (b::t)).2:=by grind[ar,dJ]
    rw[i];simp only[aL];rw[bX (by omega),m,o];grind
theorem Zv{S d:H}{tabs:Bool}{r:H}(dt:S.length<=1000000)(Z:r<:+S):Ex S (ar S r) d tabs=some (match kZ d tabs r with|some q=>ar S q|none=> -1):=by
 unfold Ex yL;have M:max (0:Int) (min (ar S r) S.length)=ar S r:=by grind[pz,eY,ar]
 rw[aP rfl,M];unfold a6;show fixF (sL S d tabs _) bC (ar S r)=_;grind[alN,mj,Nat.le_trans,eY,kZ]
def MY{β:Type}(e:cI)(op:bw)(y:Option (bo ag β)):Prop:=∃st:ag,y=some (.inl (1,e.S.length,st))/\st.2.2.2.2.1=e.op++op
theorem MZ{β:Type}{e:cI}{st:ag}{x:H}{f:ag->ag}{k:Empty->Option (bo ag β)}(M:st.1=e.S)(U:st.2.2.2.2.1=e.op)(a:e.op.length<=2000000)(hf:∀s,(f s).2.2.2.2.1=s.2.2.2.2.1):MY e [x] (a_ (yM st x) f k):=by
 unfold yM;rw[bX (by grind)];refine⟨f (st.1,st.2.1,st.2.2.1,st.2.2.2.1,st.2.2.2.2.1++[x],st.2.2.2.2.2),?_,?_⟩
 ·grind[sK,a_]
 grind
theorem alO{e:cI}{F:ai}{I y23:ag}{j:Int->Option (bo ag (Bool×ag))}(dt:e.S.length<=1000000)(f:e.op.length<=2000000)(o:F.length<=1000000)(g:I.2.2.2.2.1=e.op)(h:y23.1=e.S):∀(n i:Nat)(q:H),F.length-i<n->i<=F.length->q<:+e.S->
  match lh (F.drop i) q with
  | .inl r'=>fixF (B_ I F y23 j) n ((i:Int),ar e.S q)=j (ar e.S r')
  | .inr _=>MY e [[60,60]] (fixF (B_ I F y23 j) n ((i:Int),ar e.S q)):=by
 intro n;induction n with
 |zero=>omega
 |succ n l=>
  intro i q av bg d;rw[fm];generalize fixF (B_ I F y23 j) n=k at l;unfold B_ a6;simp only[h,g];by_cases p:i<F.length
  ·have a:(i:Int)<(F.length:Int):=by omega
   have b:F.drop i=at' F (i:Int)::F.drop (i+1):=by grind[List.drop_eq_getElem_cons,at',List.getElem?_eq_getElem]
   rw[b];simp only[a,bA,aL];rw[bX (show 0<=(i:Int)/\True from⟨by omega,trivial⟩),Zv dt d,aP rfl,dJ (x:=(i:Int)+1) (by omega) (by omega)];unfold lh;cases m:kZ (at' F (i:Int)).1 (at' F (i:Int)).2 q with
   |none=>simp only[show((-1:Int)<0) from by decide,bA,aL];exact MZ rfl rfl f λ_=>rfl
   |some c=>
    have r:c<:+e.S:=((Sx _ _ _ q [] c (cS _) m).1).trans d;have h0:¬ar e.S c<0:=by grind[eY,ar]
    grind
  ·have a:¬(i:Int)<(F.length:Int):=by omega
   have b:F.drop i=[]:=w2 (by omega);rw[b];simp only[a,bH,aU];rfl
theorem dZ.xJ{e:cI}{r:H}{F:ai}(h:dZ e r F):e.op.length<=2000000:=by have:=h.ops;have:=h.b3;omega
theorem dZ.S_{e:cI}{r:H}{F:ai}(h:dZ e r F):F.length<=1000000:=by have:=h.kb;have:=h.b3;omega
theorem Zw{e:cI}{r:H}{F:ai}(h:dZ e r F):a1 e r (c5 r F) (λb r F=>(b,e.st r F)) (l9 (e.st r F)):=by
 unfold l9 a6;rw[tW];refine a1.rep (en:=λb r F=>(b,e.S,ar e.S r,F,e.ne,e.kr)) (λk b ae a M aw=>?_) bC false r F (mj (kN (eY h.sfx) h.b3)) h;unfold QB a6;cases Y:bn ae with
 |none=>have:iC b ae a= .more [] (cV [] a []).1 (cV [] a []).2:=dm (iN Y);rw[this];exact(((lp e).none M Y).bind λ_=> .inr rfl).so
 |some n=>
  have i:=ef Y;have c:=M.mono i;refine cast (mL _ (fi ((lp e).some M Y)).symm) ?_;by_cases l:an n= .line
  ·obtain⟨t,rfl⟩:=wy l;rw[wz Y,l];have o:t<:+e.S:=dS c.sfx;have f:=alO (e:=e) (F:=a) (I:=e.st r F) (y23:=e.st (10::t) a) (j:=λm=>k (true,e.S,m,[],e.ne,e.kr)) h.b3 c.xJ c.S_ rfl rfl bC 0 t (mj (by have:=c.S_;omega)) (by omega) o;have s:W (ar e.S (10::t)+1)=ar e.S t:=iQ c.b3 c.sfx;simp only[yg] at f
   have u:∀y,y=fixF (B_ (e.st r F) a (e.st (10::t) a) λm=>k (true,e.S,m,[],e.ne,e.kr)) bC ((0:Nat),ar e.S t)->a1 e ae (cX iC ae (N jw (λ_=>aZ (.inl true)) (10::t) a)) (λb r F=>(b,e.st r F)) y:=by
    rintro y rfl;cases g:lh a t with
    |inr nd=>
     rw[g] at f;have:N jw (λ_=>aZ (.inl true)) (10::t) a=(.more [[60,60]] nd []:dD (Bool⊕Bool)):=by grind[N,vf]
     rw[this];exact f
    |inl d=>
     rw[g] at f;have v:N jw (λ_=>aZ (.inl true)) (10::t) a=(.ok (.inl true) d []:dD (Bool⊕Bool)):=by unfold N;rw[vf,g];rfl
     rw[v];have w:fixF _ _ _=_:=f;rw[w];have p:d<:+t:=(ve _ _ [] _ g).1;have x:d<:+ae:=p.trans ((dN 10 t).trans i);have q:d.length<ae.length:=by grind
     have z:dZ e d []:=⟨c.b3,p.trans o,by grind,by have:=M.ops;omega⟩;exact a1.inl q (aw true d [] x z q)
   refine u _ ?_;rw[<-s];rfl
  ·rw[s3 Y l];refine⟨i,c,?_⟩;cases A:an n with
   |line=>grind
   |_=>rfl
theorem alP(w:H):Lj w=some (oB w):=by
 unfold Lj;have e0:sm 32 [105,102,32,119,104,105,108,101,32,117,110,116,105,108,32,102,111,114,32,99,97,115,101,32,123]=([jW,tT,Fk,mz,oA,[123]]:bw):=by decide
 rw[aP (SS w _ (by decide) (by simp_all)),e0];rfl
theorem alQ(w:H):LI w=some (rI w):=by unfold LI;rw[aP (SS w _ (by decide) (by decide))];rfl
theorem alR(w:H):HW w=some (fg w):=by unfold HW;rw[aP (SS w _ (by decide) (by decide))];rfl
theorem Zx(e:cI):o2 e gz HH:=by
 constructor
 ·intro r r' F h Y;refine(fi ((lp e).some h Y)).trans ?_;simp only[alP,gd];cases an r' with
  |word t p=>cases p<;>simp[jM,gz,cI.st]
  |op o=>grind[jM,gz,cI.st]
  |_=>rfl
 ·intro r F h Y;exact((lp e).none h Y).bind λ_=> .inl rfl
def cI.fI(e:cI)(x:H):cI:=⟨e.S,e.ne+1,e.op++[x],e.kr⟩
theorem M0{e:cI}{r:H}{F:ai}{p:Int}{x:H}(h:dZ e r F)(M:0<=e.ne)(U:e.ne<30):xp (e.st r F) p x=some (.inr ((e.fI x).st r F)):=by
 unfold xp a6;have:¬(e.st r F).2.2.2.1=30:=by show¬e.ne=30;omega
 simp only[this,bH,aU];have b:=h.xJ;refine(bX (show(e.st r F).2.2.2.2.1.length+_<=536870912 by show e.op.length+1<=_;omega)).trans ?_;have a:W (e.ne+1)=e.ne+1:=dJ (by omega) (by omega);show some (Sum.inr (e.S,ar e.S r,F,W (e.ne+1),e.op++[x],e.kr))=_;rw[a];rfl
theorem Ta{e:cI}{r:H}{F:ai}{p:Int}{x:H}(h:e.ne=30):∃st,xp (e.st r F) p x=some (.inl (2,p,st)):=by unfold xp a6;have:(e.st r F).2.2.2.1=30:=h;simp only[this,bA,aL];exact⟨_,rfl⟩
theorem M1{e:cI}{r:H}{F:ai}{x:H}(c:e.op.length<=2000000)(M:0<=e.ne)(U:e.ne<30):v5 ((e.fI x).st r F)=some (e.st r F):=by
 unfold v5;have ax:((e.fI x).st r F).2.2.2.2.1=e.op++[x]:=rfl;have av:((e.fI x).st r F).2.2.2.1=e.ne+1:=rfl;have a:W (((e.op++[x]).length:Int)-1)=e.op.length:=by grind[dJ,List.length_append,List.length_singleton]
 have b:W (e.ne+1-1)=e.ne:=by grind[dJ]
 simp only[ax,av,a,b];rw[bX (by grind)];have:b1 (e.op++[x]) 0 (e.op.length:Int)=e.op:=by simp[b1]
 rw[this];rfl
theorem a1.named{α β:Type}{e:cI}{r0 r:H}{F:ai}{m:ad α}{x:H}{cv:α->H->ai->β}{y:Option (bo ag β)}(h:a1 (e.fI x) r0 (m r F) cv y):match(m.named x) r F with
  | .ok a r F=>r<:+r0/\dZ (e.fI x) r F/\y=some (.inr (cv a r F))
  | .more op _ _=>MY e op y
  | .bad r=>r<:+e.S/\∃st,y=some (.inl (2,ar e.S r,st))
  | .deep _=>∃(p:Int)(st:ag),y=some (.inl (2,p,st))/\p<e.S.length:=by
 unfold ad.named;cases hm:m r F with
 |ok a ae b=>rw[hm] at h;exact h
 |more op nd ds=>rw[hm] at h;obtain⟨st,M,U⟩:=h;exact⟨st,M,by grind[cI.fI]⟩
 |bad q=>rw[hm] at h;exact h
 |deep q=>rw[hm] at h;exact h
theorem I8{S r:H}(Z:r<:+S):yL (ar S r) S.length=some (ar S r):=by unfold yL;grind[max,min,ar,pz,eY]
def lL(S:H):Option H->Int
 |some q=>ar S q
 |none=> -1
theorem alS{S:H}(dt:S.length<=1000000):∀(n:Nat)(r:H),r.length<n->r<:+S->fixF (yO S λ_=>some (-1)) n (ar S r)=some (lL S (hB r)):=by
 intro n;induction n with
 |zero=>omega
 |succ n d=>
  intro r av Z;rw[fm];cases r with
  |nil=>simp[yO,iv,hB,lL]
  |cons b t=>
   have h:=eY Z;have f:t.length<n:=by grind
   have e:=d t f (dS Z);cases t with
   |nil=>
    obtain⟨m,rfl⟩:∃m,n=m+1:=⟨n-1,by omega⟩
    have g:fixF (yO S λ_=>some (-1)) (m+1) (W (ar S []+1))=some (-1):=by
     rw[fm];unfold yO;have:¬W (ar S []+1)<(S.length:Int):=by grind[iv,dJ]
     grind
    generalize fixF (yO S _) (m+1)=k at e g;unfold yO a6;simp only[nO Z,bA,aL];rw[bX ⟨(g5 Z).1,trivial⟩,jA Z,iQ dt Z];grind[nc,oF,hB,lL]
   |cons c u=>have a:=d u (by grind) (dS (dS Z));generalize fixF (yO S _) n=k at e a;unfold yO a6;simp only[nO Z,bA,aL];rw[bX ⟨(g5 Z).1,trivial⟩,jA Z,iQ dt Z,iQ dt (dS Z)];grind[nc,oF,hB,lL]
theorem alU{S r:H}(dt:S.length<=1000000)(Z:r<:+S):EH S (ar S r)=some (lL S (hB r)):=by unfold EH;rw[I8 Z,aP rfl];grind[a6,alS,mj,Nat.le_trans,eY]
theorem Zy:∀r:H,(Lib.indexByte r 39= -1/\gy r=none)\/∃q,gy r=some q/\q<:+r/\Lib.indexByte r 39=(r.length:Int)-q.length-1
 |[]=> .inl ⟨rfl,rfl⟩
 |b::t=>by
  unfold gy Lib.indexByte;by_cases a:b=39
  ·subst a;exact .inr ⟨t,by simp,dN 39 t,by simp;omega⟩
  ·rcases Zy t with⟨M,U⟩|⟨q,M,U,c⟩
   ·left;simp[a,M,U]
   ·right;refine⟨q,by simp[a,M],U.trans (dN b t),?_⟩;have d:=ze t q M;have:¬Lib.indexByte t 39= -1:=by rw[c];omega
    simp[a,this,c];omega
theorem Zz{S r:H}(dt:S.length<=1000000)(Z:r<:+S):xt S (ar S r)=some (lL S (gy r)):=by
 unfold xt;have ax:=eY Z;have az:ar S r=(S.length:Int)-r.length:=rfl;rw[I8 Z,aP rfl,bX (by omega),MV Z];show au (some (Lib.indexByte r 39)) _=_;rw[aP rfl];rcases Zy r with⟨M,U⟩|⟨q,M,U,a⟩
 ·rw[M,U];rfl
 ·have b:=ze r q M;rw[M,a];have h0:¬((r.length:Int)-q.length-1<0):=by omega
  simp only[h0,bH,aU];rw[dJ (x:=ar S r+_) (by omega) (by omega),dJ (by omega) (by omega)];unfold lL;simp only;congr 1;have:ar S q=(S.length:Int)-q.length:=rfl;omega
def qX(S:H):Yx->Int×Int
 | .ok r=>(ar S r,0)
 | .more n=>(-1,n)
 | .bad r=>(-2,ar S r)
theorem s5(b:UInt8)(t:H):gI (b::t)=(decide (b=36)&&match t with|[]=>false|c::_=>decide (c=40)||decide (c=123)):=by
 cases t with
 |nil=>simp[gI]
 |cons c u=>
  by_cases M:b=36
  ·subst M;by_cases U:c=40
   ·subst U;rfl
   ·by_cases a:c=123
    ·subst a;rfl
    simp_all[gI]
  simp_all[gI]
theorem alV{S:H}(dt:S.length<=1000000):∀(n:Nat)(d:Nat)(r:H),r.length<n->r<:+S->d+r.length<=1000000->fixF (ED S λj=>some ((-1),(W (j+2)))) n ((d:Int),ar S r)=some (qX S (hR d r)):=by
 intro n;induction n with
 |zero=>omega
 |succ n e=>
  intro d r av Z aD;rw[fm];generalize fixF (ED S _) n=k at e;unfold ED a6;cases r with
  |nil=>simp only[iv,Int.lt_irrefl,bH,aU];grind[dJ,hR,qX]
  |cons b t=>
   have x:=eY Z;have l:t.length<n:=by grind
   have y:(b::t).length=t.length+1:=rfl;simp only[nO Z,bA,aL];rw[bX ⟨(g5 Z).1,trivial⟩];have m:=iQ dt Z;simp only[jA Z,m,AY,FH,rP,oG,nc,oF,qW];have z:=λd h=>e d t l (dS Z) h;unfold hR;rw[s5];by_cases a:b=40
   ·subst a;have f:W ((d:Int)+1)=((d+1:Nat):Int):=by grind[dJ]
    grind
   by_cases g:b=41
   ·subst g;simp only[a,bH,bA,aL,aU];cases d with
    |succ i=>
     have f:W (((i+1:Nat):Int)-1)=(i:Int):=by grind[dJ]
     grind
    |zero=>
     simp only[show¬((0:Int)<((0:Nat):Int)) by decide,bH,aU];cases t with
     |nil=>simp[iv,qX]
     |cons c u=>
      have bc:¬ar S (c::u)=(S.length:Int):=by simp[zl]
      simp only[bc,bH,aU];rw[bX (g5 (dS Z))];simp only[jA (dS Z),FH];have f:W (ar S (41::c::u)+2)=ar S u:=kK (w:=[41,c]) dt Z;grind[qX]
   simp only[a,g,bH,aU,cH];by_cases o:b=39
   ·grind[qX]
   by_cases p:b=34
   ·grind[qX]
   by_cases q:b=92
   ·grind[qX]
   by_cases s:b=96
   ·grind[qX]
   simp only[o,p,q,s,bH,aU,false_or];by_cases v:b=36
   ·subst v;simp only[bA,aL,OA];cases t with
    |nil=>simp only[iv,Int.lt_irrefl,bH,aU];grind[bX,iv]
    |cons c u=>rw[bX (λ_=>g5 (dS Z)),bX (λ_ _=>g5 (dS Z))];simp only[nO (dS Z),bA,aL,jA (dS Z),AY,AZ];grind[qX]
   grind
theorem ZA{S r:H}(dt:S.length<=1000000)(Z:r<:+S):EE S (ar S r)=some (qX S (hR 0 r)):=by unfold EE;rw[I8 Z,aP rfl];unfold a6;exact alV dt _ 0 r (mj (kN (eY Z) dt)) Z (by grind)
def qZ{α β:Type}(e:cI)(m:ad α)(cv:α->H->ai->β)(gG:ag->Option (bo ag β)):Prop:=∀r F,dZ e r F->a1 e r (m r F) cv (gG (e.st r F))
def a9(fr:Bool):Nat->ad Unit
 |0=>dy none
 |n+1=>dy (some (aS fr n))
theorem xK(fr:Bool)(n:Nat):(aS fr n).dl=a9 fr n:=by cases n<;>rfl
structure C9(R:bj)(n:Nat):Prop where
 im:∀e:cI,e.ne=30- (n:Int)->qZ e (jy 34 (cD (a9 false n) none)) (λ_=>e.st) (λx=>R.yE x 34 false)
structure M3(R:bj)(n:Nat):Prop where
 im:∀e:cI,e.ne=30- (n:Int)->qZ e (jy 125 (cD (a9 false n) (some (eJ (a9 false n))))) (λ_=>e.st) (λx=>R.yE x 125 true)
structure xL(R:bj)(n:Nat):Prop where
 im:∀(e:cI)(c:Ctx)(no:Bool),c≠ .text->e.ne=30- (n:Int)->qZ e ((aS false n).ls c no) (λa r F=>((a:Int),e.st r F)) (λx=>R.kR x (C8 c) no)
theorem a1.aI{α β:Type}{e:cI}{r0 r:H}{F:ai}{m:ad α}{x:H}{cv:α->H->ai->β}{y:Option (bo ag β)}(h:a1 e r0 (m r F) cv y):a1 e r0 (m.aI x r F) cv y:=by
 unfold ad.aI;cases hm:m r F with
 |more op nd ds=>rw[hm] at h;exact h
 |ok a ae b=>grind
 |bad q=>grind
 |deep q=>rw[hm] at h;exact h
def cI.nm(e:cI)(x:H):cI:=⟨e.S,e.ne,e.op++[x],e.kr⟩
theorem alW{R:bj}{n:Nat}(g6:C9 R n){e:cI}(bc:e.ne=30- (n:Int)){t:H}{F:ai}(h:dZ e (34::t) F):a1 e t (eJ (a9 false n) t F) (λ_=>e.st) (Lp R (e.st (34::t) F)):=by
 unfold Lp;have k:=h.xJ;refine cast (mL _ (bX (show(e.st (34::t) F).2.2.2.2.1.length+_<=536870912 by show e.op.length+1<=_;omega)).symm) ?_
 have b:dZ (e.nm [34]) t F:=⟨h.b3,dS h.sfx,by have:=h.kb;simp only[nn] at this;show _<=e.S.length;omega,by have:=h.ops;simp only[nn] at this;show(e.op++[[34]]).length+_<=_;simp only[qk,OF];show _<=e.S.length+1;omega⟩
 have hu:=g6.im (e.nm [34]) bc t F b;have c:W (ar e.S (34::t)+1)=ar e.S t:=iQ h.b3 h.sfx;have d:((e.st (34::t) F).1,(W ((e.st (34::t) F).2.1+1)),(e.st (34::t) F).2.2.1,(e.st (34::t) F).2.2.2.1,((e.st (34::t) F).2.2.2.2.1++([([34]:H)]:bw)),(e.st (34::t) F).2.2.2.2.2)=(e.nm [34]).st t F:=by show(e.S,W (ar e.S (34::t)+1),F,e.ne,e.op++[[34]],e.kr)=_;rw[c];rfl
 rw[d];unfold eJ ad.named ad.aI;cases hm:jy 34 (cD (a9 false n) none) t F with
 |ok a ae f=>
  rw[hm] at hu;obtain⟨M,U,g⟩:=hu
  refine⟨M,⟨h.b3,U.sfx,U.kb,by have:=U.ops;have i:(e.nm [34]).op.length=e.op.length+1:=by simp[cI.nm]
                               rw[i] at this;have l:(e.nm [34]).S=e.S:=rfl;grind⟩,?_⟩
  rw[fi g];have j:W (((e.op++[[34]]).length:Int)-1)=e.op.length:=by grind[dJ,List.length_append,List.length_singleton]
  have ax:((e.nm [34]).st ae f).2.2.2.2.1=e.op++[[34]]:=rfl;simp only[ax,j];refine(bX (by grind)).trans ?_;have:b1 (e.op++[[34]]) 0 (e.op.length:Int)=e.op:=by simp[b1]
  rw[this];rfl
 |more op nd ds=>rw[hm] at hu;obtain⟨st,M,U⟩:=hu;exact⟨st,gf M,by grind[cI.nm]⟩
 |bad q=>rw[hm] at hu;obtain⟨M,st,U⟩:=hu;exact⟨M,st,gf U⟩
 |deep q=>rw[hm] at hu;obtain⟨p,st,M,U⟩:=hu;exact⟨p,st,gf M,U⟩
def M4(e:cI)(b:UInt8)(t:H)(F:ai)(m:dD Unit)(y:Option (bo ag (Bool×ag))):Prop:=match m with
 | .ok _ r' a=>r'<:+t/\dZ e r' a/\(y=some (.inr (true,e.st r' a))\/(y=some (.inr (false,e.st (b::t) F))/\r'=t/\a=F))
 | .more op _ _=>MY e op y
 | .bad r=>r<:+e.S/\∃st,y=some (.inl (2,ar e.S r,st))
 | .deep _=>∃(p:Int)(st:ag),y=some (.inl (2,p,st))/\p<e.S.length
theorem dZ.fI{e:cI}{r t:H}{F:ai}{x:H}(h:dZ e r F)(a:t<:+r)(ax:t.length<r.length):dZ (e.fI x) t F:=
 ⟨h.b3,a.trans h.sfx,by have:=h.kb;show _<=e.S.length;omega,by have:=h.ops;show(e.op++[x]).length+_<=e.S.length+1;grind⟩
theorem dZ.out{e:cI}{r:H}{F:ai}{x:H}(h:dZ (e.fI x) r F):dZ e r F:=
 ⟨h.b3,h.sfx,h.kb,by
  have:=h.ops;have a:(e.fI x).op.length=e.op.length+1:=by simp[cI.fI]
  have b:(e.fI x).S=e.S:=rfl;grind⟩
theorem alX{α β:Type}{R:bj}{e:cI}{r t:H}{F:ai}{x:H}{p:Int}{m:ad α}{cv:α->H->ai->β}{gG:ag->Option (bo ag β)}{k:β->Option (bo ag ag)}{G:ag->ag}
  (M:0<=e.ne) (U:e.ne<30) (h:dZ e r F) (g:t<:+r) (ax:t.length<r.length) (f:G ((e.fI x).st r F)=(e.fI x).st t F)
  (hm:a1 (e.fI x) t (m t F) cv (gG ((e.fI x).st t F)))
  (aw:∀a ae d,m t F= .ok a ae d->dZ (e.fI x) ae d->k (cv a ae d)=some (.inr (e.st ae d))):
  a1 e t (N (m.named x) (λ_=>aZ ()) t F) (λ_=>e.st) (a_ (xp (e.st r F) p x) (λx=>x) λy=>a_ (gG (G y)) (λx=>x) k):=by
 rw[fi (M0 h M U),f];have:=hm.named;unfold N;cases av:(m.named x) t F with
 |ok a ae d=>rw[av] at this;obtain⟨b,c,i⟩:=this;have j:=CY.1 av;exact⟨b,c.out,by grind[fi]⟩
 |more op nd ds=>rw[av] at this;obtain⟨st,b,c⟩:=this;exact⟨st,gf b,c⟩
 |bad q=>rw[av] at this;obtain⟨b,st,c⟩:=this;exact⟨b,st,gf c⟩
 |deep q=>rw[av] at this;obtain⟨p,st,b,c⟩:=this;exact⟨p,st,gf b,c⟩
theorem a1.eh{α β:Type}{e:cI}{r0:H}{m:dD α}{cv:α->H->ai->β}{y a:Option (bo ag β)}(h:a1 e r0 m cv y)(b:a=y):a1 e r0 m cv a:=b▸h
theorem FM(m:ad Unit)(r:H)(F:ai):N m (λ_=>aZ ()) r F=m r F:=by unfold N;cases m r F<;>rfl
theorem ZB(fr:Bool)(n:Nat):(aS fr n).pm=qG (a9 fr n):=by cases n<;>rfl
theorem alY{R:bj}{n:Nat}(g6:∀m,n=m+1->M3 R m){e:cI}(bc:e.ne=30- (n:Int))(av:n<=30){u:H}{F:ai}(h:dZ e (36::123::u) F):
  a1 e u (a9 false n (36::123::u) F) (λ_=>e.st) (v8 R (e.st (36::123::u) F)):=by
 cases n with
 |zero=>
  show a1 e u (dy none _ _) _ _;unfold dy;rw[aO (by simp),aO (by simp),bh (by simp)];obtain⟨st,ax⟩:=Ta (e:=e) (r:=36::123::u) (F:=F) (p:=ar e.S (36::123::u)) (x:=[36,123]) (by omega);refine⟨ar e.S (36::123::u),st,?_,(g5 h.sfx).2⟩;have c:W (ar e.S (36::123::u)+1)=ar e.S (123::u):=iQ h.b3 h.sfx;unfold v8 a6;refine(bX (show 0<=W (ar e.S (36::123::u)+1)/\W (ar e.S (36::123::u)+1)<(e.S.length:Int) by rw[c];exact g5 (dS h.sfx))).trans ?_;have:((at' (e.st (36::123::u) F).1 (W ((e.st (36::123::u) F).2.1+1))).toNat:Int)=123:=by show((at' e.S (W (ar e.S (36::123::u)+1))).toNat:Int)=123;rw[c,jA (dS h.sfx)];rfl
  simp only[this,bA,aL];exact gf ax
 |succ m=>
  have hu:=(g6 m rfl).im (e.fI [36,123]) (by show e.ne+1=_;omega);have d:W (ar e.S (36::123::u)+2)=ar e.S u:=kK (w:=[36,123]) h.b3 h.sfx;have c:W (ar e.S (36::123::u)+1)=ar e.S (123::u):=iQ h.b3 h.sfx;have Y:u<:+36::123::u:=(dN 123 u).trans (dN 36 _);have hm:=a1.aI (x:=[125]) (hu u F (h.fI Y (by grind)));have:=alX (R:=R) (p:=ar e.S (36::123::u)) (gG:=λx=>R.yE x 125 true) (G:=λy=>(y.1,(W (y.2.1+2)),y.2.2.1,y.2.2.2.1,y.2.2.2.2.1,y.2.2.2.2.2)) (k:=λf=>au (v5 f) λb=>some (.inr (b.1,b.2.1,b.2.2.1,b.2.2.2.1,b.2.2.2.2.1,b.2.2.2.2.2)))
   (by omega) (by omega) h Y (by grind) (by show(e.S,W (ar e.S (36::123::u)+2),F,e.ne+1,e.op++[[36,123]],e.kr)=_;rw[d];rfl) hm
   (λa ae g _ _=>by rw[M1 h.xJ (by omega) (by omega)];rfl)
  rw[FM] at this;have az:a9 false (m+1) (36::123::u) F=((aS false m).pm.named [36,123]) u F:=by rfl
  rw[az,ZB];refine a1.eh this ?_
  ·unfold v8 a6;refine(bX (show 0<=W (ar e.S (36::123::u)+1)/\W (ar e.S (36::123::u)+1)<(e.S.length:Int) by rw[c];exact g5 (dS h.sfx))).trans ?_;have:((at' (e.st (36::123::u) F).1 (W ((e.st (36::123::u) F).2.1+1))).toNat:Int)=123:=by show((at' e.S (W (ar e.S (36::123::u)+1))).toNat:Int)=123;rw[c,jA (dS h.sfx)];rfl
   simp only[this,bA,aL];rfl
theorem ZC:∀(r:H)(d:Nat)(q:H),hR d r= .bad q->q<:+r
 |[],d,q,h=>by grind[hR]
 |b::t,d,q,h=>by
  have a:=λd=>ZC t d;unfold hR at h;split at h
  ·cases h;exact fS
  ·split at h
   ·exact((a _) q h).trans (dN b t)
   ·split at h
    ·split at h
     ·exact((a _) q h).trans (dN b t)
     ·split at h
      ·cases h
      ·split at h
       ·cases h
       ·cases h;exact fS
    ·exact((a _) q h).trans (dN b t)
theorem alZ{R:bj}{n:Nat}{e:cI}{u:H}{F:ai}(h:dZ e (36::40::40::u) F):
  a1 e u (a9 false n (36::40::40::u) F) (λ_=>e.st) (v8 R (e.st (36::40::40::u) F)):=by
 have az:a9 false n (36::40::40::u) F=mG u F:=by
  cases n with
  |zero=>rfl
  |succ m=>rfl
 rw[az];have b:W (ar e.S (36::40::40::u)+1)=ar e.S (40::40::u):=iQ h.b3 h.sfx;have c:W (ar e.S (36::40::40::u)+2)=ar e.S (40::u):=kK (w:=[36,40]) h.b3 h.sfx;have d:W (ar e.S (36::40::40::u)+3)=ar e.S u:=kK (w:=[36,40,40]) h.b3 h.sfx;have hu:u<:+e.S:=dS (dS (dS h.sfx));have f:u<:+36::40::40::u:=(fR [36,40,40] u);unfold v8 a6;simp only[cI.st,b,c,d,jA (dS h.sfx),jA (dS (dS h.sfx)),AZ,AY];refine a1.eh ?_ (bX (g5 (dS h.sfx)));simp only[show¬((40:UInt8)=123) by decide,bH,aU];refine a1.eh ?_ (bX (λ_=>g5 (dS (dS h.sfx))));simp only[nO (dS (dS h.sfx)),bA,aL,ZA h.b3 hu];refine a1.eh ?_ (aP rfl);unfold mG;cases Y:hR 0 u with
 |ok q=>
  have a:=AU 0 u q Y;have h0:¬ar e.S q= -1:=by grind[eY,ar]
  have M:¬ar e.S q= -2:=by grind[eY,ar]
  refine⟨a,h.mono (a.trans f),?_⟩;simp[qX,h0,M];rfl
 |more k=>simp only[qX,bA,aL];exact MZ rfl rfl h.xJ λ_=>rfl
 |bad q=>have a:=ZC u 0 q Y;refine⟨a.trans hu,?_⟩;simp only[qX,show¬((-2:Int)= -1) by decide,bH,aU,bA,aL];exact⟨_,rfl⟩
theorem ZD{σ α:Type}{f:σ->ad (σ⊕α)}{Q:H->Prop}(hf:∀s r F a r' b,f s r F= .ok (.inr a) r' b->Q r'):∀(bz:Nat)(s:σ)(r:H)(F:ai)(a:α)(r':H)(b:ai),r.length<=bz->ck f s r F= .ok a r' b->Q r':=by
 intro bz;induction bz with
 |zero=>intro s r F a r' b c h;rw[cK] at h;unfold cX at h;grind
 |succ bz d=>intro s r F a r' b c h;rw[cK] at h;unfold cX at h;grind
theorem I9{x r:H}{F:ai}{t:Tok}{r':H}{a:ai}(h:bQ x r F= .ok t r' a):bn r=some r'/\t=an r'/\a=F:=by
 unfold bQ at h;split at h
 ·grind[cb]
 grind
theorem zo{da:ad Unit}{c:Ctx}{no:Bool}(ay:c≠ .text){r:H}{F:ai}{a:Nat}{r':H}{d:ai}(h:n4 da c no r F= .ok a r' d):bn r'=some r'/\ec c (an r')=true:=by
 rw[sj] at h;obtain⟨_,ae,u,_,h⟩:=b7 h;refine ZD (Q:=λr'=>bn r'=some r'/\ec c (an r')=true) (λs r F a r' d h=>?_) _ _ _ _ _ _ _ (cS _) h;unfold fa at h;generalize (if(no||decide (s>0))=true then([]:H) else [120])=k at h;obtain⟨t,e,v,M,g⟩:=b7 h;clear h;obtain⟨U,rfl,rfl⟩:=I9 M;have x:=mi _ _ _ (cS _) U;by_cases he:an e= .eof
 ·simp_all[bh,aO,cb]
 rw[aO he] at g;by_cases f:((no||decide (s>0))&&ec c (an e))=true
 ·rw[bh f] at g;cases g;grind
 rw[aO f] at g;obtain⟨_,y,z,_,g⟩:=b7 g;obtain⟨t,l,A,m,b⟩:=b7 g;clear g;obtain⟨n,rfl,rfl⟩:=I9 m;have q:=mi _ _ _ (cS _) n;cases aw:an l with
 |eof=>rw[aw] at b;cases b
 |line=>rw[aw] at b;obtain⟨_,_,_,_,b⟩:=b7 b;cases b
 |word w p=>rw[aw] at b;cases b
 |op o=>
  rw[aw] at b;unfold iM at b;simp only at b;by_cases i:o=[59]\/o=[38]
  ·rw[bh i] at b;obtain⟨_,_,_,_,b⟩:=b7 b;obtain⟨_,_,_,_,b⟩:=b7 b;cases b
  ·rw[aO i] at b;by_cases j:ec c (.op o)=true
   ·rw[bh j] at b;cases b;grind
   ·rw[aO j] at b;cases b
theorem A1{o v:H}{F:ai}(Y:bn v=some v)(a:an v= .op o):ji o v F= .ok () (v.drop o.length) F:=by unfold ji m9;rw[aT (cu Y),a,aO (by simp)];simp[b5]
theorem ZE{e:cI}{v:H}{F:ai}{o:H}(h:dZ e v F)(Y:bn v=some v)(a:an v= .op o):v.drop o.length<:+v/\tH (e.st v F) o=some (.inr (e.st (v.drop o.length) F)):=by have:=MU o h;rw[A1 Y a] at this;exact⟨this.1,this.2.2⟩
theorem ZF{R:bj}{n:Nat}(bk:∀m,n=m+1->xL R m){e:cI}(bc:e.ne=30- (n:Int))(av:n<=30){u:H}{F:ai}(hu:u.head?≠some 40)(h:dZ e (36::40::u) F):
  a1 e u (a9 false n (36::40::u) F) (λ_=>e.st) (v8 R (e.st (36::40::u) F)):=by
 have k:¬([36,40,40]:H).isPrefixOf (36::40::u)=true:=by
  cases u with
  |nil=>simp
  |cons c v=>grind
 cases n with
 |zero=>
  show a1 e u (dy none _ _) _ _;unfold dy;rw[aO k,bh (by simp)];obtain⟨st,ax⟩:=Ta (e:=e) (r:=36::40::u) (F:=F) (p:=ar e.S (36::40::u)) (x:=[36,40]) (by omega);refine⟨ar e.S (36::40::u),st,?_,(g5 h.sfx).2⟩;have j:W (ar e.S (36::40::u)+2)=ar e.S u:=kK (w:=[36,40]) h.b3 h.sfx;have g:W (ar e.S (36::40::u)+1)=ar e.S (40::u):=iQ h.b3 h.sfx;unfold v8 a6;refine(bX (show 0<=W (ar e.S (36::40::u)+1)/\W (ar e.S (36::40::u)+1)<(e.S.length:Int) by rw[g];exact g5 (dS h.sfx))).trans ?_;simp only[cI.st,g,j,jA (dS h.sfx),AZ,AY];simp only[show¬((40:UInt8)=123) by decide,bH,aU];have bt:decide (ar e.S u<(e.S.length:Int))=true->0<=ar e.S u/\ar e.S u<(e.S.length:Int):=by
   intro i;cases u with
   |nil=>simp[iv] at i
   |cons c v=>exact g5 (dS (dS h.sfx))
  refine(bX bt).trans ?_;have hf:(bif decide (ar e.S u<(e.S.length:Int)) then decide (at' e.S (ar e.S u)=40) else false)=false:=by
   cases u with
   |nil=>simp[iv]
   |cons c v=>have:¬c=40:=λi=>hu (by simp[i]);simp[jA (dS (dS h.sfx)),this]
  simp only[hf,aU];exact gf ax
 |succ m=>
  have ax:=(bk m rfl).im (e.fI [36,40]) .paren true (by simp) (by show e.ne+1=_;omega);have j:W (ar e.S (36::40::u)+2)=ar e.S u:=kK (w:=[36,40]) h.b3 h.sfx;have g:W (ar e.S (36::40::u)+1)=ar e.S (40::u):=iQ h.b3 h.sfx;have Y:u<:+36::40::u:=(dN 40 u).trans (dN 36 _);have y:=h.fI (x:=[36,40]) Y (by grind);have hm:=a1.aI (x:=[41]) (ax u F y);have az:a9 false (m+1) (36::40::u) F=vd (aS false m) u F:=by show dy (some (aS false m)) _ _=_;unfold dy;rw[aO k,bh (by simp)];rfl
  rw[az];unfold v8 a6;refine a1.eh ?_ (bX (show 0<=W (ar e.S (36::40::u)+1)/\W (ar e.S (36::40::u)+1)<(e.S.length:Int) by rw[g];exact g5 (dS h.sfx)));simp only[cI.st,g,j,jA (dS h.sfx),AZ,AY];simp only[show¬((40:UInt8)=123) by decide,bH,aU];have bt:decide (ar e.S u<(e.S.length:Int))=true->0<=ar e.S u/\ar e.S u<(e.S.length:Int):=by
   intro i;cases u with
   |nil=>grind[iv]
   |cons c v=>exact g5 (dS (dS h.sfx))
  refine a1.eh ?_ (bX bt);have hf:(bif decide (ar e.S u<(e.S.length:Int)) then decide (at' e.S (ar e.S u)=40) else false)=false:=by
   cases u with
   |nil=>simp[iv]
   |cons c v=>have:¬c=40:=λi=>hu (by grind);simp[jA (dS (dS h.sfx)),this]
  simp only[hf,aU];have z:=M0 (p:=ar e.S (36::40::u)) (x:=[36,40]) h (by omega) (by omega);refine a1.eh ?_ (fi z);have A:(((e.fI [36,40]).st (36::40::u) F).1,(W (((e.fI [36,40]).st (36::40::u) F).2.1+2)),((e.fI [36,40]).st (36::40::u) F).2.2.1,((e.fI [36,40]).st (36::40::u) F).2.2.2.1,((e.fI [36,40]).st (36::40::u) F).2.2.2.2.1,((e.fI [36,40]).st (36::40::u) F).2.2.2.2.2)=(e.fI [36,40]).st u F:=by show(e.S,W (ar e.S (36::40::u)+2),F,e.ne+1,e.op++[[36,40]],e.kr)=_;rw[j];rfl
  rw[A];unfold vd;have b:=hm.named;unfold N;cases aw:(((aS false m).ls .paren true).aI [41]).named [36,40] u F with
  |ok a ae B=>
   rw[aw] at b;obtain⟨f,d,C⟩:=b;have l:=iL.1 (CY.1 aw);rw[AV] at l;obtain⟨o,I⟩:=zo (by simp) l;have s:an ae= .op [41]:=by grind[ec]
   obtain⟨t,D⟩:=ZE d o s;simp only;rw[A1 o s];have E:=(d.mono t);refine⟨t.trans f,E.out,?_⟩;refine(fi C).trans ((fi D).trans ?_);have G:=M1 (r:=ae.drop 1) (F:=B) (x:=[36,40]) h.xJ (show 0<=e.ne by omega) (by omega);exact(aP G).trans rfl
  |more op nd ds=>rw[aw] at b;obtain⟨st,f,d⟩:=b;exact⟨st,gf f,d⟩
  |bad q=>rw[aw] at b;obtain⟨f,st,d⟩:=b;exact⟨f,st,gf d⟩
  |deep q=>rw[aw] at b;obtain⟨p,st,f,d⟩:=b;exact⟨p,st,gf f,d⟩
structure Below(R:bj)(n:Nat):Prop where
 le:n<=30
 u1:∀m,n=m+1->M3 R m
 ls:∀m,n=m+1->xL R m
theorem ZG{R:bj}{n:Nat}(a:Below R n){e:cI}(bc:e.ne=30- (n:Int)){b:UInt8}{t:H}{F:ai}(f:gI (b::t)=true)(h:dZ e (b::t) F):
  a1 e t (a9 false n (b::t) F) (λ_=>e.st) (v8 R (e.st (b::t) F)):=by
 rw[s5] at f;cases t with
 |nil=>grind
 |cons c u=>
  simp only[hU,yf,Vs] at f;obtain⟨rfl,rfl|rfl⟩:=f
  ·cases u with
   |nil=>exact(ZF a.ls bc a.le (by simp) h).mono (dN _ _)
   |cons d v=>
    by_cases aD:d=40
    ·subst aD;exact(alZ (n:=n) h).mono ((dN _ _).trans (dN _ _))
    ·exact(ZF a.ls bc a.le (by grind) h).mono (List.suffix_cons _ _)
  ·exact(alY a.u1 bc a.le h).mono (dN _ _)
theorem ZH{R:bj}{n:Nat}(O:Below R n)(i:Bool)(g6:i=true->C9 R n){e:cI}(bc:e.ne=30- (n:Int)){b:UInt8}{t:H}{F:ai}(h:dZ e (b::t) F):
  M4 e b t F (cD (a9 false n) (if i then some (eJ (a9 false n)) else none) (b::t) F) (Cf R (e.st (b::t) F) i):=by
 have j:t<:+b::t:=dN b t;have D:=iQ h.b3 h.sfx;have v:W (ar e.S (b::t)+1)=ar e.S t:=D;unfold Cf a6;have bt:0<=(e.st (b::t) F).2.1/\(e.st (b::t) F).2.1<((e.st (b::t) F).1.length:Int):=g5 h.sfx;rw[bX bt];have E:at' (e.st (b::t) F).1 (e.st (b::t) F).2.1=b:=jA h.sfx;simp only[E,nc,rP,oF,oG];unfold cD;simp only;by_cases k:b=92
 ·subst k;simp only[bA,aL,cU];have G:min (W (ar e.S (92::t)+2)) (e.S.length:Int)=ar e.S (t.drop 1):=by
   have ax:=eY h.sfx;have P:=h.b3;cases t with
   |nil=>
    have:W (ar e.S [92]+2)=(e.S.length:Int)+1:=by grind[ar,dJ,List.length_singleton]
    grind[iv]
   |cons c u=>have Q:W (ar e.S (92::c::u)+2)=ar e.S u:=kK (w:=[92,c]) h.b3 h.sfx;grind[pz]
  refine⟨lM 1 t,h.mono ((lM 1 t).trans j),.inl ?_⟩;show some (Sum.inr (true,e.S,min (W (ar e.S (92::t)+2)) (e.S.length:Int),F,e.ne,e.op,e.kr))=_;rw[G];rfl
 rw[aO k];simp only[k,bH,aU];have z:∀(o:Option H)(x:H),(∀q,o=some q->q<:+t)->M4 e b t F (match o with|some r'=>dD.ok () r' F|none=> .more [x] x F)
   (bif decide (lL e.S o<0) then a_ (yM ((e.st (b::t) F).1,lL e.S o,(e.st (b::t) F).2.2.1,(e.st (b::t) F).2.2.2.1,(e.st (b::t) F).2.2.2.2.1,(e.st (b::t) F).2.2.2.2.2) x) (λx=>x) (λy=>Empty.elim y)
    else some (.inr (true,(e.st (b::t) F).1,lL e.S o,(e.st (b::t) F).2.2.1,(e.st (b::t) F).2.2.2.1,(e.st (b::t) F).2.2.2.2.1,(e.st (b::t) F).2.2.2.2.2))):=by
  intro o x l;cases o with
  |none=>simp only[lL,show((-1:Int)<0) from by decide,bA,aL];exact MZ rfl rfl h.xJ λ_=>rfl
  |some q=>
   have d:=l q rfl;have h0:¬ar e.S q<0:=by have:=eY (d.trans (j.trans h.sfx));grind[ar]
   simp only[lL,h0,bH,aU];exact⟨d,h.mono (d.trans j),.inl rfl⟩
 have I:EH (e.st (b::t) F).1 (W ((e.st (b::t) F).2.1+1))=some (lL e.S (hB t)):=by show EH e.S (W (ar e.S (b::t)+1))=_;rw[v];exact alU h.b3 (dS h.sfx)
 have J:xt (e.st (b::t) F).1 (W ((e.st (b::t) F).2.1+1))=some (lL e.S (gy t)):=by show xt e.S (W (ar e.S (b::t)+1))=_;rw[v];exact Zz h.b3 (dS h.sfx)
 have A:Ev (e.st (b::t) F).1 (e.st (b::t) F).2.1=some (gI (b::t)):=Zq h.b3 h.sfx
 have K:∀(m:dD Unit)(y:Option (bo ag ag)),a1 e t m (λ_=>e.st) y->M4 e b t F m (a_ y (λx=>x) λy=>some (.inr (true,y.1,y.2.1,y.2.2.1,y.2.2.2.1,y.2.2.2.2.1,y.2.2.2.2.2))):=by
  intro m y hm;cases m with
  |ok a ae S=>obtain⟨f,g,L⟩:=hm;exact⟨f,g,.inl (by rw[fi L])⟩
  |more op nd ds=>obtain⟨st,f,g⟩:=hm;exact⟨st,gf f,g⟩
  |bad q=>obtain⟨f,st,g⟩:=hm;exact⟨f,st,gf g⟩
  |deep q=>obtain⟨p,st,f,g⟩:=hm;exact⟨p,st,gf f,g⟩
 have M:M4 e b t F (dD.ok () t F) (some (.inr (false,e.st (b::t) F))):=⟨fS,h.mono j,.inr ⟨rfl,rfl,rfl⟩⟩;by_cases r:b=96
 ·subst r;simp only[bA,aL,cU,show¬((96:UInt8)=39) by decide,bH,aU];rw[I,aP rfl];unfold jx;exact z (hB t) [96] λq d=>FA _ _ q (cS _) d
 rw[aO r];simp only[r,bH,aU];cases i with
 |true=>
  by_cases B:b=39
  ·subst B;simp only[bA,aL,cU];have s:gI (39::t)=false:=by rfl
   rw[s,J,aP rfl];unfold jx;exact z (gy t) [39] λq d=>AX _ q d
  simp only[B,bH,aU];by_cases C:b=34
  ·subst C;have s:gI (34::t)=false:=by rfl
   rw[s];simp only[bA,aL,cU,fo,cH,show¬((34:UInt8)=39) by decide];exact K _ _ (alW (g6 rfl) bc h)
  simp only[C,bH,aU];rw[A,aP rfl];cases l:gI (b::t) with
  |true=>simp_all[aL,cU,ZG]
  |false=>grind
 |false=>
  have N:∀p:Prop,∀[Decidable p],(bif decide p then false else false)=false:=by simp
  simp only[N,aU];rw[A,aP rfl];cases l:gI (b::t) with
  |true=>simp_all[aL,cU,ZG]
  |false=>grind
theorem ZI{R:bj}{n:Nat}(A:Below R n)(j:Bool)(g6:j=true->C9 R n){e:cI}(bc:e.ne=30- (n:Int))(c:UInt8):
  qZ e (jy c (cD (a9 false n) (if j then some (eJ (a9 false n)) else none))) (λ_=>e.st) (λx=>LP R x c j):=by
 intro r F h;unfold jy LP;refine a1.rep (en:=λ_ r F=>e.st r F) (λk s ae d M aw=>?_) bC () r F (mj (kN (eY h.sfx) h.b3)) h;unfold Rt a6;cases ae with
 |nil=>
  have ax:decide (((e.st [] d).1.length:Int)<=(e.st [] d).2.1)=true:=by simp[cI.st,iv]
  show a1 e [] (cX _ [] (cb [] [] d)) _ (bif decide (((e.st [] d).1.length:Int)<=(e.st [] d).2.1) then _ else _);rw[ax];exact a1.Zo (k:=λy=>Empty.elim y) (f:=λx=>(x.1,x.2.1,d,x.2.2.2.1,e.op,x.2.2.2.2.2)) db.k rfl rfl
 |cons b t=>
  have ax:decide (((e.st (b::t) d).1.length:Int)<=(e.st (b::t) d).2.1)=false:=by grind[nO,ar,cI.st]
  show a1 e (b::t) (cX _ (b::t) (if b=c then _ else _)) _ (bif decide (((e.st (b::t) d).1.length:Int)<=(e.st (b::t) d).2.1) then _ else _);rw[ax];simp only[aU];refine a1.eh ?_ (bX (g5 M.sfx));have B:at' (e.st (b::t) d).1 (e.st (b::t) d).2.1=b:=jA M.sfx;have m:t<:+b::t:=dN b t;by_cases ay:b=c
  ·subst ay;rw[bh rfl];refine a1.eh ?_ (show(bif decide (((at' (e.st (b::t) d).1 (e.st (b::t) d).2.1).toNat:Int)=(b.toNat:Int)) then _ else _)=some (.inr (e.S,W (ar e.S (b::t)+1),d,e.ne,e.op,e.kr)) by grind);rw[iQ M.b3 M.sfx];exact a1.inr m (M.mono m) rfl
  ·rw[aO ay];have aD:decide (((at' (e.st (b::t) d).1 (e.st (b::t) d).2.1).toNat:Int)=(c.toNat:Int))=false:=by grind[rQ]
   refine a1.eh (y:=a_ (Cf R (e.st (b::t) d) j) (λx=>x) λz=>bif !z.1 then k (z.2.1,W (z.2.2.1+1),z.2.2.2.1,z.2.2.2.2.1,z.2.2.2.2.2.1,z.2.2.2.2.2.2) else k z.2) ?_ (by show(bif decide (((at' (e.st (b::t) d).1 (e.st (b::t) d).2.1).toNat:Int)=(c.toNat:Int)) then _ else _)=_;rw[aD];rfl)
   have az:=ZH A j g6 bc M;unfold N;cases hm:cD (a9 false n) (if j=true then some (eJ (a9 false n)) else none) (b::t) d with
   |ok a o u=>
    rw[hm] at az;obtain⟨g,i,l⟩:=az;have v:o.length<(b::t).length:=by grind
    refine a1.inl v ?_;have w:=aw () o u (g.trans m) i v;rcases l with l|⟨l,rfl,rfl⟩
    ·rw[fi l];exact w
    ·rw[fi l];show a1 e _ _ _ (k (e.S,W (ar e.S (b::o)+1),u,e.ne,e.op,e.kr));rw[iQ M.b3 M.sfx];exact w
   |more op nd ds=>rw[hm] at az;obtain⟨st,g,i⟩:=az;exact⟨st,gf g,i⟩
   |bad q=>rw[hm] at az;obtain⟨g,st,i⟩:=az;exact⟨g,st,gf i⟩
   |deep q=>rw[hm] at az;obtain⟨p,st,g,i⟩:=az;exact⟨p,st,gf g,i⟩
theorem al0{k n:Nat}(a:Below (lg k) n):C9 (lg (k+1)) n:=⟨λe bc=>ZI a false (λh=>by cases h) bc 34⟩
theorem al1{k n:Nat}(a:Below (lg k) n)(g6:C9 (lg k) n):M3 (lg (k+1)) n:=⟨λe bc=>ZI a true (λ_=>g6) bc 125⟩
structure ua(R:bj)(n:Nat):Prop extends Below R n where
 u0:C9 R n
theorem M5{t:Tok}:(jM t).1=3↔ ∃w p,t= .word w p:=by cases t<;>simp[jM]
def al2:ag->Option (bo ag ag):=λx=>bif decide (x.2.1=(x.1.length:Int)) then a_ (sK x) (λy=>(y.1,y.2.1,x.2.2.1,y.2.2.2.1,x.2.2.2.2.1,y.2.2.2.2.2)) λy=>Empty.elim y else some (.inr x)
theorem M6{R:bj}{n:Nat}(hA:ua R n){e:cI}(bc:e.ne=30- (n:Int)){r:H}{F:ai}(h:dZ e r F)(Y:bn r=some r){w:H}{p:Bool}(j:an r= .word w p):
  a1 e r (cO (a9 false n) r F) (λ_=>e.st) (mb R (e.st r F)):=by
 have e0:mb R (e.st r F)=fixF (QT R al2) bC (e.st r F):=by
  unfold mb a6;refine(fi ((lp e).some h Y)).trans ?_;have:(jM (an r)).1=3:=by rw[j];rfl
  simp only[this,bA,hE,aU];rfl
 rw[e0];unfold cO;refine a1.rep (en:=λ_ r F=>e.st r F) (λk s ae c M aw=>?_) bC () r F (mj (kN (eY h.sfx) h.b3)) h;unfold QT a6;have A:yJ (e.st ae c).1 (e.st ae c).2.1=some (c4 ae):=S7 M.b3 M.sfx;refine a1.eh ?_ (aP A);cases ae with
 |nil=>
  have ax:decide ((e.st [] c).2.1=((e.st [] c).1.length:Int))=true:=by simp[cI.st,iv]
  show a1 e [] (cX _ [] (cb [] [] c)) _ (bif decide ((e.st [] c).2.1=((e.st [] c).1.length:Int)) then _ else _);rw[ax];exact a1.Zo (k:=λy=>Empty.elim y) (f:=λx=>(x.1,x.2.1,c,x.2.2.2.1,e.op,x.2.2.2.2.2)) db.k rfl rfl
 |cons b t=>
  have j:t<:+b::t:=dN b t;simp only;by_cases l:c4 (b::t)=true
  ·rw[bh l,l];have ax:decide ((e.st (b::t) c).2.1=((e.st (b::t) c).1.length:Int))=false:=by simp[cI.st,zl]
   show a1 e (b::t) (cX _ (b::t) (aZ (.inr ()) (b::t) c)) _ (bif decide ((e.st (b::t) c).2.1=((e.st (b::t) c).1.length:Int)) then _ else _);rw[ax];exact a1.inr fS M rfl
  ·have B:c4 (b::t)=false:=by grind
   rw[aO l,B];refine a1.eh (y:=a_ (Cf R (e.st (b::t) c) true) (λx=>x) λz=>bif !z.1 then k (z.2.1,W (z.2.2.1+1),z.2.2.2.1,z.2.2.2.2.1,z.2.2.2.2.2.1,z.2.2.2.2.2.2) else k z.2) ?_ rfl;have az:=ZH hA.toBelow true (λ_=>hA.u0) bc M;unfold N;simp only[cU] at az;cases hm:cD (a9 false n) (some (eJ (a9 false n))) (b::t) c with
   |ok a m o=>
    rw[hm] at az;obtain⟨d,g,i⟩:=az;have u:m.length<(b::t).length:=by grind
    refine a1.inl u ?_;have v:=aw () m o (d.trans j) g u;rcases i with i|⟨i,rfl,rfl⟩
    ·rw[fi i];exact v
    ·rw[fi i];show a1 e _ _ _ (k (e.S,W (ar e.S (b::m)+1),o,e.ne,e.op,e.kr));rw[iQ M.b3 M.sfx];exact v
   |more op nd ds=>rw[hm] at az;obtain⟨st,d,g⟩:=az;exact⟨st,gf d,g⟩
   |bad q=>rw[hm] at az;obtain⟨d,st,g⟩:=az;exact⟨d,st,gf g⟩
   |deep q=>rw[hm] at az;obtain⟨p,st,d,g⟩:=az;exact⟨p,st,gf d,g⟩
theorem al3{α β:Type}{e:cI}{r0 r:H}{F:ai}{x:H}{cv:α->H->ai->β}{f:ag->ag}{k:Empty->Option (bo ag β)}(h:dZ e r F)(Y:bn r=some r)(hf:∀st,(f st).2.2.2.2.1=st.2.2.2.2.1\/(f st).2.2.2.2.1=e.op):
  a1 e r0 ((if an r= .eof then cb x else bE:ad α) r F) cv (a_ (lC (e.st r F)) f k):=by
 by_cases a:an r= .eof
 ·rw[bh a];exact(((tY h Y).1 a).bind hf).so
 ·rw[aO a];exact⟨h.sfx,_,gf ((tY h Y).2 a)⟩
theorem M7{α β:Type}{m:ad α}{e:cI}{r0 r:H}{F:ai}{x:H}{cv:α->H->ai->β}{f:ag->ag}{k:Empty->Option (bo ag β)}(h:dZ e r F)(Y:bn r=some r)(M:an r= .eof->m=cb x)(U:an r≠ .eof->m=bE)(hf:∀st,(f st).2.2.2.2.1=st.2.2.2.2.1\/(f st).2.2.2.2.1=e.op):
  a1 e r0 (m r F) cv (a_ (lC (e.st r F)) f k):=by
 have:=al3 (α:=α) (r0:=r0) (x:=x) (cv:=cv) (f:=f) (k:=k) h Y hf;by_cases a:an r= .eof
 ·simp_all
 simp_all
theorem Td{R:bj}{n:Nat}(hA:ua R n){e:cI}(bc:e.ne=30- (n:Int))(x:H):qZ e (jK (a9 false n) x) (λ_=>e.st) (mb R):=by
 intro r F h;unfold jK;cases Y:bn r with
 |none=>rw[dm (iN Y)];unfold mb a6;exact(((lp e).none h Y).bind λ_=> .inr rfl).so
 |some r'=>
  rw[aT (cu Y)];have f:=ef Y;have b:=h.mono f;have c:=mi _ _ _ (cS _) Y;by_cases a:∃w p,an r'= .word w p
  ·obtain⟨w,p,a⟩:=a;rw[a];have d:mb R (e.st r F)=mb R (e.st r' F):=by unfold mb a6;refine(fi ((lp e).some h Y)).trans (Eq.symm ((fi ((lp e).some b c)).trans ?_));rfl
   rw[d];exact(M6 hA bc b c a).mono f
  ·have g:decide ((jM (an r')).1=3)=false:=by grind[decide_eq_false_iff_not,M5]
   have d:mb R (e.st r F)=a_ (lC (e.st r' F)) (λx=>(x.1,x.2.1,F,x.2.2.2.1,e.op,x.2.2.2.2.2)) λy=>Empty.elim y:=by unfold mb a6;refine(fi ((lp e).some h Y)).trans ?_;simp only[g,fp,aL];rfl
   rw[d];refine M7 (x:=x) b c (λaw=>by rw[aw]) (λaw=>?_) λ_=> .inr rfl;grind
theorem FN:dl [] 0=some []:=by simp[dl]
theorem Te(q:UInt8)(a:q=0\/q=34)(c:UInt8)(u:H):dl (92::c::u) q=if c=10 then dl u q else if q=0\/c=36\/c=34\/c=92\/c=96 then(dl u q).map (c::·) else(dl (c::u) q).map (92::·):=by rw[dl];grind
theorem al4(q:UInt8)(a:q=0\/q=34):dl [92] q=none:=by rw[dl];rcases a with rfl|rfl<;>simp
theorem M8(q:UInt8)(a:q=0\/q=34)(b:UInt8)(c:b=36\/b=96)(u:H):dl (b::u) q=none:=by rw[dl.eq_def];grind
theorem ZJ(u:H):dl (34::u) 34=dl u 0:=by grind[dl.eq_def]
theorem Da(u:H):dl (34::u) 0=dl u 34:=by grind[dl.eq_def]
theorem Tf(u:H):dl (39::u) 0=dl u 39:=by grind[dl.eq_def]
theorem I_(q:UInt8)(a:q=0\/q=34)(b:UInt8)(M:b≠92)(U:b≠36)(c:b≠96)(d:b≠34)(e:q=0->b≠39)(u:H):dl (b::u) q=(dl u q).map (b::·):=by rw[dl.eq_def];grind
theorem Tg(c:UInt8)(u:H):dl (92::c::u) 34=(dl u 34).map (AS c++·):=by
 rw[Te 34 (.inr rfl)];unfold AS;by_cases h:c=36\/c=34\/c=92\/c=96
 ·grind
 ·rw[aO h];by_cases U:c=10
  ·simp_all
  ·rw[aO U,aO U,aO (by grind)];simp only[not_or] at h;rw[I_ 34 (.inr rfl) c h.2.2.1 h.1 h.2.2.2 h.2.1 (λa=>absurd a (by decide))];cases dl u 34<;>rfl
theorem M9(t:H):eQ (34::t)= .closed [] t:=by simp[eQ.eq_def]
theorem Th(b:UInt8)(a:b=36\/b=96)(t:H):eQ (b::t)= .part:=by rw[eQ.eq_def];grind
theorem Ti:eQ [92]= .part:=by rfl
theorem M_(c:UInt8)(u:H):eQ (92::c::u)=(eQ u).add (AS c):=by rfl
theorem Na(b:UInt8)(M:b≠34)(U:¬(b=36\/b=96))(a:b≠92)(t:H):eQ (b::t)=(eQ t).add [b]:=by grind[eQ.eq_def]
theorem ZK:∀(n:Nat)(t:H),t.length<=n->match eQ t with
  | .closed o r=>∃a,t=a++r/\∀v,dl (a++v) 34=(dl v 0).map (o++·)
  | .open_ o=>dl (t++[34]) 34=some o
  | .part=>dl (t++[34]) 34=none:=by
 intro n;induction n with
 |zero=>intro t h;have:t=[]:=nQ.1 (by omega);subst this;show dl [34] 34=some [];rw[ZJ,FN]
 |succ n i=>
  intro t av;cases t with
  |nil=>grind
  |cons b t=>
   have j:t.length<=n:=by grind
   have d:∀(x u p:H),u.length<=n->b::t=p++u->eQ (b::t)=(eQ u).add x->(∀v,dl (p++v) 34=(dl v 34).map (x++·))->match eQ (b::t) with
     | .closed o r=>∃a,b::t=a++r/\∀v,dl (a++v) 34=(dl v 0).map (o++·)
     | .open_ o=>dl (b::t++[34]) 34=some o
     | .part=>dl (b::t++[34]) 34=none:=by
    intro x u p hu he k aD;have:=i u hu;rw[k];cases aw:eQ u with
    |closed o r=>rw[aw] at this;obtain⟨a,rfl,U⟩:=this;refine⟨p++a,by grind,λv=>?_⟩;rw[rb,aD,U];cases dl v 0<;>simp
    |part=>grind[jL.add,List.append_assoc]
    |open_ o=>grind[jL.add,List.append_assoc]
   by_cases e:b=34
   ·subst e;rw[M9];exact⟨[34],rfl,λv=>by simp[ZJ]⟩
   by_cases az:b=36\/b=96
   ·rw[Th b az];exact M8 34 (.inr rfl) b az _
   by_cases f:b=92
   ·subst f;cases t with
    |nil=>simp[Ti,dl,Tg]
    |cons c u=>exact d (AS c) u [92,c] (by grind) rfl (M_ c u) λv=>Tg c v
   ·have g:b≠36/\b≠96:=by grind
    refine d [b] t [b] j rfl (Na b e az f t) λv=>?_;show dl (b::v) 34=_;rw[I_ 34 (.inr rfl) b f g.1 g.2 e (λl=>absurd l (by decide))];rfl
theorem Ja:∀(t:H),match gy t with
  |some r=>∃a,t=a++39::r/\a=t.take (t.length-r.length-1)/\∀v,dl (a++39::v) 39=(dl v 0).map (a++·)
  |none=>dl t 39=none
 |[]=>by show dl [] 39=none;simp[dl]
 |b::t=>by
  have c:=Ja t;unfold gy;by_cases d:b=39
  ·subst d;rw[bh rfl];refine⟨[],rfl,by simp,λv=>?_⟩;show dl (39::v) 39=_;rw[dl.eq_def];simp
  ·rw[aO d]
   have aD:∀v,dl (b::v) 39=(dl v 39).map (b::·):=by grind[dl.eq_def]
   cases Y:gy t with
   |none=>grind
   |some r=>
    rw[Y] at c;obtain⟨a,M,U,e⟩:=c;have ax:t.length=a.length+1+r.length:=by grind
    refine⟨b::a,by grind,?_,λv=>?_⟩
    ·have f:(b::t).length-r.length-1=(t.length-r.length-1)+1:=by grind
     grind
    ·show dl (b::(a++39::v)) 39=_;rw[aD,e];cases dl v 0<;>rfl
def gK:H->Option (H×H)
 |[]=>some ([],[])
 |b::t=>if c4 (b::t) then some (b::t,[]) else
  if b=92 then match t with
   |[]=>some ([],[])
   |c::u=>gK u
  else if b=39 then match h:gy t with
   |none=>none
   |some r=>gK r
  else if b=36\/b=96 then none else
  if b=34 then match h:eQ t with
   | .part=>some ([],[34])
   | .open_ o=>some ([],[34])
   | .closed o r=>gK r
  else gK t
termination_by r=>r.length
decreasing_by
 all_goals simp_wf
 ·omega
 ·have:=ze t r h;omega
 ·have:=Fl t o r h;omega
theorem ZL:∀(n:Nat)(r:H),r.length<=n->match gK r with
  |none=>dr r=none
  |some (q,a)=>∃w,r=w++q/\dr r=(dl (w++a) 0).map λd=>(d,q,a):=by
 intro n;induction n with
 |zero=>intro r h;have:r=[]:=nQ.1 (by omega);subst this;rw[gK,dr];exact⟨[],rfl,by simp[FN]⟩
 |succ n A=>
  intro r av;cases r with
  |nil=>grind
  |cons b t=>
   have B:t.length<=n:=by grind
   have go:∀(u p x:H),u.length<=n->b::t=p++u->gK (b::t)=gK u->dr (b::t)=(dr u).map (λq=>(x++q.1,q.2))->(∀v,dl (p++v) 0=(dl v 0).map (x++·))->match gK (b::t) with
     |none=>dr (b::t)=none
     |some (q,a)=>∃w,b::t=w++q/\dr (b::t)=(dl (w++a) 0).map λd=>(d,q,a):=by
    intro u p x hu he M U j;have:=A u hu;rw[M,U];cases Y:gK u with
    |none=>grind
    |some y=>obtain⟨q,a⟩:=y;rw[Y] at this;obtain⟨w,rfl,C⟩:=this;refine⟨p++w,by grind,?_⟩;rw[C,rb,j];cases dl (w++a) 0<;>rfl
   by_cases D:c4 (b::t)=true
   ·have e:gK (b::t)=some (b::t,[]):=by rw[gK.eq_def];grind
    have f:dr (b::t)=some ([],b::t,[]):=by rw[dr.eq_def];grind
    rw[e,f];exact⟨[],rfl,by simp[FN]⟩
   by_cases k:b=92
   ·subst k;cases t with
    |nil=>
     have e:gK [92]=some ([],[]):=by rw[gK.eq_def];grind
     have f:dr [92]=none:=by rw[dr.eq_def];grind
     rw[e,f];exact⟨[92],rfl,by rw[k8,al4 0 (.inl rfl)];rfl⟩
    |cons c u=>
     refine go u [92,c] (if c=10 then [] else [c]) (by grind) rfl (by rw[gK.eq_def];grind) (by rw[dr.eq_def];grind) λv=>?_;show dl (92::c::v) 0=_;rw[Te 0 (.inl rfl)];by_cases ay:c=10
     ·simp[ay]
     grind
   by_cases l:b=39
   ·subst l;have m:=Ja t;cases Y:gy t with
    |none=>
     have e:gK (39::t)=none:=by rw[gK.eq_def];grind
     have f:dr (39::t)=none:=by rw[dr.eq_def];grind
     grind
    |some r=>
     rw[Y] at m;obtain⟨g,M,U,j⟩:=m
     refine go r (39::g++[39]) g (by grind) (by grind) (by
      rw[gK.eq_def];grind) (by
      rw[dr.eq_def];grind) λv=>?_
     grind[Tf]
   by_cases az:b=36\/b=96
   ·have e:gK (b::t)=none:=by rw[gK.eq_def];grind
    have f:dr (b::t)=none:=by rw[dr.eq_def];grind
    grind
   by_cases s:b=34
   ·subst s;have i:=ZK _ t (cS _);cases Y:eQ t with
    |closed o r=>
     rw[Y] at i;obtain⟨g,M,U⟩:=i
     refine go r (34::g) o (by grind) (by grind) (by
      rw[gK.eq_def];grind) (by
      rw[dr.eq_def];grind) λv=>?_
     grind[dl,Da]
    |part=>
     rw[Y] at i;have e:gK (34::t)=some ([],[34]):=by rw[gK.eq_def];grind
     have f:dr (34::t)=none:=by rw[dr.eq_def];grind
     grind[dl,Da]
    |open_ o=>
     rw[Y] at i;have e:gK (34::t)=some ([],[34]):=by rw[gK.eq_def];grind
     have f:dr (34::t)=some (o,[],[34]):=by rw[dr.eq_def];grind
     grind[dl,Da]
   ·have z:b≠36/\b≠96:=by grind
    refine go t [b] [b] B rfl (by rw[gK.eq_def];grind) (by rw[dr.eq_def];grind) λv=>?_;show dl (b::v) 0=_;rw[I_ 0 (.inl rfl) b k z.1 z.2 s (λ_=>l)];rfl
def ub(S a:H):jL->H×Int
 | .closed o r=>(a++o,ar S r)
 |_=>([], -1)
theorem ZM(S a x:H)(q:jL):ub S a (q.add x)=ub S (a++x) q:=by cases q<;>simp[jL.add,ub]
theorem al5{S:H}(dt:S.length<=1000000):∀(n:Nat)(r a:H),r.length<n->r<:+S->a.length+r.length<=2000000->fixF (tK S λ_=>some ([],(-1))) n (a,ar S r)=some (ub S a (eQ r)):=by
 intro n;induction n with
 |zero=>omega
 |succ n e=>
  intro r a av Z o;rw[fm];generalize fixF (tK S _) n=k at e;unfold tK a6;cases r with
  |nil=>simp[iv,eQ,ub]
  |cons b t=>
   have p:t.length<n:=by grind
   have q:(b::t).length=t.length+1:=rfl;have h:=iQ dt Z;simp only[nO Z,bA,aL];rw[bX ⟨(g5 Z).1,trivial⟩];simp only[jA Z,h,oG,qW,oF,nc];by_cases f:b=34
   ·grind[M9,ub]
   simp only[f,bH,aU];by_cases az:b=36\/b=96
   ·rw[Th b az];rcases az with rfl|rfl<;>simp[ub]
   have g:b≠36/\b≠96:=by grind
   simp only[g.1,g.2,bH,aU];by_cases d:b=92
   ·subst d;simp only[bA,aL];cases t with
    |nil=>simp[iv,Ti,ub]
    |cons c u=>
     have bc:¬ar S (c::u)=(S.length:Int):=by simp[zl]
     have i:=iQ dt (dS Z);have j:(c::u).length=u.length+1:=rfl;have l:u.length<n:=by omega
     simp only[bc,bH,aU];rw[bX (g5 (dS Z))];simp only[jA (dS Z),i,p_];rw[M_,ZM];have s:=λx (v:x.length<=2)=>e u (a++x) l (dS (dS Z)) (by grind);unfold AS;by_cases ay:c=36\/c=34\/c=92\/c=96
     ·rw[bh ay];have:(bif bif bif decide (c=36) then true else decide (c=34) then true else decide (c=92) then true else decide (c=96))=true:=by grind
      rw[this];simp only[aL];grind[bX,List.length_singleton]
     ·rw[aO ay];have:(bif bif bif decide (c=36) then true else decide (c=34) then true else decide (c=92) then true else decide (c=96))=false:=by grind
      rw[this];by_cases m:c=10
      ·grind
      ·simp only[m,bH,fp,aL,aU,cH];grind[bX,List.length_cons,List.length_nil]
   ·simp only[d,bH,aU];rw[bX ⟨(g5 Z).1,trivial⟩,bX (by grind),Na b f az d,ZM];grind[dS,List.length_append,List.length_singleton]
theorem al6{S r:H}(dt:S.length<=1000000)(Z:r<:+S):ER S (ar S r) []=some (ub S [] (eQ r)):=by unfold ER a6;grind[eY,al5,mj,Nat.le_trans,List.length_nil]
def ZN(S:H)(st:Int)(F:ai)(op:bw)(j:H×Int->Option (bo ag ag))(y:Option (bo ag ag)):Option (H×H)->Prop
 |none=>∃s:ag,y=some (.inl (2,st,s))
 |some (q,b)=>q<:+S/\∃a,(a=ar S q\/q=[]/\a=(S.length:Int)+1)/\y=j (b,a)
theorem al7{I:ag}{S:H}{st aj a3:Int}{j:H×Int->Option (bo ag ag)}(dt:S.length<=1000000):∀(n:Nat)(r:H),r.length+1<n->r<:+S->
  ZN S st I.2.2.1 I.2.2.2.2.1 j (fixF (yT I S st aj a3 j) n ([],ar S r)) (gK r):=by
 intro n;induction n with
 |zero=>omega
 |succ n f=>
  intro r av Z
  have g:∀(h:H)(p:Int),n≠0->((S.length:Int)<=p/\p<=(S.length:Int)+1)->fixF (yT I S st aj a3 j) n (h,p)=j (h,p):=by
   intro h p B az
   obtain⟨m,rfl⟩:∃m,n=m+1:=⟨n-1,by omega⟩
   rw[fm];unfold yT;dsimp only;have:yJ S p=some true:=by simp_all[yJ,bA,aL,cY,a2]
   rw[this,aP rfl];rfl
  rw[fm];generalize fixF (yT I S st aj a3 j) n=k at f g;unfold yT a6;dsimp only;rw[S7 dt Z,aP rfl];have C:=eY Z;cases r with
  |nil=>rw[gK];exact⟨Z,_,.inl rfl,by rfl⟩
  |cons b t=>
   have D:(b::t).length=t.length+1:=rfl;have E:t.length+1<n:=by omega
   have y:=iQ dt Z;by_cases z:c4 (b::t)=true
   ·rw[z];have a:gK (b::t)=some (b::t,[]):=by rw[gK.eq_def];grind
    rw[a];exact⟨Z,_,.inl rfl,by simp⟩
   have A:c4 (b::t)=false:=by grind
   rw[A];simp only[fp,aL,bA];rw[bX (g5 Z)];simp only[jA Z,nc,rP,qW,oF,oG,y];by_cases i:b=92
   ·subst i;simp only[bA,aL];cases t with
    |nil=>
     have a:gK [92]=some ([],[]):=by rw[gK.eq_def];grind
     rw[a];have:W (ar S [92]+2)=(S.length:Int)+1:=by grind[ar,dJ,List.length_singleton]
     rw[this];exact⟨n_,_,.inr ⟨rfl,rfl⟩,g _ _ (by omega) (by omega)⟩
    |cons c u=>
     have a:gK (92::c::u)=gK u:=by rw[gK.eq_def];grind
     have l:W (ar S (92::c::u)+2)=ar S u:=kK (w:=[92,c]) dt Z;grind[List.length_cons,dS]
   simp only[i,bH,aU];by_cases s:b=39
   ·subst s;simp only[bA,aL];rw[Zz dt (dS Z),aP rfl];cases Y:gy t with
    |none=>
     have a:gK (39::t)=none:=by rw[gK.eq_def];grind
     rw[a];simp only[lL,show((-1:Int)<0) from by decide,bA,aL];exact⟨_,rfl⟩
    |some d=>
     have a:gK (39::t)=gK d:=by rw[gK.eq_def];grind
     rw[a];have e:=(AX _ _ Y).trans (dS Z);have h0:¬ar S d<0:=by grind[eY,ar]
     simp only[lL,h0,bH,aU];exact f d (by have:=ze t d Y;omega) e
   simp only[s,bH,aU];by_cases az:b=36\/b=96
   ·have a:gK (b::t)=none:=by rw[gK.eq_def];grind
    rw[a];rcases az with rfl|rfl
    ·simp only[bA,aL];exact⟨_,rfl⟩
    ·simp only[show¬((96:UInt8)=36) by decide,bA,bH,aL,aU];exact⟨_,rfl⟩
   have v:b≠36/\b≠96:=by grind
   simp only[v.1,v.2,bH,aU];by_cases x:b=34
   ·subst x;simp only[bA,aL];rw[al6 dt (dS Z),aP rfl]
    have F:∀q,eQ t=q->(∀o r,q≠ .closed o r)->ZN S st I.2.2.1 I.2.2.2.2.1 j (bif decide ((ub S [] q).2<0) then k ([34],(S.length:Int)) else k ([],(ub S [] q).2)) (gK (34::t)):=by
     intro q e ay;have a:gK (34::t)=some ([],[34]):=by rw[gK.eq_def];grind
     rw[a];have l:(ub S [] q).2= -1:=by cases q with
      |closed o r=>grind
      |_=>rfl
     rw[l];simp only[show((-1:Int)<0) from by decide,bA,aL];exact⟨n_,_,.inl (iv S).symm,g _ _ (by omega) (by omega)⟩
    cases Y:eQ t with
    |closed o d=>
     have a:gK (34::t)=gK d:=by rw[gK.eq_def];grind
     rw[a];have e:=(SB _ _ _ _ (cS _) Y).trans (dS Z);have h0:¬ar S d<0:=by grind[eY,ar]
     simp only[ub,h0,bH,aU];exact f d (by have:=Fl t o d Y;omega) e
    |part=>grind
    |open_ o=>grind
   ·have a:gK (b::t)=gK t:=by rw[gK.eq_def];grind
    rw[a];simp only[x,bH,aU];grind[dS]
theorem Nb(s:H)(b:UInt8):(0<=Lib.indexByte s b)↔s.contains b=true:=by
 induction s with
 |nil=>simp[Lib.indexByte]
 |cons c t a=>unfold Lib.indexByte;grind
def A3(m:Option H):H×Bool:=match m with
 |some d=>if d.contains 10 then([],false) else(d,true)
 |none=>([],false)
theorem Tj(l:H)(ax:(l.length:Int)<=1048576):yS l=some (A3 (dl l 0)):=by
 rw[alE l ax];unfold oE A3;cases dl l 0 with
 |none=>rfl
 |some s=>
  simp only[re];by_cases h:s.contains 10=true
  ·simp_all[bh,Nb]
  simp_all[aO,Nb]
theorem al8(l:H)(ax:(l.length:Int)<=200000000):Ib l=some (A3 (dl l 0)):=by
 rw[alD l ax];unfold oE A3;cases dl l 0 with
 |none=>rfl
 |some s=>
  simp only[re];by_cases h:s.contains 10=true
  ·simp_all[bh,Nb]
  simp_all[aO,Nb]
theorem ZO(r q a:H)(h:gK r=some (q,a)):a.length<=1:=by
 fun_induction gK r<;>simp_all
 all_goals grind
theorem ZP{e:cI}{r:H}{F:ai}(tabs:Bool)(h:dZ e r F)(V:F.length+r.length<e.S.length):a1 e r (gS tabs r F) (λ_=>e.st) (yU (e.st r F) tabs):=by
 unfold gS;cases Y:bn r with
 |none=>unfold yU a6;exact(((lp e).none h Y).bind λ_=> .inr rfl).so
 |some r'=>
  have u:=ef Y;have a:=h.mono u;have v:=mi _ _ _ (cS _) Y;simp only;by_cases l:∃w p,an r'= .word w p
  ·obtain⟨w,p,l⟩:=l;rw[l];simp only;unfold yU a6;refine a1.eh ?_ (fi ((lp e).some h Y));have z:(jM (an r')).1=3:=by rw[l];rfl
   simp only[z,bA,hE,aU];generalize M:(λx:H×Int=>_)=j;have f:=al7 (I:=e.st r F) (S:=e.S) (st:=ar e.S r') (aj:=e.ne) (a3:=e.kr) (j:=j) h.b3 bC r' (by have:=eY a.sfx;have:=h.b3;grind[gF]) a.sfx;have g:=ZL _ r' (cS _);show a1 e r _ _ (fixF (yT (e.st r F) e.S (ar e.S r') e.ne e.kr j) bC ([],ar e.S r'));generalize fixF (yT (e.st r F) e.S (ar e.S r') e.ne e.kr j) bC ([],ar e.S r')=y at f;cases A:gK r' with
   |none=>rw[A] at f g;obtain⟨s,rfl⟩:=f;simp only at g;rw[g];exact⟨a.sfx,s,rfl⟩
   |some x=>
    obtain⟨q,b⟩:=x;rw[A] at f g;obtain⟨c,G,aD⟩:=g;obtain⟨N,i,az,rfl⟩:=f;have B:q<:+r':=⟨c,G.symm⟩;have O:min i (e.S.length:Int)=ar e.S q:=by
     have:= @pz q e.S;rcases az with rfl|⟨rfl,rfl⟩
     ·omega
     grind[iv]
    have P:b1 e.S (ar e.S r') (ar e.S q)=c:=by rw[I4 a.sfx B,G];simp
    have W:=eY a.sfx;have J:r'.length=c.length+q.length:=by grind
    have Q:=u.length_le;have X:=h.b3;have Z:b.length<=1:=ZO _ _ _ A;have C:((c++b).length:Int)<=1048576:=by grind
    rw[<-M];have D:min i ((e.st r' F).1.length:Int)=ar e.S q:=O;simp only[D];have K:ar e.S r'<=ar e.S q/\0<=ar e.S r':=by grind[ar]
    refine a1.eh ?_ (bX ⟨K.2,K.1,pz⟩);show a1 e r _ _ (a2 ((((b1 e.S (ar e.S r') (ar e.S q)).length+b.length:Nat):Int)<=9223372036854775807) (au (yS (b1 e.S (ar e.S r') (ar e.S q)++b)) _));rw[P];refine a1.eh ?_ (bX (by omega));rw[aD];cases E:dl (c++b) 0 with
    |none=>
     have k:yS (c++b)=some ([],false):=by rw[Tj _ C,E];rfl
     refine a1.eh ?_ (aP k);simp only[Option.map_none,fp,aL];refine a1.eh ?_ (bX (λ_ m=>absurd m (by simp)));exact⟨a.sfx,_,rfl⟩
    |some d=>
     simp only[BB];by_cases n:d.contains 10=true
     ·have k:yS (c++b)=some ([],false):=by rw[Tj _ C,E];exact mL some (bh n)
      refine a1.eh ?_ (aP k);rw[bh n];simp only[fp,aL];refine a1.eh ?_ (bX (λ_ m=>absurd m (by simp)));exact⟨a.sfx,_,rfl⟩
     have k:yS (c++b)=some (d,true):=by rw[Tj _ C,E];exact mL some (aO n)
     refine a1.eh ?_ (aP k);rw[aO n];simp only[hE,aU];have bt:(bif tabs then !decide (d=[]) else false)=true->(true:Bool)=true->(0:Int)<=0/\(0:Int)<(d.length:Int):=by
      intro m _;cases d with
      |nil=>grind
      |cons x y=>simp
     refine a1.eh ?_ (bX (by grind))
     have R:(bif bif tabs then !decide (d=[]) else false then decide (((at' d 0).toNat:Int)=9) else false)=decide (tabs=true/\d.head?=some 9):=by
      cases tabs with
      |false=>simp
      |true=>
       cases d with
       |nil=>simp
       |cons x y=>simp[at',I2]
     rw[R];by_cases t:tabs=true/\d.head?=some 9
     ·rw[bh t];simp only[t,oa,bA,aL];exact⟨a.sfx,_,rfl⟩
     rw[aO t];simp only[t,bH,aU];by_cases kJ:b=[]
     ·subst kJ;simp only[ne_eq,not_true,cH,bA,hE,aU];by_cases L:q=[]
      ·subst L;rw[bh rfl];have hle:decide ((e.S.length:Int)<=i)=true:=by
        rcases az with rfl|⟨_,rfl⟩
        ·simp[iv]
        grind
       refine a1.eh ?_ (show(bif decide ((e.S.length:Int)<=i) then _ else _)=_ by rw[hle]);exact⟨_,rfl,by simp[cI.st]⟩
      ·rw[aO L];have T:i=ar e.S q:=by grind
       subst T;have hle:decide ((e.S.length:Int)<=ar e.S q)=false:=by grind[ar,zl,pz]
       refine a1.eh ?_ (show(bif decide ((e.S.length:Int)<=ar e.S q) then _ else _)=_ by rw[hle]);have wD:=h.S_;have ZR:=B.length_le;refine a1.eh ?_ (bX (show F.length+[(d,tabs)].length<=536870912 by grind));exact⟨B.trans u,⟨h.b3,N,by grind,by have:=h.ops;omega⟩,rfl⟩
     ·rw[bh kJ];simp only[kJ,bH,fp,aL];exact MZ rfl rfl h.xJ λ_=>rfl
  ·have z:decide ((jM (an r')).1=3)=false:=by grind[decide_eq_false_iff_not,M5]
   have U:yU (e.st r F) tabs=a_ (lC (e.st r' F)) (λx=>(x.1,x.2.1,F,x.2.2.2.1,e.op,x.2.2.2.2.2)) λy=>Empty.elim y:=by unfold yU a6;refine(fi ((lp e).some h Y)).trans ?_;simp only[z,fp,aL];rfl
   rw[U];cases aw:an r' with
   |word w p=>grind
   |eof=>exact(((tY a v).1 aw).bind λ_=> .inr rfl).so
   |line=>exact⟨a.sfx,_,gf ((tY a v).2 (by grind))⟩
   |op o=>exact⟨a.sfx,_,gf ((tY a v).2 (by grind))⟩
theorem ZS(b:UInt8):HS (b.toNat:Int)=some (cf b):=by
 unfold HS Cl cf;have M:((48:Int)<=(b.toNat:Int))=((48:UInt8)<=b):=by apply propext;rw[DU];grind
 have U:((b.toNat:Int)<=(57:Int))=(b<=(57:UInt8)):=by apply propext;rw[DU];grind
 grind[au]
theorem al_(w:H)(c:w.length<=1000000):HV w=some (!decide (w=[])&&w.all cf):=by
 have a:∀(n:Nat)(r:H),r.length<n->r<:+w->fixF (LB w λ_=>some (!(decide (w=[])))) n (ar w r)=some (!decide (w=[])&&r.all cf):=by
  intro n;induction n with
  |zero=>omega
  |succ n d=>
   intro r av Z;rw[fm];generalize fixF (LB w _) n=k at d;unfold LB;cases r with
   |nil=>simp[iv]
   |cons b t=>
    have e:=iQ c Z;simp only[nO Z,bA,aL];rw[bX ⟨(g5 Z).1,trivial⟩,jA Z,ZS,aP rfl,e];cases f:cf b with
    |false=>grind
    |true=>simp only[hE,aU];grind[List.length_cons,dS]
 unfold HV a6;have:=a bC w (mj c) fS;grind[I1]
theorem A4{b:UInt8}(h:cf b=true):fL b=false/\b≠10/\b≠92/\b≠39/\b≠34/\b≠96/\b≠36/\b≠35/\o0 b=false:=by
 have M:(48:UInt8)<=b/\b<=(57:UInt8):=by grind[cf]
 rw[DU,DU] at M;have a:(48:UInt8).toNat=48:=rfl;have c:(57:UInt8).toNat=57:=rfl;rw[a,c] at M;have d:b=UInt8.ofNat b.toNat:=by simp
 generalize b.toNat=n at*;subst d;have:n=48\/n=49\/n=50\/n=51\/n=52\/n=53\/n=54\/n=55\/n=56\/n=57:=by omega
 rcases this with rfl|rfl|rfl|rfl|rfl|rfl|rfl|rfl|rfl|rfl<;>decide
theorem ZT{b:UInt8}{t:H}(h:cf b=true):c4 (b::t)=false:=by obtain⟨M,U,_,_,_,_,_,_,a⟩:=A4 h;show(fL b||b==10||bu (b::t)!=[])=false;grind[mV]
theorem ama{b:UInt8}{t:H}(h:cf b=true):gI (b::t)=false:=by simp_all[A4,s5]
theorem ZU:∀(r:H),c4 (r.dropWhile cf)=true->dg r=(r.takeWhile cf,true)
 |[],_=>by decide
 |b::t,h=>by
  cases a:cf b with
  |true=>rw[Vm a] at h;obtain⟨M,U,c,d,e,f,g,i,j⟩:=A4 a;unfold dg;simp_all[ZT,aO,ama,ZU,List.takeWhile_cons_of_pos]
  |false=>simp_all[J8,dg,bh,Vq]
theorem Nd:∀(r w:H),dg r=(w,true)->c4 (r.drop w.length)=true
 |[],w,h=>by simp[dg] at h;subst h;rfl
 |b::t,w,h=>by
  unfold dg at h;split at h
  ·rename_i a;cases h;exact a
  ·split at h
   ·cases h
   ·split at h
    ·rename_i w' c;cases h;exact Nd t w' c
    ·cases h
def vp(r:H):H:=match an r with
 | .word w true=>if(!decide (w=[])&&w.all cf) then r.drop w.length else r
 |_=>r
theorem amb{r:H}(Y:bn r=some r):(fg (bu (r.dropWhile cf))=true->vp r=r.dropWhile cf)/\fg (bu (vp r))=fg (bu (r.dropWhile cf)):=by
 have f:fg []=false:=by decide
 by_cases g:c4 (r.dropWhile cf)=true
 ·have:vp r=r.dropWhile cf:=by
   cases r with
   |nil=>decide
   |cons b t=>
    cases d:cf b with
    |true=>
     obtain⟨M,U,_,_,_,_,_,_,x⟩:=A4 d;have a:an (b::t)= .word ((b::t).takeWhile cf) true:=by show(if b=10 then Tok.line else if bu (b::t)≠[] then .op (bu (b::t)) else .word (dg (b::t)).1 (dg (b::t)).2)=_;simp_all[aO,mV,ZU]
     unfold vp;rw[a];simp only;have i:¬(b::t).takeWhile cf=[]:=by simp_all
     have j:((b::t).takeWhile cf).all cf=true:=List.all_takeWhile;rw[j];simp only[i,bH,fp,Bool.and_self,cU];have:=OI (p:=cf) (l:=b::t);grind
    |false=>
     rw[J8 (by grind)] at g⊢;unfold vp;cases a:an (b::t) with
     |word w p=>
      have k:fL b=false:=by
       cases m:fL b with
       |false=>rfl
       |true=>rw[FI m] at Y;have:=(ef Y).length_le;grind
      grind[IN]
     |_=>rfl
  grind
 ·have n:c4 (r.dropWhile cf)=false:=by grind
  have o:bu (r.dropWhile cf)=[]:=by
   cases Z:r.dropWhile cf with
   |nil=>decide
   |cons c u=>grind[c4,Bool.or_eq_false_iff]
  rw[o,f];refine⟨λh=>absurd h (by decide),?_⟩;have q:vp r=r:=by
   unfold vp;cases a:an r with
   |word w p=>
    cases p with
    |true=>
     simp only;by_cases s:(!decide (w=[])&&w.all cf)=true
     ·exfalso;simp only[hU] at s;cases r with
      |nil=>grind[an]
      |cons b t=>
       have az:dg (b::t)=(w,true):=by have y:(if b=10 then Tok.line else if bu (b::t)≠[] then .op (bu (b::t)) else .word (dg (b::t)).1 (dg (b::t)).2)= .word w true:=a;grind
       obtain⟨v,e⟩:=(Ft _ _ az).1;have he:=Nd _ _ az;rw[<-e,oO] at he;rw[<-e,List.dropWhile_append_of_pos (by grind)] at n;cases v with
       |nil=>simp_all
       |cons c u=>grind[cf,ZT,List.dropWhile_cons_of_neg]
     grind
    |false=>rfl
   |_=>rfl
  rw[q];cases r with
  |nil=>simp_all
  |cons b t=>
   cases d:cf b with
   |true=>simp_all[mV,A4]
   |false=>simp_all
theorem Tm{o:H}(h:fg o=true):1<=o.length:=by
 cases o with
 |nil=>exact absurd h (by decide)
 |cons a b=>simp
theorem Jd{R:bj}{n:Nat}(hA:ua R n){e:cI}(bc:e.ne=30- (n:Int)):qZ e (dI (a9 false n)) (λb r F=>(b,e.st r F)) (Av R):=by
 intro r F h;unfold dI;cases Y:bn r with
 |none=>
  have:fX r F=Go.Eng.cb [] r F:=by grind[fX]
  rw[dm (nd:=(cV [] F []).1) (ds:=(cV [] F []).2) this];unfold Av;exact(((lp e).none h Y).bind λ_=> .inr rfl).so
 |some r'=>
  have f:=ef Y;have d:=h.mono f;have G:=mi _ _ _ (cS _) Y;obtain⟨g,xO⟩:=amb G;have I:r'.dropWhile cf<:+r':=C1;have J:vp r'<:+r':=by grind[vp,List.drop_suffix]
  have Nc:=eY d.sfx;have i:=h.b3;unfold Av a6;refine a1.eh ?_ (fi ((lp e).some h Y));have K:∀(k:Int->Option (bo ag (Bool×ag)))(y:Option (bo ag (Bool×ag))),y=(cY ((bif(decide ((jM (an r')).1=3)) then(jM (an r')).2.2 else false)=true) (HV (jM (an r')).2.1) false λ(L:Bool)=>
    (bif(bif(bif(decide ((jM (an r')).1=3)) then(jM (an r')).2.2 else false) then L else false) then
    k (W (ar e.S r'+((jM (an r')).2.1.length:Int)))
    else k (ar e.S r')))->y=k (ar e.S (vp r')):=by
   intro k y O;rw[O];unfold vp;cases P:an r' with
   |word w p=>
    cases p with
    |false=>rfl
    |true=>
     have j:=(qS P).1;have Q:w.length<=1000000:=by grind
     simp only[jM,bA,aL];rw[al_ w Q,gd,bh trivial];cases ay:(!decide (w=[])&&w.all cf) with
     |false=>simp
     |true=>obtain⟨q,rfl⟩:=j;simp only[aL,cU,oO];rw[kK i d.sfx]
   |_=>rfl
  refine a1.eh ?_ (K (λl=>au (B8 e.S l) λ(c:H)=>
   (au (HW c) λ(S:Bool)=>
   (bif(!S) then
   some (.inr (false,e.st r' F))
   else
   (bif(bif(decide (c=([60,60]:H))) then true else(decide (c=([60,60,45]:H)))) then
   (a_ (yU (e.S,(W (l+(c.length:Int))),F,e.ne,e.op,e.kr) (decide (c=([60,60,45]:H)))) (λx=>x) λ(s:ag)=>
   some (.inr (true,s)))
   else
   (a_ (mb R (e.S,(W (l+(c.length:Int))),F,e.ne,e.op,e.kr)) (λx=>x) λ(T:ag)=>
   some (.inr (true,T))))))) _ rfl)
  refine a1.eh ?_ (aP (S6 i (J.trans d.sfx)));refine a1.eh ?_ (aP (alR _));by_cases Z:fg (bu (r'.dropWhile cf))=true
  ·have t:fX r F= .ok (some (bu (r'.dropWhile cf))) ((r'.dropWhile cf).drop (bu (r'.dropWhile cf)).length) F:=by simp_all[fX,bh]
   rw[aT t,g Z];rw[Z];simp only[hE,aU];have B:=I.trans f;have u:=h.mono B;generalize r'.dropWhile cf=q at*;have j:bu q<+:q:=Sz;have M:=Tm Z;generalize aN:bu q=o at*;obtain⟨v,rfl⟩:=j;rw[oO];have C:v<:+o++v:=fR o v;have z:=u.mono C;have V:W (ar e.S (o++v)+(o.length:Int))=ar e.S v:=kK i u.sfx;simp only[V]
   have A:∀(m:ad Unit)(y:Option (bo ag ag)),a1 e v (m v F) (λ_=>e.st) y->a1 e r (N m (λ_=>aZ true) v F) (λb r F=>(b,e.st r F)) (a_ y (λx=>x) λs=>some (.inr (true,s))):=by intro m y hm;exact a1.iZ db.id (hm.mono (C.trans B)) (λ_=>rfl) λa ae aG _ X br=>⟨X,br,rfl⟩
   have D:F.length+v.length<e.S.length:=by have:=u.kb;grind
   by_cases U:o=[60,60]
   ·subst U;simp only[bA,aL,cU,show¬(([60,60]:H)=[60,60,45]) by decide,bH];exact A _ _ (ZP false z D)
   ·by_cases E:o=[60,60,45]
    ·subst E;simp only[bA,aL,cU,show¬(([60,60,45]:H)=[60,60]) by decide,bH,aU,cH];exact A _ _ (ZP true z D)
    ·simp only[U,E,bH,aU,cH];exact A _ _ (Td hA bc _ v F z)
  ·have t:fX r F= .ok none r' F:=by simp_all[fX,aO]
   have xM:fg (bu (vp r'))=false:=by grind
   rw[aT t,xM];exact⟨f,d,rfl⟩
theorem ZW{R:bj}{n:Nat}(hA:ua R n){e:cI}(bc:e.ne=30- (n:Int)):qZ e (g0 (a9 false n)) (λ_=>e.st) (HZ R):=by
 intro r F h;unfold g0 HZ a6;refine a1.rep (en:=λ_ r F=>e.st r F) (λk s ae a M aw=>?_) bC () r F (mj (kN (eY h.sfx) h.b3)) h;unfold Ri;refine a1.iZ db.k (Jd hA bc ae a M) (λ_=>rfl) λb c g d U f=>?_;cases b with
 |false=>exact a1.inr U f rfl
 |true=>
  rw[bh rfl];by_cases ax:c.length<ae.length
  ·grind[a1.inl]
  ·exact absurd (s0 (xK false n▸(qR false n).dl) d) ax
theorem mI(fr:Bool)(n:Nat):iu (a9 fr n):=xK fr n▸(qR fr n).dl
theorem a1.tst{α a β b:Type}{C:dD α->dD a}(d:db C){e:cI}{r0 r:H}{F:ai}{x:H}{k:Tok->ad α}{f:Tok->β}{gG:ag->Option (bo ag (β×ag))}{cv:a->H->ai->b}{g:ag->ag}{K:β×ag->Option (bo ag b)}
  (c:o2 e f gG) (h:dZ e r F)
  (aw:∀r',bn r=some r'->r'<:+r->dZ e r' F->bn r'=some r'->a1 e r0 (C (k (an r') r' F)) cv (K (f (an r'),e.st r' F))) (bt:∀st,(g st).2.2.2.2.1=st.2.2.2.2.1\/(g st).2.2.2.2.1=e.op:=by intro _;first|exact .inl rfl|exact .inr rfl):
  a1 e r0 (C (Go.Eng.N (bQ x) k r F)) cv (a_ (gG (e.st r F)) g K):=by
 cases Y:bn r with
 |none=>rw[dm (iN Y),d.more];exact((c.none h Y).bind bt).so
 |some r'=>rw[aT (cu Y),fi (c.some h Y)];exact aw r' Y (ef Y) (h.mono (ef Y)) (mi _ _ _ (cS _) Y)
theorem Tq{b:Tok->Bool}{n:Nat}{r:H}{F:ai}{a:Unit}{r':H}{c:ai}(h:m9 b n r F= .ok a r' c):c=F:=by
 unfold m9 at h;obtain⟨t,ae,d,M,U⟩:=b7 h;obtain⟨_,_,rfl⟩:=I9 M;split at U
 ·grind[cb]
 ·split at U
  ·cases U;rfl
  ·cases U
theorem Tr{b:Tok->Bool}{n:Nat}{r:H}{F:ai}{op:bw}{nd:H}{ds:ai}(h:m9 b n r F= .more op nd ds):op=[]:=by
 unfold m9 at h;cases Y:bn r with
 |none=>rw[dm (nd:=(cV [] F []).1) (ds:=(cV [] F []).2) (op:=[]) (by rw[iN Y];rfl)] at h;grind
 |some r'=>
  rw[aT (cu Y)] at h;split at h
  ·grind[cb]
  ·split at h<;>cases h
theorem a1.Ts{α g i β j:Type}{C:dD g->dD i}(d:db C){e:cI}{r0 r:H}{F:ai}{m:ad α}{k:α->ad g}{cv:α->H->ai->β}{cv':i->H->ai->j}{y:Option (bo ag β)}{k':β->Option (bo ag j)}{f:ag->ag}
  (h:a1 e r0 (m r F) cv y) (hm:∀op nd ds,m r F= .more op nd ds->op=[]) (hf:∀st,(f st).2.2.2.2.1=st.2.2.2.2.1\/(f st).2.2.2.2.1=e.op) (aw:∀a ae b,m r F= .ok a ae b->ae<:+r0->dZ e ae b->a1 e r0 (C (k a ae b)) cv' (k' (cv a ae b))):
  a1 e r0 (C (Go.Eng.N m k r F)) cv' (a_ y f k'):=by
 unfold Go.Eng.N;cases c:m r F with
 |ok a ae b=>rw[c] at h;obtain⟨M,U,rfl⟩:=h;exact aw a ae b c M U
 |more op nd ds=>rw[c] at h;obtain⟨st,rfl,U⟩:=h;rw[d.more];have:=hm op nd ds c;subst this;refine⟨f st,rfl,?_⟩;grind
 |bad q=>rw[c] at h;obtain⟨M,st,rfl⟩:=h;rw[d.bad];exact⟨M,f st,rfl⟩
 |deep q=>rw[c] at h;obtain⟨p,st,rfl,l⟩:=h;rw[d.deep];exact⟨p,f st,rfl,l⟩
theorem amd{α:Type}{m:ad α}{x r:H}{F:ai}{op:bw}{nd:H}{ds:ai}(h:m.aI x r F= .more op nd ds):∃a b,m r F= .more op a b:=by unfold ad.aI at h;grind
theorem a1.res{α d f:Type}{C:dD α->dD d}(i:db C){e:cI}{r0 r:H}{F:ai}{w x:H}{k:Unit->ad α}{cv:d->H->ai->f}{g:ag->ag}{K:ag->Option (bo ag f)}
  (j:0<w.length) (h:dZ e r F) (h0:r<:+r0) (aw:∀ae,ae<:+r->dZ e ae F->ae.length<r.length->a1 e r0 (C (k () ae F)) cv (K (e.st ae F))) (bt:∀st,(g st).2.2.2.2.1=st.2.2.2.2.1\/(g st).2.2.2.2.1=e.op:=by intro _;first|exact .inl rfl|exact .inr rfl):
  a1 e r0 (C (Go.Eng.N ((cF w).aI x) k r F)) cv (a_ (ow (e.st r F) w) g K):=by
 refine a1.Ts i ((a1.aI (x:=x) (I6 w h)).mono h0) (λop nd ds b=>by obtain⟨_,_,b⟩:=amd b;exact Tr b) bt λa ae l c M U=>?_;have:=Tq (iL.1 c);subst this;exact aw ae ((ao.res _).sfx (iL.1 c)) U (SD j (iL.1 c))
theorem ZX{α:Type}(m:ad α):m.aI []=m:=by
 funext r F
 unfold ad.aI;cases m r F<;>rfl
theorem a1.Nf{α a b:Type}{C:dD α->dD a}(c:db C){e:cI}{r0 r:H}{F:ai}{w:H}{k:Unit->ad α}{cv:a->H->ai->b}{g:ag->ag}{K:ag->Option (bo ag b)}
  (d:0<w.length) (h:dZ e r F) (h0:r<:+r0) (aw:∀ae,ae<:+r->dZ e ae F->ae.length<r.length->a1 e r0 (C (k () ae F)) cv (K (e.st ae F))) (bt:∀st,(g st).2.2.2.2.1=st.2.2.2.2.1\/(g st).2.2.2.2.1=e.op:=by intro _;first|exact .inl rfl|exact .inr rfl):
  a1 e r0 (C (Go.Eng.N (cF w) k r F)) cv (a_ (ow (e.st r F) w) g K):=by
 have:=a1.res (x:=[]) c d h h0 aw bt;grind[ZX]
theorem a1.ZY{e:cI}{r0 r:H}{F:ai}{w:H}{g:ag->ag}{K:ag->Option (bo ag ag)}(h:dZ e r F)(h0:r<:+r0)(d:∀ae,K (e.st ae F)=some (.inr (e.st ae F)))(bt:∀st,(g st).2.2.2.2.1=st.2.2.2.2.1\/(g st).2.2.2.2.1=e.op:=by intro _;first|exact .inl rfl|exact .inr rfl):
  a1 e r0 (cF w r F) (λ_=>e.st) (a_ (ow (e.st r F) w) g K):=by
 have:=a1.Ts (C:=λx=>x) (k:=λ_=>aZ ()) (cv':=λ_=>e.st) (f:=g) (k':=K) db.id ((I6 w h).mono h0) (λop nd ds b=>Tr b) bt λa ae i c M U=>⟨M,U,by rw[Tq c];grind⟩;grind[FM]
theorem a1.ame{e:cI}{r0 r:H}{F:ai}{w:H}{g:ag->ag}{K:ag->Option (bo ag ag)}(h:dZ e r F)(h0:r<:+r0)(d:∀ae,K (e.st ae F)=some (.inr (e.st ae F)))(bt:∀st,(g st).2.2.2.2.1=st.2.2.2.2.1\/(g st).2.2.2.2.1=e.op:=by intro _;first|exact .inl rfl|exact .inr rfl):
  a1 e r0 (ji w r F) (λ_=>e.st) (a_ (tH (e.st r F) w) g K):=by
 have:=a1.Ts (C:=λx=>x) (k:=λ_=>aZ ()) (cv':=λ_=>e.st) (f:=g) (k':=K) db.id ((MU w h).mono h0) (λop nd ds b=>Tr b) bt λa ae i c M U=>⟨M,U,by rw[Tq c];grind⟩;grind[FM]
theorem a1.ls{α d f:Type}{C:dD α->dD d}(i:db C){R:bj}{n:Nat}(bk:xL R n){e:cI}(bc:e.ne=30- (n:Int)){r0 r:H}{F:ai}{c:Ctx}{no:Bool}{x:H}{k:Nat->ad α}{cv:d->H->ai->f}{g:ag->ag}{K:Int×ag->Option (bo ag f)}
  (h:dZ e r F) (h0:r<:+r0) (aw:∀a ae b,ae<:+r->dZ e ae b->a1 e r0 (C (k a ae b)) cv (K ((a:Int),e.st ae b))) (bt:∀st,(g st).2.2.2.2.1=st.2.2.2.2.1:=by intro _;rfl) (j:c≠ .text:=by simp):
  a1 e r0 (C (Go.Eng.N (((aS false n).ls c no).aI x) k r F)) cv (a_ (R.kR (e.st r F) (C8 c) no) g K):=
 a1.iZ i ((a1.aI (x:=x) (bk.im e c no j bc r F h)).mono h0) bt λa ae b l M U=>aw a ae b (((qR false n).ls c no).sfx (iL.1 l)) U
theorem a1.lines{α c d:Type}{C:dD α->dD c}(i:db C){e:cI}{r0 r:H}{F:ai}{x:H}{k:Bool->ad α}{cv:c->H->ai->d}{g:ag->ag}{K:Bool×ag->Option (bo ag d)}
  (h:dZ e r F) (h0:r<:+r0) (aw:∀a ae b,c5 r F= .ok a ae b->ae<:+r->dZ e ae b->a1 e r0 (C (k a ae b)) cv (K (a,e.st ae b))) (bt:∀st,(g st).2.2.2.2.1=st.2.2.2.2.1:=by intro _;rfl):
  a1 e r0 (C (Go.Eng.N (c5.aI x) k r F)) cv (a_ (l9 (e.st r F)) g K):=
 a1.iZ i ((a1.aI (x:=x) (Zw h)).mono h0) bt λa ae b f M U=>aw a ae b (iL.1 f) (ao.lines.sfx (iL.1 f)) U
theorem a1.A5{α c d:Type}{C:dD α->dD c}(f:db C){e:cI}{r0 r:H}{F:ai}{k:Bool->ad α}{cv:c->H->ai->d}{g:ag->ag}{K:Bool×ag->Option (bo ag d)}
  (h:dZ e r F) (h0:r<:+r0) (aw:∀a ae b,c5 r F= .ok a ae b->ae<:+r->dZ e ae b->a1 e r0 (C (k a ae b)) cv (K (a,e.st ae b))) (bt:∀st,(g st).2.2.2.2.1=st.2.2.2.2.1:=by intro _;rfl):
  a1 e r0 (C (Go.Eng.N c5 k r F)) cv (a_ (l9 (e.st r F)) g K):=by
 have:=a1.lines (x:=[]) f h h0 aw bt;grind[ZX]
theorem Ng{R:bj}{n:Nat}(hA:ua R n){e:cI}(bc:e.ne=30- (n:Int)):qZ e (ho false (a9 false n)) (λ_=>e.st) (Cu R):=by
 intro r F h;unfold ho Cu;refine a1.rep (en:=λ_ r F=>e.st r F) (λk s ae m M aw=>?_) bC () r F (mj (kN (eY h.sfx) h.b3)) h;unfold Rk a6;refine a1.iZ db.k (Jd hA bc ae m M) (λ_=>rfl) λb q j u U l=>?_;cases b with
 |true=>have ax:=s0 (mI false n) u;rw[bh rfl];exact a1.inl ax (aw () q j U l ax)
 |false=>
  rw[aO (by simp)];dsimp only[cond_false];refine a1.tst db.k (lp e) l λa Y d f g=>?_;by_cases c:∃w p,an a= .word w p
  ·obtain⟨w,p,c⟩:=c;rw[c];refine a1.iZ db.k ((M6 hA bc f g c).mono (d.trans U)) (λ_=>rfl) λ_ B C v D E=>?_;have i:a≠[]:=by rintro rfl;grind[an]
   have x:c4 a=false:=by
    cases a with
    |nil=>grind
    |cons b t=>
     refine IN ⟨w,p,c⟩ ?_;cases z:fL b with
     |false=>rfl
     |true=>rw[FI z] at g;have:=(ef g).length_le;grind
   have ax:=wu (mI false n) i x v;grind[a1.inl]
  ·have A:decide ((jM (an a)).1=3)=false:=by grind[decide_eq_false_iff_not,M5]
   refine a1.eh (y:=some (.inr (e.st a j))) ?_ (by simp only[A,fp,aL];rfl);cases G:an a with
   |word w p=>grind
   |op o=>simp only[fo,false_and,cH];exact a1.inr (d.trans U) f rfl
   |_=>exact a1.inr (d.trans U) f rfl
theorem FP(a b:UInt8):((a.toNat:Int)<=(b.toNat:Int))↔a<=b:=by simp[DU]
theorem Tt(b:UInt8):((97:Int)<=(b.toNat:Int))↔97<=b:=FP 97 b
theorem Tu(b:UInt8):((b.toNat:Int)<=122)↔b<=122:=FP b 122
theorem ZZ(b:UInt8):((65:Int)<=(b.toNat:Int))↔65<=b:=FP 65 b
theorem Z0(b:UInt8):((b.toNat:Int)<=90)↔b<=90:=FP b 90
theorem Tv(b:UInt8):((48:Int)<=(b.toNat:Int))↔48<=b:=FP 48 b
theorem Tw(b:UInt8):((b.toNat:Int)<=57)↔b<=57:=FP b 57
theorem Z1(b:UInt8):((b.toNat:Int)=95)↔b=95:=rQ (c:=95)
theorem amg(b:UInt8):Lx (b.toNat:Int)=some (decide (97<=b)&&decide (b<=122)):=by simp[Lx,Cl,au,Tt,Tu]
theorem amh(b:UInt8):Ly (b.toNat:Int)=some (decide (65<=b)&&decide (b<=90)):=by simp[Ly,Cl,au,ZZ,Z0]
def FQ(first:Bool)(b:UInt8):Bool:=zd b||(!first&&cf b)
theorem Nh{w:H}(c:w.length<=1000000){j:Unit->Option Bool}{k:Int->Option Bool}{b:UInt8}{t:H}(Z:b::t<:+w):
  Cm w j k (ar w (b::t))=(bif FQ (decide (b::t=w)) b then k (ar w t) else some false)/\CF w j k (ar w (b::t))=(bif FQ (decide (b::t=w)) b then k (ar w t) else some false):=by
 have h0:decide (ar w (b::t)=0)=decide (b::t=w):=by
  by_cases h:b::t=w
  ·grind[I1]
  ·have:ar w (b::t)≠0:=by intro U;refine h (Z.eq_of_length ?_);grind[ar]
   grind
 have a:=iQ c Z;constructor
 ·unfold Cm;simp only[nO Z,bA,aL];rw[bX ⟨(g5 Z).1,trivial⟩];simp only[jA Z,amg,amh,ZS,gd,h0,a,Z1];rw[aP rfl];unfold FQ zd;grind
 ·unfold CF;have bt:=g5 Z;have d:0<=ar w (b::t)/\ar w (b::t)<(w.length:Int):=bt;simp only[nO Z,bA,aL,bt.1,oa,implies_true];simp only[a2,cU,jA Z,h0,a,Z1,Tt,Tu,ZZ,Z0,Tv,Tw];unfold FQ zd cf;grind
theorem ami{w:H}(a:w.length<=1000000){j:Unit->Option Bool}(h:j ()=some (!decide (w=[]))):∀(n:Nat)(r:H),r.length<n->r<:+w->r≠w->fixF (Cm w j) n (ar w r)=some (r.all λc=>zd c||cf c)/\fixF (CF w j) n (ar w r)=some (r.all λc=>zd c||cf c):=by
 intro n;induction n with
 |zero=>omega
 |succ n d=>
  intro r av Z bc;rw[fm,fm];cases r with
  |nil=>grind[Cm,iv,CF]
  |cons b t=>
   have e:t≠w:=by grind
   obtain⟨f,g⟩:=d t (by grind) (dS Z) e;rw[(Nh a Z).1,(Nh a Z).2,f,g];grind[decide,FQ,zd,cf]
theorem zr(w:H)(a:w.length<=1000000):Cn w=some (my w)/\CG w=some (my w):=by
 have e:=I1 w
 have d:∀j:Unit->Option Bool,j ()=some (!decide (w=[]))->fixF (Cm w j) bC 0=some (my w)/\fixF (CF w j) bC 0=some (my w):=by
  intro j f
  obtain⟨n,av⟩:∃n,bC=n+1:=⟨bC-1,by rw[gF]⟩
  rw[av,fm,fm];cases w with
  |nil=>grind[Cm,my,CF]
  |cons b t=>
   have bc:t≠b::t:=by simp
   have c:t.length<n:=by grind[mj,List.length_cons,gF]
   obtain⟨g,h⟩:=ami a f n t c (dN b t) bc;rw[<-e,(Nh a fS).1,(Nh a fS).2,g,h];grind[FQ,my,zd]
 constructor
 ·unfold Cn a6;exact(d (λ_=>some (!(decide (w=[])))) rfl).1
 ·unfold CG a6;refine(d (λ_=>some (decide (0<(w.length:Int)))) ?_).2;cases w<;>simp
section
variable{R:bj}{n:Nat}(bk:xL R n){e:cI}(bc:e.ne=30- (n:Int))
include bk bc
theorem Tx(x:H):qZ e (iX (aS false n) x) (λ_=>e.st) (uS R):=by intro r F h;unfold iX uS;refine a1.res (C:=λx=>x) db.id (by decide) h fS λae s1 b _=>?_;refine a1.ls (c:= .done) (C:=λx=>x) db.id bk bc b s1 λa f g s2 d=>?_;exact a1.ZY d (s2.trans s1) λi=>rfl
theorem amk:qZ e (qI (aS false n)) (λ_=>e.st) (EO R):=by
 intro r F h;unfold qI EO a6;refine a1.rep (en:=λ_ r F=>e.st r F) (λk s ae Q M aw=>?_) bC () r F (mj (kN (eY h.sfx) h.b3)) h;unfold Q1;refine a1.ls (c:= .oZ) db.k bk bc M fS λa S T s2 G=>?_;refine a1.Nf db.k (by decide) G s2 λU C I V=>?_;refine a1.ls (c:= .qH) db.k bk bc I (C.trans s2) λa W D J K=>?_;dsimp only;refine a1.tst db.k (rR e _) K λd X L j O=>?_;have i:=L.trans (J.trans (C.trans s2));dsimp only;by_cases he:cE (an d) ir=true
 ·rw[bh he];have t:cE (an d) [101,108,105,102]=true:=he;rw[t];simp only[aU,hE];refine a1.Nf db.k (by decide) j i λu l v w=>?_;have ax:u.length<ae.length:=by grind
  exact a1.inl ax (aw () u D (l.trans i) v ax)
 ·rw[aO he];have t:cE (an d) [101,108,105,102]=false:=GI.2 he;rw[t];simp only[aL,fp];have E:∀(f:Unit->ad (Unit⊕Unit))(g:H)(b:ai),g<:+ae->dZ e g b->a1 e ae (cX f ae (N (cF eb) (λ_=>aZ (.inr ())) g b)) (λ_=>e.st)
    (a_ (ow (e.st g b) [102,105]) (λx=>(x.1,x.2.1,b,x.2.2.2.1,e.op,x.2.2.2.2.2)) λm=>some (.inr (m.1,m.2.1,b,m.2.2.2.1,e.op,m.2.2.2.2.2))):=by
   intro f g b o y;refine a1.Nf db.k (by decide) y o λY z A P=>?_;exact a1.inr (z.trans o) A rfl
  have p:=(rR e [101,108,115,101]).some j O;by_cases q:cE (an d) gi=true
  ·rw[bh q];have B:cE (an d) [101,108,115,101]=true:=q;rw[B] at p;refine a1.eh ?_ (fi p);dsimp only[cond_true];refine a1.Nf db.k (by decide) j i λu l v w=>?_;refine a1.ls (c:= .ku) db.k bk bc v (l.trans i) λa g b o y=>?_;exact E _ g b (o.trans (l.trans i)) y
  ·rw[aO q];have B:cE (an d) [101,108,115,101]=false:=GI.2 q;rw[B] at p;refine a1.eh ?_ (fi p);dsimp only[cond_false];exact E _ d D i j
end
theorem zt{r:H}(Y:bn r=some r){w:H}{p:Bool}(a:an r= .word w p):r≠[]/\c4 r=false:=by
 cases r with
 |nil=>grind[an]
 |cons b t=>
  refine⟨by simp,IN ⟨w,p,a⟩ ?_⟩;cases c:fL b with
  |false=>rfl
  |true=>rw[FI c] at Y;have:=(ef Y).length_le;grind
theorem amo{α i j:Type}{C:dD α->dD i}(f:db C){e:cI}{r0 r:H}{F:ai}{x:H}{k:ad α}{cv:i->H->ai->j}{g:ag->ag}{K:ag->Option (bo ag j)}(h:dZ e r F)
  (aw:∀ae,ae<:+r->dZ e ae F->a1 e r0 (C (k ae F)) cv (K (e.st ae F))) (bt:∀st,(g st).2.2.2.2.1=st.2.2.2.2.1\/(g st).2.2.2.2.1=e.op:=by intro _;first|exact .inl rfl|exact .inr rfl):
  a1 e r0 (C (Go.Eng.N (bQ x) (λt=>match t with
   | .eof=>cb x
   | .word w true=>if my w then Go.Eng.N (b5 w.length) λ_=>k else bE
   |_=>bE) r F)) cv (a_ (tJ (e.st r F)) g K):=by
 cases Y:bn r with
 |none=>rw[dm (iN Y),f.more];unfold tJ;exact((((lp e).none h Y).bind λ_=> .inl rfl).bind bt).so
 |some r'=>
  rw[aT (cu Y)];have l:=ef Y;have b:=h.mono l;have n:=mi _ _ _ (cS _) Y;have hm:=(lp e).some h Y
  have c:∀(m:ad α),(an r'= .eof->m=cb x)->(an r'≠ .eof->m=bE)->tJ (e.st r F)=a_ (lC (e.st r' F)) (λx=>x) (λy=>Empty.elim y)->a1 e r0 (C (m r' F)) cv (a_ (tJ (e.st r F)) g K):=by
   intro m M U u;rw[u];by_cases a:an r'= .eof
   ·rw[M a];unfold cb;rw[f.more];exact((((tY b n).1 a).bind λ_=> .inl rfl).bind bt).so
   ·rw[U a];unfold bE;rw[f.bad];exact⟨b.sfx,_,gf (gf ((tY b n).2 a))⟩
  cases a:an r' with
  |word w p=>
   cases p with
   |true=>
    have s:w.length<=1000000:=by have:=(qS a).1.length_le;have:=eY b.sfx;have:=h.b3;omega
    have v:=(qS a).1;by_cases av:my w=true
    ·simp only;rw[bh av];have z:tJ (e.st r F)=some (.inr (e.st (r'.drop w.length) F)):=by unfold tJ a6;refine(fi hm).trans ?_;rw[a];simp only[jM,bA,hE,aU];rw[(zr w s).1,gd,bh trivial,av];show some (Sum.inr (e.S,W (ar e.S r'+(w.length:Int)),F,e.ne,e.op,e.kr))=_;obtain⟨q,rfl⟩:=v;rw[oO,kK h.b3 b.sfx];rfl
     rw[z,fi rfl];exact aw _ ((lM _ _).trans l) (b.mono (lM _ _))
    ·simp only;rw[aO av];refine c bE (λd=>by grind) (λ_=>rfl) ?_;unfold tJ a6;refine(fi hm).trans ?_;rw[a];simp only[jM,bA,hE,aU];have A:my w=false:=by grind
     rw[(zr w s).1,gd,bh trivial,A];rfl
   |false=>refine c bE (λd=>by grind) (λ_=>rfl) ?_;unfold tJ a6;refine(fi hm).trans ?_;rw[a];rfl
  |eof=>refine c (cb x) (λ_=>rfl) (λd=>absurd a d) ?_;unfold tJ a6;refine(fi hm).trans ?_;rw[a];rfl
  |line=>refine c bE (λd=>by grind) (λ_=>rfl) ?_;unfold tJ a6;refine(fi hm).trans ?_;rw[a];rfl
  |op o=>refine c bE (λd=>by grind) (λ_=>rfl) ?_;unfold tJ a6;refine(fi hm).trans ?_;rw[a];rfl
noncomputable def Dd:ag->Option (bo ag ag):=λy=>a_ (ou y [59]) (λx=>(x.1,x.2.1,y.2.2.1,x.2.2.2.1,y.2.2.2.2.1,x.2.2.2.2.2)) λz=>bif z.1 then some (.inr (z.2.1,W (z.2.2.1+1),y.2.2.1,z.2.2.2.2.1,y.2.2.2.2.1,z.2.2.2.2.2.2)) else
 a_ (mD (z.2.1,z.2.2.1,y.2.2.1,z.2.2.2.2.1,y.2.2.2.2.1,z.2.2.2.2.2.2)) (λx=>(x.1,x.2.1,y.2.2.1,x.2.2.2.1,y.2.2.2.2.1,x.2.2.2.2.2)) λu=>bif !(decide (u.1.1=1)) then a_ (lC (u.2.1,u.2.2.1,y.2.2.1,u.2.2.2.2.1,y.2.2.2.2.1,u.2.2.2.2.2.2)) (λx=>(x.1,x.2.1,y.2.2.1,x.2.2.2.1,y.2.2.2.2.1,x.2.2.2.2.2)) (λy=>Empty.elim y)
  else some (.inr (u.2.1,u.2.2.1,y.2.2.1,u.2.2.2.2.1,y.2.2.2.2.1,u.2.2.2.2.2.2))
section
variable{R:bj}{n:Nat}(hA:ua R n){e:cI}(bc:e.ne=30- (n:Int))
include hA bc
theorem amp:
  ∀(r:H)(F:ai),dZ e r F->a1 e r (pt (a9 false n) r F) (λ_=>e.st) (fixF (wc R Dd) bC (e.st r F)):=by
 intro r F h;unfold pt;refine a1.rep (en:=λ_ r F=>e.st r F) (λk s ae c M aw=>?_) bC () r F (mj (kN (eY h.sfx) h.b3)) h;unfold wc Dd;refine a1.tst db.k (lp e) M λa Y s2 b g=>?_;dsimp only;by_cases i:∃w p,an a= .word w p
 ·obtain⟨w,p,i⟩:=i;rw[i];simp only[jM,bA,aL];refine a1.iZ db.k ((M6 hA bc b g i).mono s2) (λ_=>rfl) λ_ B K C L O=>?_;obtain⟨D,E⟩:=zt g i;have ax:B.length<ae.length:=by have:=wu (mI false n) D E C;grind
  grind[a1.inl]
 ·have G:decide ((jM (an a)).1=3)=false:=by grind[decide_eq_false_iff_not,M5]
  simp only[G,aU];refine a1.eh ?_ (fi ((sq e [59]).some b g));dsimp only;have az:=(lp e).some b g;have l:∀(m:ad (Unit⊕Unit))(f:Unit->ad (Unit⊕Unit)),an a≠ .line->an a≠ .op [59]->(an a= .eof->m=cb [])->(an a≠ .eof->m=bE)->a1 e ae (cX f ae (m a c)) (λ_=>e.st)
    (a_ (mD (e.st a c)) (λx=>(x.1,x.2.1,c,x.2.2.2.1,e.op,x.2.2.2.2.2)) λu=>bif !(decide (u.1.1=1)) then a_ (lC (u.2.1,u.2.2.1,c,u.2.2.2.2.1,e.op,u.2.2.2.2.2.2)) (λx=>(x.1,x.2.1,c,x.2.2.2.1,e.op,x.2.2.2.2.2)) (λy=>Empty.elim y) else some (.inr (u.2.1,u.2.2.1,c,u.2.2.2.2.1,e.op,u.2.2.2.2.2.2))):=by
   intro m f P Q I J;refine a1.eh ?_ (fi az);have:decide ((jM (an a)).1=1)=false:=by
    rw[GN];cases d:an a with
    |line=>grind
    |_=>simp[jM]
   simp only[this,fp,aL];by_cases d:an a= .eof
   ·rw[I d];exact(((tY b g).1 d).bind λ_=> .inr rfl).so
   ·rw[J d];exact⟨b.sfx,_,gf ((tY b g).2 d)⟩
  cases d:an a with
  |word w p=>grind
  |eof=>
   have:=l (cb []) (λ_=>N (bQ []) λt=>match t with
    | .eof=>cb []
    | .word _ _=>N (cO (a9 false n)) λ_=>aZ (.inl ())
    | .line=>aZ (.inr ())
    | .op o=>if o=[59] then N (b5 1) λ_=>aZ (.inr ()) else bE) (by grind) (by grind) (λ_=>rfl) (λv=>absurd d v)
   exact this
  |line=>
   refine a1.eh (y:=some (.inr (e.st a c))) ?_ ?_
   ·exact a1.inr s2 b rfl
   ·have j:((Tok.line==Tok.op [59]):Bool)=false:=by simp
    rw[j];simp only[aU];refine(fi az).trans ?_;rw[d];rfl
  |op o=>
   by_cases z:o=[59]
   ·subst z;simp only[beq_self_eq_true,aL,cU];obtain⟨q,rfl⟩:=(h4 d).2.1;have A:q<:+[59]++q:=fR [59] q;refine a1.eh (y:=some (.inr (e.st q c))) ?_ ?_
    ·exact a1.inr (A.trans s2) (b.mono A) rfl
    ·show some (Sum.inr (e.S,W (ar e.S ([59]++q)+1),c,e.ne,e.op,e.kr))=_;have:=kK (w:=[59]) (t:=q) b.b3 b.sfx;rw[show(([59]:H).length:Int)=1 from rfl] at this;rw[this];rfl
   ·have j:((Tok.op o==Tok.op [59]):Bool)=false:=by grind
    rw[j];simp only[aU,aO z];exact l bE _ (by grind) (by grind) (λv=>by grind) (λ_=>rfl)
end
theorem o3{σ τ α β b:Type}{m:Option (bo σ α)}{f:σ->τ}{k:α->Option (bo τ β)}{K:β->Option (bo τ b)}:a_ (a_ m f k) (λx=>x) K=a_ m f (λa=>a_ (k a) (λx=>x) K):=by unfold a_;grind
theorem Z3{R:bj}{nh:ag->Option (bo ag ag)}{K:ag->Option (bo ag ag)}:∀(n:Nat)(x:ag),fixF (wc R λy=>a_ (nh y) (λx=>x) K) n x=a_ (fixF (wc R nh) n x) (λx=>x) K
 |0,x=>rfl
 |n+1,x=>by
  rw[fm,fm];have a:=Z3 (R:=R) (nh:=nh) (K:=K) n;generalize fixF (wc R λy=>a_ (nh y) (λx=>x) K) n=b at a;generalize fixF (wc R nh) n=c at a;unfold wc;dsimp only;rw[o3];congr 1
  funext y
  cases decide (y.1.1=3) with
  |true=>simp_all[aL,o3]
  |false=>rfl
theorem a1.Z4{α β b:Type}{m:ad α}{x:H}{k:α->ad β}{e:cI}{r0 r:H}{F:ai}{cv:β->H->ai->b}{y:Option (bo ag b)}(h:a1 e r0 (Go.Eng.N m k r F) cv y):a1 e r0 (Go.Eng.N (m.aI x) k r F) cv y:=by
 unfold Go.Eng.N ad.aI at*;cases hm:m r F with
 |ok a ae c=>grind
 |more op nd ds=>rw[hm] at h;exact h
 |bad q=>grind
 |deep q=>rw[hm] at h;exact h
theorem amq(K:ag->Option (bo ag ag))(y:ag):a_ (Dd y) (λx=>x) K=a_ (ou y [59]) (λx=>(x.1,x.2.1,y.2.2.1,x.2.2.2.1,y.2.2.2.2.1,x.2.2.2.2.2)) λz=>bif z.1 then K (z.2.1,W (z.2.2.1+1),y.2.2.1,z.2.2.2.2.1,y.2.2.2.2.1,z.2.2.2.2.2.2) else
   a_ (mD (z.2.1,z.2.2.1,y.2.2.1,z.2.2.2.2.1,y.2.2.2.2.1,z.2.2.2.2.2.2)) (λx=>(x.1,x.2.1,y.2.2.1,x.2.2.2.1,y.2.2.2.2.1,x.2.2.2.2.2)) λu=>bif !(decide (u.1.1=1)) then a_ (lC (u.2.1,u.2.2.1,y.2.2.1,u.2.2.2.2.1,y.2.2.2.2.1,u.2.2.2.2.2.2)) (λx=>(x.1,x.2.1,y.2.2.1,x.2.2.2.1,y.2.2.2.2.1,x.2.2.2.2.2)) (λy=>Empty.elim y)
    else K (u.2.1,u.2.2.1,y.2.2.1,u.2.2.2.2.1,y.2.2.2.2.1,u.2.2.2.2.2.2):=by
 unfold Dd;rw[o3];congr 1
 funext z
 cases z.1 with
 |true=>rfl
 |false=>
  simp only[aU];rw[o3];congr 1
  funext u
  cases decide (u.1.1=1) with
  |true=>rfl
  |false=>simp only[fp,aL];grind[o3,Empty.elim]
theorem amr{R:bj}{n:Nat}(hA:ua R n)(bk:xL R n){e:cI}(bc:e.ne=30- (n:Int)):qZ e (pv (aS false n) (a9 false n)) (λ_=>e.st) (EM R):=by
 intro r F h;unfold EM;refine amo (C:=λx=>x) db.id h λae s1 E=>?_;refine a1.Z4 ?_;rw[k2];refine a1.tst (C:=λx=>x) db.id (sq e [59]) E λk V s2 g X=>?_;dsimp only;rw[zi];by_cases l:an k= .op [59]
 ·rw[bh l];have m:((an k==Tok.op [59]):Bool)=true:=by grind
  rw[m];simp only[aL];obtain⟨q,rfl⟩:=(h4 l).2.1;have o:q<:+[59]++q:=fR [59] q;have G:W (ar e.S ([59]++q)+1)=ar e.S q:=kK (w:=[59]) g.b3 g.sfx;rw[k2];show a1 e r (N (N c5 λ_=>aZ ()) (λ_=>iX (aS false n) eB) q F) _ (a_ (l9 (e.S,W (ar e.S ([59]++q)+1),F,e.ne,e.op,e.kr)) _ _);rw[G,k2];refine a1.A5 (C:=λx=>x) db.id (g.mono o) (o.trans (s2.trans s1)) λb p c _ s t=>?_;dsimp only;refine a1.eh ((Tx bk bc _ p c t).mono (s.trans (o.trans (s2.trans s1)))) ?_;generalize uS R (e.st p c)=y;unfold a_;grind
 ·rw[aO l];have m:((an k==Tok.op [59]):Bool)=false:=by grind
  rw[m];simp only[aU];rw[k2];refine a1.A5 (C:=λx=>x) db.id g (s2.trans s1) λb p c _ s t=>?_;dsimp only;unfold a6
  have A:∀a d,a<:+r->dZ e a d->a1 e r (iX (aS false n) eB a d) (λ_=>e.st) (a_ (uS R (e.st a d)) (λx=>x) λy=>some (.inr y)):=by intro a d i f;refine a1.eh ((Tx bk bc _ a d f).mono i) ?_;generalize uS R (e.st a d)=y;unfold a_;grind
  have B:=s.trans (s2.trans s1);rw[k2];refine a1.tst (C:=λx=>x) db.id (rR e _) t λa Y i f H=>?_;dsimp only;rw[zi];by_cases j:cE (an a) fW=true
  ·rw[bh j];have u:cE (an a) [105,110]=true:=j;rw[u];simp only[aL];have v:an a= .word [105,110] true:=by grind[cE]
   have I:ow (e.st a c) [105,110]=some (.inr (e.st (a.drop 2) c)):=by
    have:=I6 [105,110] f;have J:cF [105,110] a c= .ok () (a.drop 2) c:=by unfold cF m9;rw[aT (cu H),v];rfl
    rw[J] at this;exact this.2.2
   refine a1.eh ?_ (fi I);have aD:a.drop 2<:+a:=lM _ _;rw[k2];show a1 e r (N (N (pt (a9 false n)) λ_=>N c5 λ_=>aZ ()) (λ_=>iX (aS false n) eB) (a.drop 2) c) _ _;rw[k2]
   have L:∀(nh K:ag->Option (bo ag ag))(x:ag),(∀y,nh y=a_ (Dd y) (λx=>x) K)->fixF (wc R nh) bC x=a_ (fixF (wc R Dd) bC x) (λx=>x) K:=by intro nh K x M;have:nh=λy=>a_ (Dd y) (λx=>x) K:=funext M;grind[Z3]
   refine a1.eh ?_ (L _ (λz=>a_ (l9 z) (λx=>x) λy=>a_ (uS R y.2) (λx=>x) λy=>some (.inr y)) _ (λy=>(amq (λz=>a_ (l9 z) (λx=>x) λy=>a_ (uS R y.2) (λx=>x) λy=>some (.inr y)) y).symm));have O:=aD.trans (i.trans B);refine a1.iZ (C:=λx=>x) db.id ((amp hA bc (a.drop 2) c (f.mono aD)).mono O) (λ_=>rfl) λ_ Z lK _ D P=>?_;rw[k2];refine a1.A5 (C:=λx=>x) db.id P D λb Q S _ T U=>?_;exact A Q S (T.trans D) U
  ·rw[aO j];have u:cE (an a) [105,110]=false:=GI.2 j;rw[u];simp only[aU];exact A a c (i.trans B) f
theorem Z5{nh K:ag->Option (bo ag ag)}{L:(ag->Option (bo ag ag))->(ag->Option (bo ag ag))->ag->Option (bo ag ag)}
  (bk:∀(a b:ag->Option (bo ag ag)),(∀x,a x=a_ (b x) (λx=>x) K)->∀x,L (λy=>a_ (nh y) (λx=>x) K) a x=a_ (L nh b x) (λx=>x) K):
  ∀(n:Nat)(x:ag),fixF (L λy=>a_ (nh y) (λx=>x) K) n x=a_ (fixF (L nh) n x) (λx=>x) K
 |0,x=>rfl
 |n+1,x=>by rw[fm,fm];exact bk _ _ (Z5 bk n) x
noncomputable def zu:ag->Option (bo ag ag):=λy=>a_ (tH y [41]) (λx=>(x.1,x.2.1,y.2.2.1,x.2.2.2.1,y.2.2.2.2.1,x.2.2.2.2.2)) λz=>some (.inr (z.1,z.2.1,y.2.2.1,z.2.2.2.1,y.2.2.2.2.1,z.2.2.2.2.2))
section
variable{R:bj}{n:Nat}(hA:ua R n){e:cI}(bc:e.ne=30- (n:Int))
include hA bc
theorem amt{α s u:Type}{C:dD α->dD s}(f:db C){r0 r:H}{F:ai}{x y:H}{k:Unit->ad α}{cv:s->H->ai->u}{K:ag->Option (bo ag u)}(h:dZ e r F)(h0:r<:+r0)
  (aw:∀ae j,ae<:+r->ae.length<r.length->dZ e ae j->a1 e r0 (C (k () ae j)) cv (K (e.st ae j))):
  a1 e r0 (C (Go.Eng.N (bQ x) (λt=>match t with
   | .eof=>cb x
   | .word _ _=>Go.Eng.N ((cO (a9 false n)).aI y) k
   |_=>bE) r F)) cv (a_ (mb R (e.st r F)) (λx=>x) K):=by
 have b:=(Td hA bc x r F h).mono h0;unfold jK at b;unfold Go.Eng.N at b⊢;cases az:bQ x r F with
 |ok t ae j=>
  rw[az] at b;simp only at b⊢;obtain⟨m,rfl,rfl⟩:=I9 az;have v:=mi _ _ _ (cS _) m;cases l:an ae with
  |word w p=>
   rw[l] at b;simp only at b⊢;unfold ad.aI;cases i:cO (a9 false n) ae j with
   |ok a z A=>rw[i] at b;obtain⟨c,d,B⟩:=b;rw[fi B];obtain⟨D,E⟩:=zt v l;have G:=wu (mI false n) D E i;have I:=(ef m).length_le;exact aw z A (((ao.word (mI false n)).sfx i).trans (ef m)) (by omega) d
   |more op nd ds=>rw[i] at b;obtain⟨st,c,d⟩:=b;simp only;rw[f.more];exact⟨st,gf c,d⟩
   |bad q=>rw[i] at b;obtain⟨g,st,c⟩:=b;simp only;rw[f.bad];exact⟨g,st,gf c⟩
   |deep q=>rw[i] at b;obtain⟨p,st,c,d⟩:=b;simp only;rw[f.deep];exact⟨p,st,gf c,d⟩
  |eof=>rw[l] at b;unfold cb at b⊢;simp only at b⊢;obtain⟨st,c,d⟩:=b;rw[f.more];exact⟨st,gf c,d⟩
  |line=>rw[l] at b;unfold bE at b⊢;obtain⟨g,st,c⟩:=b;simp only;rw[f.bad];exact⟨g,st,gf c⟩
  |op o=>rw[l] at b;unfold bE at b⊢;obtain⟨g,st,c⟩:=b;simp only;rw[f.bad];exact⟨g,st,gf c⟩
 |more op nd ds=>rw[az] at b;obtain⟨st,c,d⟩:=b;simp only;rw[f.more];exact⟨st,gf c,d⟩
 |bad q=>rw[az] at b;obtain⟨g,st,c⟩:=b;simp only;rw[f.bad];exact⟨g,st,gf c⟩
 |deep q=>rw[az] at b;obtain⟨p,st,c,d⟩:=b;simp only;rw[f.deep];exact⟨p,st,gf c,d⟩
theorem amu:qZ e (lj (a9 false n)) (λ_=>e.st) (λx=>a_ (mb R x) (λx=>x) λy=>fixF (wb R zu) bC y):=by
 have j:∀(bz:Nat)(r:H)(F:ai),r.length<bz->dZ e r F->a1 e r (lj (a9 false n) r F) (λ_=>e.st) (a_ (mb R (e.st r F)) (λx=>x) λy=>fixF (wb R zu) bz y):=by
  intro bz;induction bz with
  |zero=>omega
  |succ bz v=>
   intro r F Q h;unfold lj;rw[cK];refine amt hA bc db.k h fS λae b s1 S D=>?_;rw[fm];generalize aw:fixF (wb R zu) bz=k at v;unfold wb zu;refine a1.tst db.k (sq e [124]) D λa T s2 g A=>?_;dsimp only;have B:=s2.trans s1;have l:∀(m:ad (Unit⊕Unit))(f:Unit->ad (Unit⊕Unit))(c:Bool),an a≠ .op [41]->c=false->(an a= .eof->m=cb [41])->(an a≠ .eof->m=bE)->a1 e r (cX f r (m a b)) (λ_=>e.st)
     (bif c then a_ (mb R (e.S,W (ar e.S a+1),b,e.ne,e.op,e.kr)) (λx=>x) (λy=>k y) else a_ (tH (e.st a b) [41]) (λx=>(x.1,x.2.1,b,x.2.2.2.1,e.op,x.2.2.2.2.2)) λz=>some (.inr (z.1,z.2.1,b,z.2.2.2.1,e.op,z.2.2.2.2.2))):=by
    intro m f c E G I J;subst G;simp only[aU];have i:=MU [41] g;have bc:∀q,an a=q->q≠ .op [41]:=λq s=>s▸E
    unfold ji m9 at i;rw[aT (cu A)] at i;by_cases d:an a= .eof
    ·rw[I d];rw[bh d] at i;obtain⟨st,u,V⟩:=i;exact⟨_,gf u,by simp⟩
    ·rw[J d];rw[aO d,aO (by grind)] at i;obtain⟨K,st,u⟩:=i;exact⟨K,_,gf u⟩
   cases d:an a with
   |word w p=>exact l bE _ _ (by grind) (by simp) (λt=>by grind) (λ_=>rfl)
   |eof=>exact l (cb [41]) _ _ (by grind) (by simp) (λ_=>rfl) (λt=>absurd d t)
   |line=>exact l bE _ _ (by grind) (by simp) (λt=>by grind) (λ_=>rfl)
   |op o=>
    by_cases M:o=[124]
    ·subst M;simp only[beq_self_eq_true,aL,cU];obtain⟨q,rfl⟩:=(h4 d).2.1;have s:q<:+[124]++q:=fR [124] q;have L:W (ar e.S ([124]++q)+1)=ar e.S q:=kK (w:=[124]) g.b3 g.sfx;have ax:q.length<r.length:=by grind
     have bg:=v q b (by omega) (g.mono s);show a1 e r (cX _ r (N (b5 1) (λ_=>aZ (.inl ())) ([124]++q) b)) _ (a_ (mb R (e.S,W (ar e.S ([124]++q)+1),b,e.ne,e.op,e.kr)) _ _);rw[L];exact a1.inl ax (bg.mono (s.trans B))
    ·by_cases U:o=[41]
     ·subst U;have O:((Tok.op [41]==Tok.op [124]):Bool)=false:=by simp
      rw[O];simp only[aU,cU,show¬(([41]:H)=[124]) by decide,cH];obtain⟨C,P⟩:=ZE g A d;refine a1.eh (y:=some (.inr (e.st (a.drop 1) b))) ?_ ?_
      ·exact a1.inr (C.trans B) (g.mono C) rfl
      ·exact(fi P).trans rfl
     ·simp only[aO M,aO U];exact l bE _ _ (by grind) (by grind) (λt=>by grind) (λ_=>rfl)
 intro r F h;exact j bC r F (mj (kN (eY h.sfx) h.b3)) h
end
def Jg(l:dK)(D:ad Unit):ad (Unit⊕Unit):=N (bQ []) λt=>if t= .eof then cb [] else if cE t eK then N (b5 4) λ_=>aZ (.inr ()) else
 N ((if t= .op [40] then b5 1 else aZ ())) λ_=>N (lj D) λ_=>N (l.ls .item true) λ_=>N (bQ []) λt=>if t= .op [59,59] then N (b5 2) λ_=>aZ (.inl ()) else aZ (.inl ())
def vq(l:dK)(D:ad Unit):Unit->ad (Unit⊕Unit):=λ_=>N c5 λ_=>Jg l D
theorem amv(l:dK)(D:ad Unit):nJ l D=ck (vq l D) ():=rfl
noncomputable def Jh:ag->Option (bo ag ag):=λy=>a_ (ow y eK) (λx=>(x.1,x.2.1,y.2.2.1,x.2.2.2.1,y.2.2.2.2.1,x.2.2.2.2.2)) λz=>some (.inr (z.1,z.2.1,y.2.2.1,z.2.2.2.1,y.2.2.2.2.1,z.2.2.2.2.2))
theorem Ni{r:H}{F:ai}(Y:bn r=some r)(a:an r≠ .line):c5 r F= .ok false r F:=by rw[tW,cK,s3 Y a];rfl
theorem A7(fr:Bool)(n:Nat):∃da,(aS fr n).ls=λc no=>n4 da c no:=by
 cases n with
 |zero=>exact⟨_,rfl⟩
 |succ n=>exact⟨_,rfl⟩
theorem amw{e:cI}{v:H}{F:ai}{w:H}(h:dZ e v F)(Y:bn v=some v)(b:an v= .word w true):cF w v F= .ok () (v.drop w.length) F/\v.drop w.length<:+v/\ow (e.st v F) w=some (.inr (e.st (v.drop w.length) F)):=by
 have a:cF w v F= .ok () (v.drop w.length) F:=by unfold cF m9;rw[aT (cu Y),b];simp[cE,b5]
 have:=I6 w h;rw[a] at this;exact⟨a,this.1,this.2.2⟩
theorem De{σ α:Type}(y:Option (bo σ α)):a_ y (λx=>x) (λa=>some (.inr a))=y:=by unfold a_;grind
section
variable{R:bj}{n:Nat}(hA:ua R n)(bk:xL R n){e:cI}(bc:e.ne=30- (n:Int))
include hA bk bc
theorem amx:∀(bz:Nat)(r0 r:H)(F:ai),r<:+r0->r.length<bz->dZ e r F->a1 e r0 (cX (vq (aS false n) (a9 false n)) r0 (Jg (aS false n) (a9 false n) r F)) (λ_=>e.st) (fixF (HN R Jh) bz (e.st r F)):=by
 intro bz;induction bz with
 |zero=>omega
 |succ bz P=>
  intro r0 r F C fh h;rw[fm];generalize fixF (HN R Jh) bz=k at P;unfold HN a6;unfold Jg;refine a1.tst db.k (rR e _) h λae qM s1 l D=>?_;dsimp only;have Q:=s1.trans C
  have S:∀(c:H)(v:ai),c<:+r0->dZ e c v->bn c=some c->cE (an c) eK=true->a1 e r0 (cX (vq (aS false n) (a9 false n)) r0 (N (b5 4) (λ_=>aZ (.inr ())) c v)) (λ_=>e.st) (Jh (e.st c v)):=by
   intro c v s2 A i2 al;have vo:an c= .word eK true:=by grind[cE]
   obtain⟨_,T,aR⟩:=amw A i2 vo;unfold Jh;rw[fi aR];exact a1.inr (T.trans s2) (A.mono T) rfl
  by_cases he:cE (an ae) eK=true
  ·have av:an ae≠ .eof:=by intro o;rw[o] at he;cases he
   have E:cE (an ae) [101,115,97,99]=true:=he;rw[aO av,bh he,E];simp only[hE,aU];exact S ae F Q l D he
  have E:cE (an ae) [101,115,97,99]=false:=GI.2 he;rw[E,aO he];simp only[fp,aL];refine a1.eh ?_ (fi ((sq e [40]).some l D));dsimp only;have V:∀c,c<:+ae->dZ e c F->a1 e r0 (cX (vq (aS false n) (a9 false n)) r0 (N (lj (a9 false n)) (λ_=>N ((aS false n).ls .item true) λ_=>N (bQ []) λt=>if t= .op [59,59] then N (b5 2) λ_=>aZ (.inl ()) else aZ (.inl ())) c F)) (λ_=>e.st)
    (a_ (mb R (e.st c F)) (λx=>x) λy=>fixF (wb R (λy=>a_ (zu y) (λx=>x) λCi=>(a_ (R.kR Ci 8 true) (λx=>x) λ(Xi,i)=>(a_ (ou i ([59,59]:H)) (λx=>(x.1,x.2.1,i.2.2.1,x.2.2.2.1,i.2.2.2.2.1,x.2.2.2.2.2)) λ(Cj,f)=>(bif(!Cj) then Jh (f.1,f.2.1,i.2.2.1,f.2.2.2.1,i.2.2.2.2.1,f.2.2.2.2.2) else(a_ (l9 (f.1,(W (f.2.1+2)),i.2.2.1,f.2.2.2.1,i.2.2.2.2.1,f.2.2.2.2.2)) (λx=>x) λ(Xj,m)=>k (m.1,m.2.1,m.2.2.1,m.2.2.2.1,m.2.2.2.2.1,m.2.2.2.2.2))))))) bC y):=by
   intro c s2 A
   have aW:∀(K:ag->Option (bo ag ag)),(a_ (mb R (e.st c F)) (λx=>x) λy=>fixF (wb R (λy=>a_ (zu y) (λx=>x) K)) bC y)=a_ (a_ (mb R (e.st c F)) (λx=>x) λy=>fixF (wb R zu) bC y) (λx=>x) K:=by
    intro K;rw[o3];congr 1
    funext y
    refine Z5 (L:=wb R) (λbS bV aw x=>?_) bC y;unfold wb;dsimp only;rw[o3];congr 1
    funext z
    cases z.1 with
    |true=>simp_all[aL,o3]
    |false=>rfl
   rw[aW];refine a1.iZ db.k ((amu hA bc c F A).mono (s2.trans Q)) (λ_=>rfl) λ_ B b8 Nj i_ e7=>?_;have Fw:=SG (mI false n) Nj;have atA:B.length<r.length:=by grind
   have atB:B.length<r0.length:=by grind
   obtain⟨da,eR⟩:=A7 false n;have Wa:=bk.im e .item true (by simp) bc B b8 e7;refine a1.iZ db.k (Wa.mono i_) (λ_=>rfl) λa d g G X p=>?_;dsimp only;have atC:=((qR false n).ls .item true).sfx G;rw[eR] at G;obtain⟨s,t4⟩:=zo (by simp) G;rw[aT (cu s)];refine a1.eh ?_ (fi ((sq e [59,59]).some p s));dsimp only;by_cases U:an d= .op [59,59]
   ·rw[bh U];have j:((an d==Tok.op [59,59]):Bool)=true:=by grind
    rw[j];simp only[hE,aU];obtain⟨q,rfl⟩:=(h4 U).2.1;have u:q<:+[59,59]++q:=fR [59,59] q;have I:W (ar e.S ([59,59]++q)+2)=ar e.S q:=kK (w:=[59,59]) p.b3 p.sfx;have atD:q.length<B.length:=by grind
    show a1 e r0 (cX _ r0 (.ok (.inl ()) q g)) _ (a_ (l9 (e.S,W (ar e.S ([59,59]++q)+2),g,e.ne,e.op,e.kr)) _ _);rw[I];have J:=p.mono u;have M:cX (vq (aS false n) (a9 false n)) r0 (.ok (.inl ()) q g)=ck (vq (aS false n) (a9 false n)) () q g:=by show(if q.length<r0.length then _ else _)=_;grind
    rw[M,cK];refine a1.mono ?_ ((u.trans X));unfold vq;refine a1.A5 db.k J fS λb eW lK _ n7 mY=>?_;exact P q eW lK n7 (by grind) mY
   ·rw[aO U];have j:((an d==Tok.op [59,59]):Bool)=false:=by grind
    rw[j];simp only[fp,aL];have Y:cE (an d) eK=true:=by grind[ec]
    have Z:an d≠ .line/\an d≠ .eof:=by grind[an,eK,cE]
    have n8:d.length<r0.length:=by grind
    have M:cX (vq (aS false n) (a9 false n)) r0 (aZ (.inl ()) d g)=cX (vq (aS false n) (a9 false n)) d (N (b5 4) (λ_=>aZ (.inr ())) d g):=by show(if d.length<r0.length then _ else _)=_;rw[bh n8,cK];congr 1;show N c5 (λ_=>Jg (aS false n) (a9 false n)) d g=_;rw[aT (Ni s Z.1)];unfold Jg;rw[aT (cu s),aO Z.2,bh Y]
    rw[M];have:=S d g X p s Y;exact this
  by_cases az:an ae= .op [40]
  ·have j:((an ae==Tok.op [40]):Bool)=true:=by grind
   rw[bh az,aO (by grind),j];simp only[cond_true];obtain⟨q,rfl⟩:=(h4 az).2.1;have u:q<:+[40]++q:=List.suffix_append [40] q;have I:W (ar e.S ([40]++q)+1)=ar e.S q:=kK (w:=[40]) l.b3 l.sfx;have:=V q u (l.mono u);show a1 e r0 (cX _ r0 (N (lj (a9 false n)) _ q F)) _ (a_ (mb R (e.S,W (ar e.S ([40]++q)+1),F,e.ne,e.op,e.kr)) _ _);rw[I];refine a1.eh this ?_;congr 1
   funext y
   congr 2
   funext z
   unfold zu;rw[o3];rfl
  ·have j:((an ae==Tok.op [40]):Bool)=false:=by grind
   rw[j];simp only[aU];have O:=V ae fS l;have bm:∀(y eM:Option (bo ag ag)),eM=y->a1 e r0 (cX (vq (aS false n) (a9 false n)) r0 (N (lj (a9 false n)) (λ_=>N ((aS false n).ls .item true) λ_=>N (bQ []) λt=>if t= .op [59,59] then N (b5 2) λ_=>aZ (.inl ()) else aZ (.inl ())) ae F)) (λ_=>e.st) y->
     a1 e r0 (cX (vq (aS false n) (a9 false n)) r0 ((if an ae= .eof then cb [] else N (if an ae= .op [40] then b5 1 else aZ ()) λ_=>N (lj (a9 false n)) λ_=>N ((aS false n).ls .item true) λ_=>N (bQ []) λt=>if t= .op [59,59] then N (b5 2) λ_=>aZ (.inl ()) else aZ (.inl ()):ad (Unit⊕Unit)) ae F)) (λ_=>e.st) eM:=by
    rintro y _ rfl o;by_cases hf:an ae= .eof
    ·rw[bh hf]
     have az:∃nd ds,lj (a9 false n) ae F= .more [] nd ds:=by unfold lj;rw[cK,aT (cu D),hf];exact⟨_,_,rfl⟩
     obtain⟨nd,ds,az⟩:=az;rw[dm az] at o;exact o
    ·rw[aO hf,aO az];exact o
   refine bm _ _ ?_ O;congr 1
   funext y
   congr 2
   funext z
   unfold zu;rw[o3];rfl
theorem amB:qZ e (qJ (aS false n) (a9 false n)) (λ_=>e.st) (EK R):=by
 intro r F h;unfold EK;have a:=Td hA bc ([120,32]++fW++[10]++eK) r F h;unfold qJ;unfold jK at a;cases az:bQ ([120,32]++fW++[10]++eK) r F with
 |more op nd ds=>rw[dm az] at a⊢;obtain⟨st,c,g⟩:=a;exact⟨st,gf c,g⟩
 |bad q=>rw[hp az] at a⊢;obtain⟨f,st,c⟩:=a;exact⟨f,st,gf c⟩
 |deep q=>unfold bQ at az;split at az<;>cases az
 |ok t ae J=>
  rw[aT az] at a⊢;obtain⟨y,rfl,rfl⟩:=I9 az;have s1:=ef y;cases j:an ae with
  |eof=>rw[j] at a;obtain⟨st,c,g⟩:=a;exact⟨st,gf c,g⟩
  |line=>rw[j] at a;obtain⟨f,st,c⟩:=a;exact⟨f,st,gf c⟩
  |op o=>rw[j] at a;obtain⟨f,st,c⟩:=a;exact⟨f,st,gf c⟩
  |word w p=>
   rw[j] at a;dsimp only at a⊢;refine a1.Z4 ?_;rw[k2];refine a1.iZ (C:=λx=>x) db.id a (λ_=>rfl) λ_ K L _ s2 z=>?_;rw[k2];refine a1.A5 (C:=λx=>x) db.id z s2 λb u k _ A l=>?_;dsimp only;rw[k2];have B:=A.trans s2;cases i:bn u with
   |none=>rw[dm (iN i)];unfold ow;exact((((rR e _).none l i).bind λ_=> .inl rfl).bind λ_=> .inr rfl).so
   |some d=>
    rw[aT (cu i)];have v:=ef i;have D:=l.mono v;have O:=mi _ _ _ (cS _) i;have Z:=I6 [105,110] l;have he:cF [105,110] u k=(if an d= .eof then cb [] else if cE (an d) [105,110] then b5 2 else bE:ad Unit) d k:=by unfold cF m9;grind[aT,cu]
    rw[he] at Z;by_cases M:an d= .eof
    ·rw[bh M] at Z⊢;obtain⟨st,c,g⟩:=Z;exact⟨_,gf c,by simp;rfl⟩
    rw[aO M] at Z⊢;rw[show N (aZ (an d)) (λt=>if cE t fW=true then N (b5 2) λ_=>(nJ (aS false n) (a9 false n)).aI (10::eK) else bE)=(if cE (an d) fW=true then N (b5 2) λ_=>(nJ (aS false n) (a9 false n)).aI (10::eK) else bE) from rfl];by_cases U:cE (an d) fW=true
    ·have m:cE (an d) [105,110]=true:=U;rw[bh m] at Z;rw[bh U];obtain⟨c,g,E⟩:=Z;refine a1.eh ?_ (fi E);have aD:d.drop 2<:+d:=lM _ _;show a1 e r ((nJ (aS false n) (a9 false n)).aI (10::eK) (d.drop 2) k) _ _;refine a1.aI ?_;rw[amv,cK];refine a1.mono ?_ (aD.trans (v.trans B));unfold vq;refine a1.A5 db.k (D.mono aD) fS λb G H _ I s=>?_;have:=amx hA bk bc bC (d.drop 2) G H I (mj (kN (eY s.sfx) s.b3)) s;exact this
    ·have m:¬cE (an d) [105,110]=true:=U;rw[aO m] at Z;rw[aO U];obtain⟨f,st,c⟩:=Z;exact⟨f,_,gf c⟩
end
theorem Z_{t:Tok}(h:gz t=true):(jM t).2.1=lJ t/\0<(lJ t).length:=by
 cases t with
 |eof=>cases h
 |line=>cases h
 |op o=>
  have:o=[40]:=by grind[gz]
  subst this;decide
 |word w p=>
  cases p with
  |false=>cases h
  |true=>
   refine⟨rfl,?_⟩;cases w with
   |nil=>exact absurd h (by decide)
   |cons a b=>simp[lJ]
def Df(l:dK)(t:Tok):ad Unit:=match t with
 | .op _=>N ((l.ls .paren false).aI [41]) λ_=>ji [41]
 | .word w _=>
  if w=[123] then N ((l.ls .p7 false).aI [10,125]) λ_=>cF [125]
  else if w=jW then qI l
  else if w=mz then pv l l.dl
  else if w=oA then qJ l l.dl
  else N ((l.ls .p8 false).aI eB) λ_=>iX l eB
 |_=>bE
theorem aaa{l:dK}{t:Tok}(h:gz t=true)(r:H)(F:ai):gA l t r F=Df l t (r.drop (lJ t).length) F:=by
 cases t with
 |eof=>cases h
 |line=>cases h
 |op o=>rfl
 |word w p=>rfl
theorem aab{R:bj}{n:Nat}(av:n<=30)(hA:∀m,n=m+1->ua R m/\xL R m){e:cI}(bc:e.ne=30- (n:Int)){r:H}{F:ai}(h:dZ e r F)(Y:bn r=some r)(ay:gz (an r)=true):
  a1 e r ((aS false n).cp (an r) r F) (λ_=>e.st) (Cp R (e.st r F)):=by
 obtain⟨J,Tn⟩:=Z_ ay;cases n with
 |zero=>
  obtain⟨st,ax⟩:=Ta (e:=e) (r:=r) (F:=F) (p:=ar e.S r) (x:=lJ (an r)) (by omega);refine⟨ar e.S r,st,?_,?_⟩
  ·unfold Cp a6;refine(fi ((lp e).some h Y)).trans ?_;dsimp only;rw[J];exact gf ax
  ·cases r with
   |nil=>exact absurd ay (by decide)
   |cons b t=>exact(g5 h.sfx).2
 |succ m=>
  obtain⟨v,j⟩:=hA m rfl;have Q:lJ (an r)<+:r:=by
   cases d:an r with
   |eof=>rw[d] at ay;cases ay
   |line=>rw[d] at ay;cases ay
   |op o=>
    rw[d] at ay;have:o=[40]:=by grind[gz]
    subst this;exact(h4 d).2.1
   |word w p=>
    rw[d] at ay;cases p with
    |false=>cases ay
    |true=>exact(qS d).1
  unfold Cp a6;refine a1.eh ?_ (fi ((lp e).some h Y));dsimp only;rw[J];generalize A:lJ (an r)=x at*;have S:=M0 (p:=ar e.S r) (x:=x) h (by omega) (by omega);refine a1.eh ?_ (fi S);show a1 e r ((gA (aS false m) (an r)).named (lJ (an r)) r F) _ _;rw[A];obtain⟨q,rfl⟩:=Q;have f:q<:+x++q:=fR x q;have ax:q.length<(x++q).length:=by grind
  have T:W (ar e.S (x++q)+(x.length:Int))=ar e.S q:=kK h.b3 h.sfx;have u:=h.fI (x:=x) f ax;have V:(((e.fI x).st (x++q) F).1,(W (((e.fI x).st (x++q) F).2.1+(x.length:Int))),((e.fI x).st (x++q) F).2.2.1,((e.fI x).st (x++q) F).2.2.2.1,((e.fI x).st (x++q) F).2.2.2.2.1,((e.fI x).st (x++q) F).2.2.2.2.2)=(e.fI x).st q F:=by show(e.S,W (ar e.S (x++q)+(x.length:Int)),F,e.ne+1,e.op++[x],e.kr)=_;rw[T];rfl
  rw[V];have k:(e.fI x).ne=30- (m:Int):=by show e.ne+1=_;omega
  have X:gA (aS false m) (an (x++q)) (x++q) F=Df (aS false m) (an (x++q)) q F:=by grind[aaa,List.drop_left]
  have g:∀(y:Option (bo ag ag))(z:Option (bo ag ag)),a1 (e.fI x) (x++q) (Df (aS false m) (an (x++q)) q F) (λ_=>(e.fI x).st) y->z=a_ y (λx=>x) (λy=>au (v5 y) λy=>some (.inr y))->a1 e (x++q) ((gA (aS false m) (an (x++q))).named x (x++q) F) (λ_=>e.st) z:=by
   rintro y _ K rfl;rw[<-X] at K;have i:=K.named;cases aw:((gA (aS false m) (an (x++q))).named x) (x++q) F with
   |ok a ae Z=>rw[aw] at i;obtain⟨l,s,i3⟩:=i;refine⟨l,s.out,?_⟩;rw[fi i3];exact(aP (M1 (r:=ae) (F:=Z) (x:=x) h.xJ (show 0<=e.ne by omega) (by omega))).trans rfl
   |more op nd ds=>rw[aw] at i;obtain⟨st,l,s⟩:=i;exact⟨st,gf l,s⟩
   |bad dd=>rw[aw] at i;obtain⟨l,st,s⟩:=i;exact⟨l,st,gf s⟩
   |deep dd=>rw[aw] at i;obtain⟨p,st,l,s⟩:=i;exact⟨p,st,gf l,s⟩
  have L:(aS false m).dl=a9 false m:=xK false m;cases d:an (x++q) with
  |eof=>rw[d] at ay;cases ay
  |line=>rw[d] at ay;cases ay
  |op o=>
   rw[d] at ay g A;have D:x=[40]:=A.symm;subst D;simp only[bA,aL];refine g (a_ (R.kR ((e.fI [40]).st q F) 1 false) (λx=>x) λy=>a_ (tH y.2 [41]) (λx=>(x.1,x.2.1,y.2.2.2.1,x.2.2.2.1,y.2.2.2.2.2.1,x.2.2.2.2.2)) λz=>some (.inr (z.1,z.2.1,y.2.2.2.1,z.2.2.2.1,y.2.2.2.2.2.1,z.2.2.2.2.2))) _ ?_ ?_
   ·refine a1.ls (c:= .paren) (C:=λx=>x) db.id j k u f λa E G s2 B=>?_;exact a1.ame B (s2.trans f) λcy=>rfl
   ·rw[o3];congr 1
    funext y
    rw[o3];rfl
  |word w p=>
   rw[d] at ay g A;have D:x=w:=A.symm;subst D;have I:oB x=true:=by
    cases p with
    |true=>exact ay
    |false=>cases ay
   have gB:decide (x=[40])=false:=by rw[GN];rintro rfl;exact absurd I (by decide)
   simp only[gB,aU];by_cases M:x=[123]
   ·subst M;simp only[bA,aL];refine g (a_ (R.kR ((e.fI [123]).st q F) 2 false) (λx=>x) λy=>a_ (ow y.2 [125]) (λx=>(x.1,x.2.1,y.2.2.2.1,x.2.2.2.1,y.2.2.2.2.2.1,x.2.2.2.2.2)) λz=>some (.inr (z.1,z.2.1,y.2.2.2.1,z.2.2.2.1,y.2.2.2.2.2.1,z.2.2.2.2.2))) _ ?_ ?_
    ·refine a1.ls (c:= .p7) (C:=λx=>x) db.id j k u f λa E G s2 B=>?_;exact a1.ZY B (s2.trans f) λcy=>rfl
    ·rw[o3];congr 1
     funext y
     rw[o3];rfl
   simp only[M,bH,aU];by_cases U:x=jW
   ·subst U;rw[show decide (jW=[105,102])=true from rfl];simp only[aL];refine g (EO R ((e.fI jW).st q F)) _ ((amk j k q F u).mono f) ?_;rfl
   have uC:decide (x=[105,102])=false:=GN.2 U;rw[uC];simp only[aU];by_cases O:x=mz
   ·subst O;rw[show decide (mz=[102,111,114])=true from rfl];simp only[aL];refine g (EM R ((e.fI mz).st q F)) _ ?_ rfl;have:=(amr v j k q F u).mono f;rw[<-L] at this;exact this
   have BF:decide (x=[102,111,114])=false:=GN.2 O;rw[BF];simp only[aU];by_cases P:x=oA
   ·subst P;rw[show decide (oA=[99,97,115,101])=true from rfl];simp only[aL];refine g (EK R ((e.fI oA).st q F)) _ ?_ rfl;have:=(amB v j k q F u).mono f;rw[<-L] at this;exact this
   have WC:decide (x=[99,97,115,101])=false:=GN.2 P;rw[WC];simp only[aU];refine g (a_ (R.kR ((e.fI x).st q F) 6 false) (λx=>x) λy=>a_ (uS R y.2) (λx=>x) λz=>some (.inr z)) _ ?_ ?_
   ·have:Df (aS false m) (.word x p)=N (((aS false m).ls .p8 false).aI eB) λ_=>iX (aS false m) eB:=by simp_all[Df,aO]
    rw[this];refine a1.ls (c:= .p8) (C:=λx=>x) db.id j k u f λa E G s2 B=>?_;dsimp only;rw[De];exact(Tx j k _ E G B).mono (s2.trans f)
   ·rw[o3];congr 1
    funext y
    rw[o3];rfl
def wF(R:bj)(n:Nat):Prop:=∀m,m<=n->ua R m
theorem wF.at{R:bj}{n:Nat}(h:wF R n):ua R n:=h n (cS _)
theorem wF.low{R:bj}{n:Nat}(h:wF R n):∀m,n=m+1->ua R m/\xL R m:=λm hm=>⟨h m (by omega),(h n (cS _)).ls m hm⟩
def jY(fr:Bool):Nat->Option dK
 |0=>none
 |n+1=>some (aS fr n)
theorem aad(fr:Bool)(n:Nat):(aS fr n).cp=qK (jY fr n):=by cases n<;>rfl
theorem FV(fr:Bool)(n:Nat):a9 fr n=dy (jY fr n):=by cases n<;>rfl
theorem aae{R:bj}{e:cI}{u:H}{F:ai}(bc:29<=e.ne/\e.ne<=30)(h:dZ e (40::u) F):∃(p:Int)(st:ag),Cv R (e.st (40::u) F)=some (.inl (2,p,st))/\p<e.S.length:=by
 have:∃st,Cv R (e.st (40::u) F)=some (.inl (2,ar e.S (40::u),st)):=by
  unfold Cv a6;have a:W (e.ne+2)=e.ne+2:=dJ (by omega) (by omega);have b:decide (30<W ((e.st (40::u) F).2.2.2.1+2))=true:=by show decide (30<W (e.ne+2))=true;rw[a,decide_eq_true_iff];omega
  rw[b];simp only[aL];exact⟨_,rfl⟩
 obtain⟨st,M⟩:=this;exact⟨_,st,M,(g5 h.sfx).2⟩
theorem amD{R:bj}{n:Nat}(hA:wF R n){e:cI}(bc:e.ne=30- (n:Int)){u:H}{F:ai}(h:dZ e (40::u) F):
  a1 e (40::u) (kH false (jY false n) (40::u) F) (λ_=>e.st) (Cv R (e.st (40::u) F)):=by
 have hle:=hA.at.le;cases n with
 |zero=>exact aae (by omega) h
 |succ m=>
  cases m with
  |zero=>exact aae (by omega) h
  |succ k=>
   show a1 e (40::u) (kH false (some (aS false (k+1))) (40::u) F) _ _;unfold kH;dsimp only;rw[bh (show(aS false (k+1)).has=true from rfl)];unfold Cv a6;have FW:W (e.ne+2)=e.ne+2:=dJ (by omega) (by omega);have O:decide (30<W ((e.st (40::u) F).2.2.2.1+2))=false:=by show decide (30<W (e.ne+2))=false;grind
   rw[O];simp only[aU];have P:=M0 (p:=ar e.S (40::u)) (x:=[102,40,41]) h (by omega) (by omega);refine a1.eh ?_ (fi P);have hu:u<:+40::u:=dN 40 u;have l:=h.fI (x:=[102,40,41]) hu (by simp);have Q:W (ar e.S (40::u)+1)=ar e.S u:=iQ h.b3 h.sfx;have S:(e.fI [102,40,41]).ne=30- ((k+1:Nat):Int):=by show e.ne+1=_;omega
   have T:(((e.fI [102,40,41]).st (40::u) F).1,(W (((e.fI [102,40,41]).st (40::u) F).2.1+1)),((e.fI [102,40,41]).st (40::u) F).2.2.1,((e.fI [102,40,41]).st (40::u) F).2.2.2.1,((e.fI [102,40,41]).st (40::u) F).2.2.2.2.1,((e.fI [102,40,41]).st (40::u) F).2.2.2.2.2)=(e.fI [102,40,41]).st u F:=by show(e.S,W (ar e.S (40::u)+1),F,e.ne+1,e.op++[[102,40,41]],e.kr)=_;rw[Q];rfl
   rw[T];generalize V:(N (b5 1) λ_=>N (bQ [41,32,123,32,120,10,125]) λt=>if t= .eof then cb [41,32,123,32,120,10,125] else if t= .op [41] then
    N (b5 1) λ_=>N (c5.aI [123,32,120,10,125]) λ_=>N (bQ [123,32,120,10,125]) λt=>if t= .eof then cb [123,32,120,10,125] else
     if gz t then N ((aS false (k+1)).cp t) λ_=>if false=true then(aS false (k+1)).rd else aZ () else bE
    else bE:ad Unit)=B
   have X:∀K:ag->Option (bo ag ag),(∀ae c,K ((e.fI [102,40,41]).st ae c)=some (.inr (e.st ae c)))->
     ∀y,a1 (e.fI [102,40,41]) (40::u) (B (40::u) F) (λ_=>(e.fI [102,40,41]).st) y->a1 e (40::u) ((B.named [102,40,41]) (40::u) F) (λ_=>e.st) (a_ y (λx=>x) K):=by
    intro K lx y bm;have d:=bm.named;cases aw:(B.named [102,40,41]) (40::u) F with
    |ok a ae c=>rw[aw] at d;obtain⟨f,g,s⟩:=d;exact⟨f,g.out,by grind[fi]⟩
    |more op nd ds=>rw[aw] at d;obtain⟨st,f,g⟩:=d;exact⟨st,gf f,g⟩
    |bad dd=>rw[aw] at d;obtain⟨f,st,g⟩:=d;exact⟨f,st,gf g⟩
    |deep dd=>rw[aw] at d;obtain⟨p,st,f,g⟩:=d;exact⟨p,st,gf f,g⟩
   have v:∀ae c,(au (v5 ((e.fI [102,40,41]).st ae c)) λ(A:ag)=>(some (.inr A):Option (bo ag ag)))=some (.inr (e.st ae c)):=λae c=>
    (aP (M1 (r:=ae) (F:=c) (x:=[102,40,41]) h.xJ (show 0<=e.ne by omega) (by omega))).trans rfl
   have D:=X (λl_=>au (v5 l_) λ(A:ag)=>some (.inr A)) v
    (a_ (tH ((e.fI [102,40,41]).st u F) ([41]:H)) (λx=>(x.1,x.2.1,F,x.2.2.2.1,e.op++[[102,40,41]],x.2.2.2.2.2)) λ(o:ag)=>
     (a_ (l9 (o.1,o.2.1,F,o.2.2.2.1,e.op++[[102,40,41]],o.2.2.2.2.2)) (λx=>x) λy=>
     (a_ (HH y.2) (λx=>(x.1,x.2.1,y.2.2.2.1,x.2.2.2.1,y.2.2.2.2.2.1,x.2.2.2.2.2)) λz=>
     (bif(!z.1) then
     a_ (lC (z.2.1,z.2.2.1,y.2.2.2.1,z.2.2.2.2.1,y.2.2.2.2.2.1,z.2.2.2.2.2.2)) (λx=>(x.1,x.2.1,y.2.2.2.1,x.2.2.2.1,y.2.2.2.2.2.1,x.2.2.2.2.2)) λy=>Empty.elim y
     else
     Cp R (z.2.1,z.2.2.1,y.2.2.2.1,z.2.2.2.2.1,y.2.2.2.2.2.1,z.2.2.2.2.2.2)))))
   have E:=D (by
    rw[<-V];show a1 (e.fI [102,40,41]) (40::u) (N (bQ [41,32,123,32,120,10,125]) _ u F) _ _;have atE:=l;cases Y:bn u with
    |none=>rw[dm (iN Y)];unfold tH;exact((((sq _ _).none l Y).bind λ_=> .inl rfl).bind λ_=> .inr rfl).so
    |some ae=>
     rw[aT (cu Y)];have s1:=ef Y;have v1:=l.mono s1;have f:=mi _ _ _ (cS _) Y;have Z:=MU [41] l;have he:ji [41] u F=(if an ae= .eof then cb [] else if(an ae==Tok.op [41])=true then b5 1 else bE:ad Unit) ae F:=by unfold ji m9;rw[aT (cu Y)];rfl
     rw[he] at Z;by_cases M:an ae= .eof
     ·rw[bh M] at Z⊢;obtain⟨st,q,aR⟩:=Z;exact⟨_,gf q,by simp;rfl⟩
     rw[aO M] at Z⊢;by_cases U:an ae= .op [41]
     ·rw[bh (by grind)] at Z;rw[if_pos U];obtain⟨q,aR,eN⟩:=Z;refine a1.eh ?_ (fi eN);have aD:ae.drop 1<:+ae:=List.drop_suffix _ _;show a1 (e.fI [102,40,41]) (40::u) (N (c5.aI [123,32,120,10,125]) _ (ae.drop 1) F) _ _;have I:ae.drop 1<:+40::u:=aD.trans (s1.trans hu);refine a1.lines (C:=λx=>x) db.id (v1.mono aD) I λb aC dY _ s2 v2=>?_;refine a1.tst (C:=λx=>x) db.id (Zx _) v2 λJ sk i_ L s=>?_;dsimp only;cases ay:gz (an J) with
      |true=>
       have av:an J≠ .eof:=by intro i;rw[i] at ay;cases ay
       rw[aO av];simp only[cU,hE,aU,fo,cH]
       have:=aab (R:=R) (n:=k+1) (by omega) (λm hm=>by
        have G:wF R (k+1):=λj cA=>hA j (by omega);exact G.low m hm) S L s ay
       rw[FM];exact this.mono (i_.trans (s2.trans I))
      |false=>simp only[fp,aL,fo,cH];exact M7 (x:=[123,32,120,10,125]) L s (λi=>bh i) (λi=>aO i) λ_=> .inr rfl
     ·rw[aO (by grind)] at Z;rw[if_neg U];obtain⟨oI,st,q⟩:=Z;exact⟨oI,_,gf q⟩)
   refine a1.eh E ?_;rw[o3];congr 1
   funext y
   rw[o3];congr 1
   funext z
   rw[o3];congr 1
   funext w
   cases w.1 with
   |true=>rfl
   |false=>simp only[Bool.not_false,cond_true];rw[o3];grind
theorem s7{D:ad Unit}{r r':H}{F:ai}(Y:bn r=some r')(av:fg (bu (r'.dropWhile cf))=false):dI D r F= .ok false r' F:=by
 have a:fX r F= .ok none r' F:=by simp_all[fX,aO]
 unfold dI;rw[aT a];rfl
theorem aaf{D:ad Unit}{r r':H}{F:ai}(Y:bn r=some r')(av:fg (bu (r'.dropWhile cf))=true){b:Bool}{ae:H}{a:ai}(h:dI D r F= .ok b ae a):b=true:=by
 have c:fX r F= .ok (some (bu (r'.dropWhile cf))) ((r'.dropWhile cf).drop (bu (r'.dropWhile cf)).length) F:=by simp_all[fX,bh]
 unfold dI at h;rw[aT c] at h;obtain⟨_,_,_,_,h⟩:=b7 h;cases h;rfl
theorem amI{b:UInt8}{t:H}(h:bu (b::t)≠[]):cf b=false:=by
 cases a:cf b with
 |false=>rfl
 |true=>simp_all[absurd,mV,A4]
theorem aag{R:bj}{n:Nat}(hA:wF R n){e:cI}(bc:e.ne=30- (n:Int)):qZ e (fM false (jY false n) (a9 false n)) (λ_=>e.st) (Aw R):=by
 intro r F h;unfold fM Aw;have a:=hA.at;refine a1.tst (C:=λx=>x) db.id (Zx e) h λae qM s1 c d=>?_;dsimp only;by_cases ay:gz (an ae)=true
 ·have av:an ae≠ .eof:=by intro g;rw[g] at ay;cases ay
  rw[aO av,bh ay,ay];simp only[aL];have J:=aab (R:=R) (n:=n) a.le (λm hm=>hA.low m hm) bc c d ay;rw[aad] at J;refine a1.iZ (C:=λx=>x) db.id (J.mono s1) (λ_=>rfl) λ_ l q _ s2 i=>?_;rw[De];exact(ZW a bc l q i).mono s2
 have D:gz (an ae)=false:=by grind
 rw[D];simp only[aU,fo,cH];refine a1.eh ?_ (fi ((lp e).some c d));dsimp only;unfold a6;have E:∀(m:ad Unit)(z:Bool)(K:ag->Option (bo ag ag)),fg (bu (ae.dropWhile cf))=false->(an ae= .eof->m=cb [120])->(an ae≠ .eof->m=bE)->z=false->a1 e r (m ae F) (λ_=>e.st)
   (bif z then a_ (lC ((e.st ae F).1,(e.st ae F).2.1,(e.st r F).2.2.1,(e.st ae F).2.2.2.1,(e.st r F).2.2.2.2.1,(e.st ae F).2.2.2.2.2)) (λx=>(x.1,x.2.1,(e.st r F).2.2.1,x.2.2.2.1,(e.st r F).2.2.2.2.1,x.2.2.2.2.2)) λy=>Empty.elim y
    else a_ (Av R ((e.st ae F).1,(e.st ae F).2.1,(e.st r F).2.2.1,(e.st ae F).2.2.2.1,(e.st r F).2.2.2.2.1,(e.st ae F).2.2.2.2.2)) (λx=>x) λw=>bif w.1 then a_ (Cu R w.2) (λx=>x) (λP=>some (.inr P)) else
     a_ (lC w.2) (λx=>(x.1,x.2.1,w.2.2.2.1,x.2.2.2.1,w.2.2.2.2.2.1,x.2.2.2.2.2)) λy=>Empty.elim y):=by
  rintro m _ K Z Q S rfl;simp only[aU];have j:=Jd a bc ae F c;rw[s7 d Z] at j;refine a1.eh ?_ (fi j.2.2);simp only[aU];exact M7 (x:=[120]) c d Q S λ_=> .inr rfl
 have T:fg []=false:=by decide
 cases f:an ae with
 |eof=>
  have nf:ae=[]:=by
   cases ae with
   |nil=>rfl
   |cons b t=>exfalso;have vo:(if b=10 then Tok.line else if bu (b::t)≠[] then .op (bu (b::t)) else .word (dg (b::t)).1 (dg (b::t)).2)=Tok.eof:=f;grind
  simp only[jM,cY,show¬((0:Int)=3) by decide,bH,aU,cU,fo,cH,fp,aL];have:=E (cb [120]) false (λ_=>none) (by simp_all[bu,kG,w3,List.isPrefixOf]) (λ_=>rfl) (λg=>absurd f g) rfl;exact this
 |line=>obtain⟨t,rfl⟩:=wy f;simp only[jM,cY,show¬((1:Int)=3) by decide,bH,aU,cU,fo,cH,fp,aL,reduceCtorEq];have fO:bu (10::t)=[]:=mV (by decide);have:=E bE false (λ_=>none) (by rfl) (λg=>by grind) (λ_=>rfl) rfl;exact this
 |op o=>
  simp only[jM,cY,show¬((2:Int)=3) by decide,bH,aU,cU,fo,cH,fp,aL,reduceCtorEq];have U:=(h4 f).1;have Db:ae.dropWhile cf=ae:=by
   cases ae with
   |nil=>rfl
   |cons b t=>exact J8 (by rw[amI (b:=b) (t:=t) (by rw[<-U];exact(h4 f).2.2.2)];simp)
  by_cases Z:fg o=true
  ·rw[bh Z];have j:=Jd a bc ae F c;refine a1.iZ (C:=λx=>x) db.id (j.mono s1) (λ_=>rfl) λb l q v s2 i=>?_;have s:=aaf d (by grind) v;subst s;simp only[aL];rw[De];exact(Ng a bc l q i).mono s2
  ·rw[aO Z];have:=E bE false (λ_=>none) (by grind) (λg=>by grind) (λ_=>rfl) rfl;exact this
 |word w p=>
  simp only[jM,bA,aL,reduceCtorEq,cH,hE,aU];rw[alQ,gd];have V:(bif p then(if p=true then rI w else false) else false)=(p&&rI w):=by simp
  rw[V];cases Nk:(p&&rI w) with
  |true=>simp only[aL,cU];exact M7 (x:=[]) c d (λg=>by grind) (λ_=>rfl) λ_=> .inr rfl
  |false=>
   simp only[aU,fo,cH];have j:=Jd a bc ae F c;refine a1.iZ (C:=λx=>x) db.id (j.mono s1) (λ_=>rfl) λb l q v s2 i=>?_;cases b with
   |true=>simp only[aL,cU];rw[De];exact(Ng a bc l q i).mono s2
   |false=>
    simp only[aU,fo,cH];have W:fg (bu (ae.dropWhile cf))=false:=by grind[fg,bu,cf,aaf]
    rw[s7 d W] at v;cases v;refine a1.iZ (C:=λx=>x) db.id ((M6 a bc i d f).mono s2) (λ_=>rfl) λ_ G A _ H L=>?_;have X:a1 e r (ho false (a9 false n) G A) (λ_=>e.st) (a_ (Cu R (e.st G A)) (λx=>x) λY=>some (.inr Y)):=by rw[De];exact(Ng a bc G A L).mono H
    have jP:Cn w=some (my w)\/p=false:=by
     cases p with
     |false=>simp
     |true=>left;have:=(qS f).1.length_le;have:=eY c.sfx;have:=h.b3;grind[zr]
    have To:∀(k:Bool->Option (bo ag ag)),cY (p=true) (Cn w) false k=k (p&&my w):=by
     intro k;rcases jP with M|rfl
     ·grind[gd]
     rfl
    refine a1.eh ?_ (To _);cases A9:(p&&my w) with
    |false=>simp_all[a1.eh,Zs,aU,fo,cH]
    |true=>
     have az:p=true:=by grind
     subst az;refine a1.eh ?_ (zm rfl);simp only[cU];refine a1.tst (C:=λx=>x) db.id (sq e [40]) L λB A6 N O i4=>?_;dsimp only[cond_true];by_cases I:an B= .op [40]
     ·have s:((an B==Tok.op [40]):Bool)=true:=by grind
      rw[bh I,s];simp only[aL];obtain⟨u,rfl⟩:=(h4 I).2.1;refine a1.iZ (C:=λx=>x) db.id ((amD hA bc O).mono (N.trans H)) (λ_=>rfl) λ_ eW lK _ n7 mY=>?_;rw[De];exact(ZW a bc eW lK mY).mono n7
     ·have s:((an B==Tok.op [40]):Bool)=false:=by grind
      rw[aO I,s];simp only[aU];rw[De];exact(Ng a bc B A O).mono (N.trans H)
theorem TA{e:cI}{r o:H}{F:ai}(v:dZ e r F)(b:an r= .op o):r.drop o.length<:+r/\(r.drop o.length).length<r.length/\dZ e (r.drop o.length) F/\W (ar e.S r+(o.length:Int))=ar e.S (r.drop o.length):=by obtain⟨_,⟨q,rfl⟩,_,bc⟩:=h4 b;have ax:0<o.length:=J_.2 bc;rw[oO];have a:q<:+o++q:=fR o q;exact⟨a,by grind,v.mono a,kK v.b3 v.sfx⟩
def rT(fr:Bool)(n:Nat):ad Unit:=fM fr (jY fr n) (a9 fr n)
theorem aah(fr:Bool)(n:Nat):ao (rT fr n):=by
 unfold rT;refine ao.command (λl ax=>?_) (mI fr n);cases n with
 |zero=>cases ax
 |succ m=>cases ax;simp[qR]
theorem aai(fr:Bool)(n:Nat):ao (fv (rT fr n)):=ao.pipe (aah fr n)
section
variable{R:bj}{n:Nat}(hA:wF R n){e:cI}(bc:e.ne=30- (n:Int))
include hA bc
theorem aaj:qZ e (fv (rT false n)) (λ_=>e.st) (EU R):=by
 intro r F h;unfold fv EU a6;refine a1.tst (C:=λx=>x) db.id (rR e [33]) h λae qM s1 d i1=>?_;dsimp only;have u:∀c,c<:+r->dZ e c F->a1 e r (N (rT false n) (λ_=>ck (λ_=>N (bQ []) λt=>if t= .op [124] then N (b5 1) λ_=>N (c5.aI [120]) λ_=>N (rT false n) λ_=>aZ (.inl ()) else aZ (.inr ())) ()) c F) (λ_=>e.st)
   (a_ (Aw R (e.st c F)) (λx=>x) λ(E:ag)=>fixF (LK R λy=>some (.inr y)) bC E):=by
  intro c s2 G;refine a1.iZ (C:=λx=>x) db.id ((aag hA bc c F G).mono s2) (λ_=>rfl) λ_ I J _ K f=>?_;refine a1.mono ?_ K;refine a1.rep (en:=λ_ r F=>e.st r F) (λk s g v L aw=>?_) bC () I J (mj (kN (eY f.sfx) f.b3)) f;unfold LK;refine a1.tst db.k (sq e [124]) L λa Z2 i z i5=>?_;dsimp only;by_cases j:an a= .op [124]
  ·have l:((an a==Tok.op [124]):Bool)=true:=by grind
   rw[bh j,l];simp only[aL];obtain⟨m,M,A,B⟩:=TA z j;show a1 e g (cX _ g (N (c5.aI [120]) _ (a.drop 1) v)) _ (a_ (l9 (e.S,W (ar e.S a+1),v,e.ne,e.op,e.kr)) _ _);rw[show([124]:H).length=1 from rfl] at m M A B;have O:W (ar e.S a+1)=ar e.S (a.drop 1):=B;rw[O];refine a1.lines db.k A (m.trans i) λb P Q _ S T=>?_;have U:=S.trans (m.trans i);refine a1.iZ db.k ((aag hA bc P Q T).mono U) (λ_=>rfl) λ_ V rK X FT Jf=>?_;have Y:V.length<g.length:=by have cB:=((aah false n).sfx X).length_le;grind
   grind[a1.inl]
  ·have l:((an a==Tok.op [124]):Bool)=false:=by grind
   rw[aO j,l];exact a1.inr i z rfl
 by_cases o:cE (an ae) [33]=true
 ·rw[bh o,o];simp only[aL];have p:an ae= .word [33] true:=by grind[cE]
  obtain⟨q,rfl⟩:=(qS p).1;have D:q<:+[33]++q:=fR [33] q;have Z:W (ar e.S ([33]++q)+1)=ar e.S q:=kK (w:=[33]) d.b3 d.sfx;have:=u q (D.trans s1) (d.mono D);show a1 e r (N (rT false n) _ q F) _ (a_ (Aw R (e.S,W (ar e.S ([33]++q)+1),F,e.ne,e.op,e.kr)) _ _);rw[Z];exact this
 ·have p:cE (an ae) [33]=false:=by grind
  rw[aO o,p];exact u ae s1 d
theorem TC:qZ e (hT (fv (rT false n))) (λ_=>e.st) (Ax R):=by
 intro r F h;unfold hT Ax a6;refine a1.iZ (C:=λx=>x) db.id (aaj hA bc r F h) (λ_=>rfl) λ_ z A _ B f=>?_;refine a1.mono ?_ B;refine a1.rep (en:=λ_ r F=>e.st r F) (λk s c g D aw=>?_) bC () z A (mj (kN (eY f.sfx) f.b3)) f;unfold Rn;refine a1.tst db.k (sq e [38,38]) D λa V i j E=>?_;dsimp only;have q:∀o:H,o.length=2->an a= .op o->a1 e c (cX (λ_=>N (bQ []) λt=>if t= .op [38,38]\/t= .op [124,124] then N (b5 2) λ_=>N (c5.aI [120]) λ_=>N (fv (rT false n)) λ_=>aZ (.inl ()) else aZ (.inr ())) c (N (b5 2) (λ_=>N (c5.aI [120]) λ_=>N (fv (rT false n)) λ_=>aZ (.inl ())) a g)) (λ_=>e.st)
   (a_ (l9 (e.S,W (ar e.S a+2),g,e.ne,e.op,e.kr)) (λx=>x) λy=>a_ (EU R y.2) (λx=>x) λG=>k G):=by
  intro o I d;obtain⟨l,J,u,v⟩:=TA j d;rw[I] at l J u v;have K:W (ar e.S a+2)=ar e.S (a.drop 2):=v;rw[K];show a1 e c (cX _ c (N (c5.aI [120]) _ (a.drop 2) g)) _ _;refine a1.lines db.k u (l.trans i) λb L M _ O P=>?_;have Q:=O.trans (l.trans i);refine a1.iZ db.k ((aaj hA bc L M P).mono Q) (λ_=>rfl) λ_ S X T Y Z=>?_;have U:S.length<c.length:=by have cB:=((aai false n).sfx T).length_le;grind
  grind[a1.inl]
 by_cases d:an a= .op [38,38]
 ·have m:((an a==Tok.op [38,38]):Bool)=true:=by grind
  rw[bh (.inl d),m];simp only[nT,uz,cH,aL];exact q _ rfl d
 ·have m:((an a==Tok.op [38,38]):Bool)=false:=by grind
  rw[m];refine a1.eh ?_ ((zm rfl).trans (fi ((sq e [124,124]).some j E)));dsimp only;by_cases w:an a= .op [124,124]
  ·have p:((an a==Tok.op [124,124]):Bool)=true:=by grind
   rw[bh (.inr w),p];simp only[aL,aU];exact q _ rfl w
  ·have p:((an a==Tok.op [124,124]):Bool)=false:=by grind
   rw[aO (by grind),p];simp only[cond_false];exact a1.inr i j rfl
end
def ni(fr:Bool)(n:Nat):ad Unit:=hT (fv (rT fr n))
theorem amL(fr:Bool)(n:Nat):ao (ni fr n):=ao.oC (aai fr n)
theorem aak(fr:Bool)(n:Nat)(c:Ctx)(no:Bool):(aS fr n).ls c no=n4 (ni fr n) c no:=by cases n<;>rfl
theorem aal{c:Ctx}:ec c .eof=decide (c= .text):=by cases c<;>simp[ec,cE]
theorem amM{r:H}{F:ai}{b:Bool}{r':H}{a:ai}(Y:bn r=some r)(h:c5 r F= .ok b r' a):(an r= .line->b=true/\r'.length<r.length)/\(an r≠ .line->b=false/\r'=r/\a=F):=by
 constructor
 ·intro c;obtain⟨t,rfl⟩:=wy c;refine⟨?_,YO h⟩;rw[tW,cK,wz Y] at h;unfold cX at h;cases hm:N jw (λ_=>(aZ (.inl true):ad (Bool⊕Bool))) (10::t) F with
  |ok x ae e=>
   have d:x=(Sum.inl true:Bool⊕Bool):=by obtain⟨_,_,_,_,U⟩:=b7 hm;cases U;rfl
   subst d;rw[hm] at h;simp only at h;split at h
   ·have:∀(bz:Nat)(r:H)(F:ai)(b:Bool)(r':H)(a:ai),r.length<=bz->ck iC true r F= .ok b r' a->b=true:=by
     intro bz;induction bz with
     |zero=>intro r F b r' a f h;have:r=[]:=nQ.1 (by omega);subst this;rw[cK,s3 (ae:=[]) (by rw[mg]) (by decide)] at h;cases h;rfl
     |succ bz i=>
      intro r F b r' a f h;rw[cK] at h;cases Y:bn r with
      |none=>have:iC true r F= .more [] (cV [] F []).1 (cV [] F []).2:=dm (iN Y);rw[this] at h;cases h
      |some g=>
       by_cases c:an g= .line
       ·obtain⟨t,rfl⟩:=wy c;rw[wz Y] at h;unfold cX at h;cases hm:N jw (λ_=>(aZ (.inl true):ad (Bool⊕Bool))) (10::t) F with
        |ok x ae e=>
         have d:x=(Sum.inl true:Bool⊕Bool):=by obtain⟨_,_,_,_,U⟩:=b7 hm;cases U;rfl
         grind
        |more _ _ _=>grind
        |bad _=>grind
        |deep _=>grind
       ·rw[s3 Y c] at h;cases h;rfl
    exact this _ _ _ _ _ _ (cS _) h
   grind
  |more _ _ _=>grind
  |bad _=>grind
  |deep _=>grind
 ·intro c;rw[Ni Y c] at h;cases h;exact⟨rfl,rfl,rfl⟩
theorem aam(fr:Bool)(n:Nat){r r':H}{F:ai}(Y:bn r=some r'):ni fr n r F=ni fr n r' F:=by have a:=mi _ _ _ (cS _) Y;unfold ni hT fv;rw[k2];rw[aT (cu Y),aT (cu a)]
theorem aan(fr:Bool)(n:Nat){r:H}{F:ai}(Y:bn r=none):∃nd ds,ni fr n r F= .more [] nd ds:=by unfold ni hT fv;rw[k2];exact⟨_,_,dm (iN Y)⟩
theorem aao(fr:Bool)(n:Nat)(F:ai):∃nd ds,ni fr n [] F= .more [] nd ds:=by
 have Y:bn []=some []:=mg;unfold ni hT fv;rw[k2,aT (cu Y),k2];have M:cE (an []) [33]=false:=rfl;rw[M];simp only[fo,cH];show∃nd ds,N (N (rT fr n) _) _ [] F=_
 have U:∃nd ds,rT fr n [] F= .more [] nd ds:=by unfold rT fM;rw[aT (cu Y)];exact⟨_,_,rfl⟩
 grind[dm]
theorem aap{R:bj}{n:Nat}(hA:wF R n){e:cI}(bc:e.ne=30- (n:Int))(c:Ctx)(no:Bool)(FO:c≠ .text\/no=true):qZ e (n4 (ni false n) c no) (λa r F=>((a:Int),e.st r F)) (λx=>EW R x (C8 c) no):=by
 intro r F h;rw[sj];unfold EW;refine a1.lines (C:=λx=>x) db.id h fS λb ae aG _ s1 q=>?_;dsimp only;refine a1.mono ?_ s1
 have T:∀(bz:Nat)(k:Nat)(r F),r.length<bz->k+r.length<=2000000->dZ e r F->a1 e r (ck (fa (ni false n) c no) k r F) (λa r F=>((a:Int),e.st r F)) (fixF (H2 R (C8 c) no) bz ((k:Int),e.st r F)):=by
  intro bz;induction bz with
  |zero=>omega
  |succ bz V=>
   intro k r F fh aw h;rw[fm,cK];generalize fixF (H2 R (C8 c) no) bz=K at V;unfold H2 a6;have hW:k<2000000->W ((k:Int)+1)=((k+1:Nat):Int):=by grind[dJ]
   have X:∀g,r≠[]->g<:+r->dZ e g F->a1 e r (cX (fa (ni false n) c no) r (N (ni false n) (λ_=>N (bQ []) (iM c k)) g F)) (λa r F=>((a:Int),e.st r F))
     (a_ (Ax R (e.st g F)) (λx=>x) λ(i:ag)=>(a_ (ou i ([59]:H)) (λx=>(x.1,x.2.1,i.2.2.1,x.2.2.2.1,i.2.2.2.2.1,x.2.2.2.2.2)) λ(sV,v)=>(nT (sV=false) (ou (v.1,v.2.1,i.2.2.1,v.2.2.2.1,i.2.2.2.2.1,v.2.2.2.2.2) ([38]:H)) (λx=>(x.1,x.2.1,i.2.2.1,x.2.2.2.1,i.2.2.2.2.1,x.2.2.2.2.2)) (false,(v.1,v.2.1,i.2.2.1,v.2.2.2.1,i.2.2.2.2.1,v.2.2.2.2.2)) λ(kC,z)=>(bif(bif sV then true else kC) then(a_ (l9 (z.1,(W (z.2.1+1)),i.2.2.1,z.2.2.2.1,i.2.2.2.2.1,z.2.2.2.2.2)) (λx=>x) λ(ij,A)=>K ((W ((k:Int)+1)),A.1,A.2.1,A.2.2.1,A.2.2.2.1,A.2.2.2.2.1,A.2.2.2.2.2)) else(a_ (l9 (z.1,z.2.1,i.2.2.1,z.2.2.2.1,i.2.2.2.2.1,z.2.2.2.2.2)) (λx=>x) λ(po,d)=>(bif po then K ((W ((k:Int)+1)),d.1,d.2.1,d.2.2.1,d.2.2.2.1,d.2.2.2.2.1,d.2.2.2.2.2) else(a_ (mD d) (λx=>(x.1,x.2.1,d.2.2.1,x.2.2.2.1,d.2.2.2.2.1,x.2.2.2.2.2)) λ(nF,B)=>(nT ((decide (nF.1=3))=false) (Ez (B.1,B.2.1,d.2.2.1,B.2.2.2.1,d.2.2.2.2.1,B.2.2.2.2.2) (C8 c)) (λx=>(x.1,x.2.1,d.2.2.1,x.2.2.2.1,d.2.2.2.2.1,x.2.2.2.2.2)) (false,(B.1,B.2.1,d.2.2.1,B.2.2.2.1,d.2.2.2.2.1,B.2.2.2.2.2)) λ(hy,D)=>(bif(bif(decide (nF.1=3)) then true else(!hy)) then a_ (lC (D.1,D.2.1,d.2.2.1,D.2.2.2.1,d.2.2.2.2.1,D.2.2.2.2.2)) (λx=>(x.1,x.2.1,d.2.2.1,x.2.2.2.1,d.2.2.2.2.1,x.2.2.2.2.2)) λy=>Empty.elim y else some (.inr ((W ((k:Int)+1)),(D.1,D.2.1,d.2.2.1,D.2.2.2.1,d.2.2.2.2.1,D.2.2.2.2.2)))))))))))):=by
    intro g nf s2 Z;refine a1.iZ db.k ((TC hA bc g F Z).mono s2) (λ_=>rfl) λ_ cy s Nj i_ e7=>?_;have Fw:=((amL false n).sfx Nj).length_le;dsimp only;refine a1.tst db.k (sq e [59]) e7 λf A6 qa j t=>?_;dsimp only;have G:=qa.trans i_;have s8:an f≠ .eof->k<2000000:=by
     intro J;have:f≠[]:=by rintro rfl;exact J rfl
     grind[List.length_pos_iff]
    have L:∀o:H,o.length=1->(o=[59]\/o=[38])->an f= .op o->a1 e r (cX (fa (ni false n) c no) r (iM c k (.op o) f s)) (λa r F=>((a:Int),e.st r F))
      (a_ (l9 (e.S,W (ar e.S f+1),s,e.ne,e.op,e.kr)) (λx=>x) λ(ij,A)=>K ((W ((k:Int)+1)),A)):=by
     intro o aN amP E;obtain⟨b0,cL,eV,ct⟩:=TA j E;rw[aN] at b0 cL eV ct;have Jj:W (ar e.S f+1)=ar e.S (f.drop 1):=ct;rw[Jj];unfold iM;dsimp only;rw[bh amP];show a1 e r (cX _ r (N c5 _ (f.drop 1) s)) _ _;refine a1.A5 db.k eV (b0.trans G) λb O lK _ n7 mY=>?_;have A_:O.length<r.length:=by grind
     rw[hW (s8 (by grind))];exact a1.inl A_ ((V (k+1) O lK (by omega) (by omega) mY).mono (n7.trans (b0.trans G)))
    by_cases mJ:an f= .op [59]
    ·have hb:((an f==Tok.op [59]):Bool)=true:=by grind
     rw[hb,mJ];simp only[nT,uz,cH,aL];exact L [59] rfl (.inl rfl) mJ
    have hb:((an f==Tok.op [59]):Bool)=false:=by grind
    rw[hb];refine a1.eh ?_ ((zm rfl).trans (fi ((sq e [38]).some j t)));dsimp only;by_cases P:an f= .op [38]
    ·have oc:((an f==Tok.op [38]):Bool)=true:=by grind
     rw[oc,P];simp only[aL,aU];exact L [38] rfl (.inr rfl) P
    have oc:((an f==Tok.op [38]):Bool)=false:=by grind
    rw[oc];simp only[aU];by_cases ax:an f= .line
    ·rw[ax];unfold iM;dsimp only;refine a1.A5 db.k j G λb O lK amQ n7 mY=>?_;obtain⟨amR,A_⟩:=(amM t amQ).1 ax;subst amR;simp only[aL];have amS:O.length<r.length:=by grind
     rw[hW (s8 (by grind))];exact a1.inl amS ((V (k+1) O lK (by omega) (by omega) mY).mono (n7.trans G))
    have D9:=Ni (F:=s) t ax;have Nc:=Zw j;rw[D9] at Nc;refine a1.eh ?_ (fi Nc.2.2);dsimp only;simp only[aU];refine a1.eh ?_ (fi ((lp e).some j t));dsimp only
    have Q:∀(m:ad (Nat⊕Nat)),an f≠ .eof->m=bE->a1 e r (cX (fa (ni false n) c no) r (m f s)) (λa r F=>((a:Int),e.st r F)) (a_ (lC (e.st f s)) (λx=>(x.1,x.2.1,s,x.2.2.2.1,e.op,x.2.2.2.2.2)) λy=>(Empty.elim y:Option (bo ag (Int×ag)))):=by rintro m J rfl;exact⟨j.sfx,_,gf ((tY j t).2 J)⟩
    cases E:an f with
    |line=>grind
    |word w p=>simp only[jM,bA,nT,uz,cH,aL];exact Q bE (by grind) rfl
    |op o=>
     have l:(decide ((jM (Tok.op o)).1=3))=false:=rfl;refine a1.eh ?_ ((zm l).trans (fi ((S8 e c).some j t)));dsimp only;rw[l,E];simp only[aU];have aN:¬(o=[59]\/o=[38]):=by grind
     unfold iM;dsimp only;rw[aO aN];cases zp:ec c (.op o) with
     |true=>simp only[hE,aU,cU];rw[hW (s8 (by grind))];exact a1.inr G j rfl
     |false=>simp only[Bool.not_false,cond_true,Bool.false_eq_true,if_false];exact Q bE (by grind) rfl
    |eof=>
     have vm:f=[]:=by
      cases f with
      |nil=>rfl
      |cons b u=>exfalso;have vo:(if b=10 then Tok.line else if bu (b::u)≠[] then .op (bu (b::u)) else .word (dg (b::u)).1 (dg (b::u)).2)=Tok.eof:=E;grind
     subst vm;have l:(decide ((jM Tok.eof).1=3))=false:=rfl;refine a1.eh ?_ ((zm l).trans (fi ((S8 e c).some j t)));dsimp only;rw[l,E,aal];simp only[aU];have ng:k<2000000:=by grind[List.length_pos_iff]
     have pP:cX (fa (ni false n) c no) r (iM c k .eof [] s)=cX (fa (ni false n) c no) [] ((if c= .text then aZ (.inr (k+1)) else cb (if no||k+1>0 then [] else [120]):ad (Nat⊕Nat)) [] s):=by show(if([]:H).length<r.length then _ else _)=_;rw[bh (by grind),cK];congr 1;unfold fa;rw[aT (cu t),E,if_pos rfl]
     rw[pP];by_cases ay:c= .text
     ·rw[if_pos ay];simp only[ay,decide_true,Bool.not_true,cond_false];rw[hW ng];exact⟨G,j,rfl⟩
     ·rw[if_neg ay];simp only[ay,decide_false,Bool.not_false,cond_true];exact(((tY j t).1 E).bind λ_=> .inr rfl).so
   unfold fa;have I5:(0<(k:Int))↔k>0:=by omega
   have bt:(bif no then true else decide (0<(k:Int)))=(no||decide (k>0)):=by simp
   have mX:=X;dsimp only;have atH:bn r=none->a1 e r (cX (fa (ni false n) c no) r (N (ni false n) (λ_=>N (bQ []) (iM c k)) r F)) (λa r F=>((a:Int),e.st r F)) (a_ (Ax R (e.st r F)) (λx=>x) λ_=>none):=by intro Y;obtain⟨nd,ds,M⟩:=aan false n (F:=F) Y;have U:=TC hA bc r F h;have Dg:hT (fv (rT false n)) r F= .more [] nd ds:=M;rw[Dg] at U;rw[dm M];obtain⟨st,bs,aR⟩:=U;exact⟨st,gf bs,aR⟩
   have TD:∀(g:H)(I:ai)(wH:ag->Option (bo ag (Int×ag)))(x:dD (Nat⊕Nat)),dZ e g I->(∃nd ds,ni false n g I= .more [] nd ds)->(∃nd ds,x= .more [] nd ds)->a1 e r (cX (fa (ni false n) c no) r x) (λa r F=>((a:Int),e.st r F)) (a_ (Ax R (e.st g I)) (λx=>x) wH):=by rintro g I wH x Z ⟨nd,ds,M⟩ ⟨atI,atJ,rfl⟩;have U:=TC hA bc g I Z;have Dg:hT (fv (rT false n)) g I= .more [] nd ds:=M;rw[Dg] at U;obtain⟨st,bs,aR⟩:=U;exact⟨st,gf bs,aR⟩
   have qb:∀{g:H},g<:+r->an g≠ .eof->r≠[]:=by rintro g s2 J rfl;have:g=[]:=List.suffix_nil.1 s2;subst this;exact J rfl
   cases atK:(no||decide (k>0)) with
   |true=>
    have S:(bif no then true else decide (0<(k:Int)))=true:=by grind
    refine a1.eh ?_ (zm S);refine a1.tst db.k (S8 e c) h λae qM s1 q i1=>?_;dsimp only;rw[S];simp only[aL,OA];by_cases hf:an ae= .eof
    ·rw[bh hf,hf,aal];by_cases ay:c= .text
     ·rw[bh ay];simp only[ay,bA,aL];exact a1.inr s1 q rfl
     ·rw[aO ay];simp only[ay,bH,aU];have lk:ae=[]:=by
       cases ae with
       |nil=>rfl
       |cons b u=>exfalso;have vo:(if b=10 then Tok.line else if bu (b::u)≠[] then .op (bu (b::u)) else .word (dg (b::u)).1 (dg (b::u)).2)=Tok.eof:=hf;grind
      subst lk;exact TD [] F _ _ q (aao false n F) ⟨_,_,rfl⟩
    ·rw[aO hf];cases zp:ec c (an ae) with
     |true=>simp only[aL,cU];exact a1.inr s1 q rfl
     |false=>simp only[aU,fo,cH];exact mX ae (qb s1 hf) s1 q
   |false=>
    have S:(bif no then true else decide (0<(k:Int)))=false:=by grind
    refine a1.eh ?_ (Zs (by grind));dsimp only;rw[S];simp only[aU,Bool.false_and,fo,cH];cases Y:bn r with
    |none=>rw[dm (nd:=(cV [] F [120]).1) (ds:=(cV [] F [120]).2) (op:=[]) (by rw[iN Y];rfl)];exact TD r F _ _ h (aan false n Y) ⟨_,_,rfl⟩
    |some ae=>
     rw[aT (cu Y)];have s1:=ef Y;by_cases hf:an ae= .eof
     ·rw[bh hf];have lk:ae=[]:=by
       cases ae with
       |nil=>rfl
       |cons b u=>exfalso;have vo:(if b=10 then Tok.line else if bu (b::u)≠[] then .op (bu (b::u)) else .word (dg (b::u)).1 (dg (b::u)).2)=Tok.eof:=hf;grind
      subst lk
      have eR:∃nd ds,ni false n r F= .more [] nd ds:=by rw[aam false n Y];simp[aao]
      by_cases ay:c= .text
      ·grind
      ·rw[aO ay];exact TD r F _ _ h eR ⟨_,_,rfl⟩
     ·rw[aO hf];have:=mX r (qb s1 hf) fS h;have aW:N (ni false n) (λ_=>N (bQ []) (iM c k)) ae F=N (ni false n) (λ_=>N (bQ []) (iM c k)) r F:=by grind[aam,N]
      rw[aW];exact this
 exact T bC 0 ae aG (mj (kN (eY q.sfx) q.b3)) (by have:=eY q.sfx;have:=q.b3;omega) q
theorem amT{k n:Nat}(hA:wF (lg k) n):xL (lg (k+1)) n:=⟨λe c no ay bc=>by have:=aap hA bc c no (.inl ay);intro r F h;rw[aak];exact this r F h⟩
theorem jc:∀(k n:Nat),n<=30->(2*n+1<=k->C9 (lg k) n)/\(2*n+2<=k->M3 (lg k) n/\xL (lg k) n):=by
 intro k;induction k with
 |zero=>omega
 |succ k b=>
  have a:∀n,n<=30->2*n<=k->Below (lg k) n:=λn av h=>
   ⟨av,λm hm=>((b m (by omega)).2 (by omega)).1,λm hm=>((b m (by omega)).2 (by omega)).2⟩
  intro n av;refine⟨λh=>al0 (a n av (by omega)),λh=>⟨al1 (a n av (by omega)) ((b n av).1 (by omega)),amT λm hm=>?_⟩⟩;exact {toBelow:=a m (by omega) (by omega),u0:=(b m (by omega)).1 (by omega)}
theorem amU{S:H}(dt:S.length<=1000000):a1 ⟨S,0,[],0⟩ S (h3 false 30 S) (λa r F=>((a:Int),(⟨S,0,[],0⟩:cI).st r F)) (sY.kR (S,0,[],0,[],0) 0 true):=by
 have b:dZ ⟨S,0,[],0⟩ S []:=⟨dt,fS,by simp,by simp⟩
 have aw:∃k,bC=k+1/\62<=k:=by
  refine⟨bC-1,?_,?_⟩
  ·rw[gF]
  simp[gF]
 obtain⟨k,aw,c⟩:=aw;have hA:wF (lg k) 30:=by intro m hm;exact {le:=by omega,u1:=λj d=>((jc k j (by omega)).2 (by omega)).1,ls:=λj d=>((jc k j (by omega)).2 (by omega)).2,u0:=(jc k m hm).1 (by omega)}
 have:=aap hA (e:=⟨S,0,[],0⟩) (show(0:Int)=30- ((30:Nat):Int) by decide) .text true (.inr rfl) S [] b;unfold h3;rw[aak];have f:(⟨S,0,[],0⟩:cI).st S []=(S,0,[],0,[],0):=by show(S,ar S S,([]:ai),(0:Int),([]:bw),(0:Int))=_;rw[I1]
 rw[f] at this;have g:sY.kR (S,0,[],0,[],0) 0 true=EW (lg k) (S,0,[],0,[],0) 0 true:=by unfold sY;rw[aw];rfl
 rw[g];exact this
def c6(s:H):H:=if s.getLast?=some 10 then s else s++[10]
theorem amW(s:H)(Y:s.length<=1000000):Mw s [10]=some (decide (s.getLast?=some 10)):=by
 unfold Mw;rcases List.eq_nil_or_concat s with rfl|⟨t,b,rfl⟩
 ·decide
 ·rw[List.concat_eq_append] at*;have ax:(t++[b]).length=t.length+1:=by simp
  have a:W (((t++[b]).length:Int)- (([10]:H).length:Int))=(t.length:Int):=by grind[dJ,List.length_singleton]
  simp only[a];have c:b1 (t++[b]) (t.length:Int) ((t++[b]).length:Int)=[b]:=by simp[b1]
  rw[c,bX (by omega)];have M:(([10]:H).length:Int)<=((t++[b]).length:Int):=by grind
  simp_all
theorem amX(s:H)(Y:s.length<=1000000):(((s.length+([10]:H).length:Nat):Int)<=9223372036854775807):=by grind
theorem aat(s:H)(Y:s.length<=1000000):a2 (((s.length+([10]:H).length:Nat):Int)<=9223372036854775807) (some (s++[10]))=some (s++[10]):=by exact bh (amX s Y)
theorem amY(s:H)(Y:s.length<=1000000)(b:Bool):(au (au (some b) λ(a:Bool)=>some a) λ(c:Bool)=>
 (bif c then
 some s
 else
 (a2 (((s.length+([10]:H).length:Nat):Int)<=9223372036854775807)<|
 some (s++([10]:H)))))=some (bif b then s else s++[10]):=by
 cases b with
 |true=>rfl
 |false=>exact(aP (aP rfl)).trans ((aU _ _).trans (aat s Y))
theorem aau(s:H)(Y:s.length<=1000000):CU s=some (c6 s):=by unfold CU Sl;rw[amW s Y,amY s Y];simp[c6,bh,decide_eq_true,aO,eu]
theorem aav(s:H)(Y:(c6 s).length<=1000000):match h3 false 30 (c6 s) with
  | .ok a _ _=>zc s=some (((0:Int),((c6 s).length:Int)),([]:bw),(a:Int))
  | .more op _ _=>zc s=some (((1:Int),((c6 s).length:Int)),op,(0:Int))
  | .bad r=>r<:+c6 s/\∃op,zc s=some (((2:Int),ar (c6 s) r),op,(0:Int))
  | .deep _=>∃(p:Int)(op:bw),zc s=some (((2:Int),p),op,(0:Int))/\p<(c6 s).length:=by
 have ax:s.length<=(c6 s).length:=by grind[c6]
 have h:=amU Y;unfold zc;rw[aau s (by omega),aP rfl];cases az:h3 false 30 (c6 s) with
 |ok a r F=>rw[az] at h;obtain⟨M,U,b⟩:=h;simp only;rw[b];rfl
 |more op nd ds=>rw[az] at h;obtain⟨st,M,U⟩:=h;grind
 |bad r=>rw[az] at h;obtain⟨M,st,U⟩:=h;grind
 |deep q=>rw[az] at h;obtain⟨p,st,U,b⟩:=h;refine⟨p,st.2.2.2.2.1,?_,b⟩;rw[U]
end Go.Eng
namespace Go.Eng
def eC(F:ai):Nat:=(mf F).length
theorem aaw:∀(a b:ai),mf (a++b)=mf a++mf b
 |[],b=>rfl
 |d::a,b=>by simp[mf,aaw]
theorem aax(a b:ai):eC (a++b)=eC a+eC b:=by simp[eC,aaw]
theorem Ba:∀(x nd:H)(ds:ai),(cV nd ds x).1.length+eC (cV nd ds x).2=nd.length+eC ds+x.length
 |[],nd,ds=>rfl
 |b::x,nd,ds=>by
  unfold cV;split
  ·rw[Ba x];grind[List.length_append,List.length_cons,eC,mf,List.length_nil]
  ·rw[Ba x];simp only[qk,nn,GK];omega
def ek(c:Nat){α:Type}(r:H)(F:ai):dD α->Prop
 | .ok _ r' a=>eC a+100*r'.length<=eC F+100*r.length
 | .more _ nd ds=>nd.length+eC ds<=eC F+100*r.length+c
 | .bad _=>True
 | .deep _=>True
def aJ(c:Nat){α:Type}(f:ad α):Prop:=∀r F,ek c r F (f r F)
section
theorem aJ.mono{α:Type}{c b:Nat}{f:ad α}(h:aJ c f)(ay:c<=b):aJ b f:=by
 intro r F;have:=h r F;cases hm:f r F with
 |more op nd ds=>grind[ek]
 |ok a ae d=>rw[hm] at this;exact this
 |bad _=>trivial
 |deep _=>trivial
theorem aJ.N{α β:Type}{c:Nat}{m:ad α}{k:α->ad β}(hm:aJ c m)(aw:∀a,aJ c (k a)):aJ c (Go.Eng.N m k):=by
 intro r F;unfold Go.Eng.N;have:=hm r F;cases h:m r F with
 |ok a ae b=>rw[h] at this;simp only[ek] at this⊢;have U:=aw a ae b;grind[ek]
 |more op nd ds=>rw[h] at this;exact this
 |bad _=>trivial
 |deep _=>trivial
theorem aJ.aI{α:Type}{c:Nat}{m:ad α}(h:aJ c m)(x:H):aJ (c+x.length) (m.aI x):=by
 intro r F;unfold ad.aI;have:=h r F;cases hm:m r F with
 |more op nd ds=>grind[ek,Ba]
 |ok a ae b=>rw[hm] at this;exact this
 |bad _=>trivial
 |deep _=>trivial
theorem aJ.named{α:Type}{c:Nat}{m:ad α}(h:aJ c m)(x:H):aJ c (m.named x):=by
 intro r F;unfold ad.named;have:=h r F;cases hm:m r F with
 |more op nd ds=>rw[hm] at this;exact this
 |ok a ae b=>grind
 |bad _=>trivial
 |deep _=>trivial
theorem aJ.cb{α:Type}{c:Nat}{x:H}(h:x.length<=c):aJ c (Go.Eng.cb x:ad α):=by intro r F;grind[Go.Eng.cb,ek,Ba,List.length_nil]
theorem aJ.bE{α:Type}{c:Nat}:aJ c (Go.Eng.bE:ad α):=λr F=>trivial
theorem aJ.ret{α:Type}{c:Nat}(a:α):aJ c (aZ a):=λr F=>cS _
theorem aJ.ite{α:Type}{c:Nat}{p:Prop}[Decidable p]{f g:ad α}(hf:aJ c f)(bt:aJ c g):aJ c (if p then f else g):=by grind
theorem aJ.iD{c:Nat}{f:ad Unit}(hf:∀r F,match f r F with| .ok _ r' b=>r'.length<=r.length/\b=F| .more _ nd ds=>nd.length<=c/\ds=F|_=>True):aJ c f:=by
 intro r F;have:=hf r F;cases hm:f r F with
 |ok a ae d=>rw[hm] at this;obtain⟨M,rfl⟩:=this;grind[ek]
 |more op nd ds=>rw[hm] at this;obtain⟨M,rfl⟩:=this;grind[ek]
 |bad _=>trivial
 |deep _=>trivial
theorem aJ.cQ{c:Nat}(k:Nat):aJ c (b5 k):=aJ.iD λr F=>⟨by simp,rfl⟩
theorem aJ.cW{c:Nat}{x:H}(h:x.length<=c):aJ c (bQ x):=by
 intro r F;cases Y:bn r with
 |none=>rw[iN Y];exact aJ.cb (α:=Tok) h r F
 |some r'=>rw[cu Y];have:=(ef Y).length_le;grind[ek]
theorem aJ.rep{σ α:Type}{c:Nat}{f:σ->ad (σ⊕α)}(hf:∀s,aJ c (f s))(s:σ):aJ c (ck f s):=by
 have d:∀(bz:Nat)(s:σ)(r:H)(F:ai),r.length<=bz->ek c r F (ck f s r F):=by
  intro bz;induction bz with
  |zero=>
   intro s r F g;rw[cK];have:=hf s r F;unfold cX;cases hm:f s r F with
   |ok x ae e=>
    rw[hm] at this;cases x with
    |inl s'=>simp only;rw[aO (by omega)];trivial
    |inr a=>exact this
   |more _ _ _=>rw[hm] at this;exact this
   |bad _=>trivial
   |deep _=>trivial
  |succ bz h=>
   intro s r F g;rw[cK];have:=hf s r F;unfold cX;cases hm:f s r F with
   |ok x ae e=>
    rw[hm] at this;cases x with
    |inl s'=>
     simp only[ek] at this;simp only;split
     ·have U:=h s' ae e (by omega);cases i:ck f s' ae e with
      |ok b j k=>grind[ek]
      |more op nd ds=>grind[ek]
      |bad _=>trivial
      |deep _=>trivial
     ·trivial
    |inr a=>exact this
   |more _ _ _=>rw[hm] at this;exact this
   |bad _=>trivial
   |deep _=>trivial
 exactλr F=>d _ s r F (cS _)
theorem aJ.exp{c:Nat}(b:Tok->Bool)(k:Nat):aJ c (m9 b k):=(aJ.cW (by simp)).N λt=>aJ.ite (aJ.cb (by simp)) (aJ.ite (aJ.cQ _) aJ.bE)
theorem aJ.ji{c:Nat}(o:H):aJ c (Go.Eng.ji o):=aJ.exp _ _
theorem aJ.cF{c:Nat}(o:H):aJ c (Go.Eng.cF o):=aJ.exp _ _
theorem TE:∀(F:ai)(t nd:H),lh F t= .inr nd->nd.length<=eC F
 |[],t,nd,h=>by cases h
 |d::ds,t,nd,h=>by
  unfold lh at h;split at h
  ·have:=TE ds _ nd h;grind[eC,mf,List.length_append,List.length_cons]
  ·cases h;exact cS _
theorem aJ.nl{c:Nat}:aJ c jw:=by
 intro r F;cases r with
 |nil=>exact cS _
 |cons b t=>
  unfold jw;simp only;cases a:lh F t with
  |inl r'=>have:=((ve F t [] r' a).1).length_le;grind[ek,eC,mf,List.length_nil,List.length_cons]
  |inr nd=>have:=TE F t nd a;grind[ek,eC,mf,List.length_nil]
theorem aJ.lines{c:Nat}:aJ c c5:=aJ.rep (λ_=>(aJ.cW (by simp)).N λt=>aJ.ite (aJ.nl.N λ_=>aJ.ret _) (aJ.ret _)) _
theorem aJ.part{D:ad Unit}(hD:aJ 10 D){dq:Option (ad Unit)}(d:∀q,dq=some q->aJ 50 q):aJ 11 (cD D dq):=by
 intro r F;cases r with
 |nil=>exact cS _
 |cons b t=>
  have e:∀(f:H->Option H)(x:UInt8),(∀r q,f r=some q->q.length<=r.length)->ek 11 (b::t) F (jx f [x] t F):=by grind[jx,ek,List.length_cons,List.length_nil]
  unfold cD;simp only;split
  ·grind[ek,List.length_drop,List.length_cons]
  ·split
   ·exact e _ _ λr q g=>(c r q g)
   ·split
    ·exact hD.mono (by decide) _ _
    ·cases dq with
     |none=>grind[ek,List.length_cons]
     |some q=>
      simp only;split
      ·grind[Nat.le_of_lt,ze]
      ·split
       ·have:=d q rfl t F;cases hm:q t F with
        |ok a ae i=>grind[ek,List.length_cons]
        |more op nd ds=>grind[ek,List.length_cons]
        |bad _=>trivial
        |deep _=>trivial
       grind[ek,List.length_cons]
where
 c:∀(r q:H),hB r=some q->q.length<=r.length:=by
  intro r q h
  have:∀(n:Nat)(r q:H),r.length<=n->hB r=some q->q.length<=r.length:=by
   intro n;induction n with
   |zero=>simp_all[nQ,Nat.le_zero,hB]
   |succ n j=>
    intro r q av h;cases r with
    |nil=>grind
    |cons b t=>unfold hB at h;grind
  exact this _ r q (cS _) h
theorem aJ.xF{p:ad Unit}{n:Nat}(az:aJ n p)(c:UInt8):aJ n (jy c p):=by
 refine aJ.rep (λ_=>?_) _;intro r F;cases r with
 |nil=>exact aJ.cb (α:=Unit⊕Unit) (by simp) [] F
 |cons b t=>
  simp only;split
  ·grind[ek,List.length_cons]
  ·exact(az.N (λ_=>aJ.ret _)) _ _
end
theorem ek.mono{c:Nat}{α:Type}{r0 r:H}{b F:ai}{x:dD α}(h:ek c r F x)(M:eC F+100*r.length<=eC b+100*r0.length):ek c r0 b x:=by
 cases x with
 |ok a ae d=>grind[ek]
 |more op nd ds=>grind[ek]
 |bad _=>trivial
 |deep _=>trivial
theorem ek.ql{c b:Nat}{α:Type}{r:H}{F:ai}{x:dD α}(h:ek c r F x)(M:c<=b):ek b r F x:=by
 cases x with
 |ok a ae d=>exact h
 |more op nd ds=>grind[ek]
 |bad _=>trivial
 |deep _=>trivial
theorem ek.less{c b k:Nat}{α:Type}{r0 r:H}{F:ai}{x:dD α}(h:ek c r F x)(ax:r.length+k<=r0.length)(ay:c<=b+100*k):ek b r0 F x:=by
 cases x with
 |ok a ae d=>grind[ek]
 |more op nd ds=>grind[ek]
 |bad _=>trivial
 |deep _=>trivial
theorem ek.N{c:Nat}{α β:Type}{m:ad α}{k:α->ad β}{r v:H}{F:ai}(h:ek c r F (m v F))(aw:∀a,aJ c (k a)):ek c r F (Go.Eng.N m k v F):=by
 unfold Go.Eng.N;cases hm:m v F with
 |ok a ae b=>rw[hm] at h;have:=aw a ae b;exact this.mono (by grind[ek])
 |more op nd ds=>rw[hm] at h;exact h
 |bad _=>trivial
 |deep _=>trivial
theorem aJ.TF{c a:Nat}{α:Type}{k:Nat}{f:ad α}(hf:aJ c f){r:H}{F:ai}(ax:k<=r.length)(ay:c<=a+100*k):ek a r F (Go.Eng.N (b5 k) (λ_=>f) r F):=
 (hf (r.drop k) F).less (by grind) ay
section
variable{D:ad Unit}(hD:aJ 10 D)
include hD
theorem aJ.double:aJ 50 (eJ D):=((((aJ.xF (n:=11) (aJ.part hD (dq:=none) (λq h=>by cases h)) 34)).aI [34]).named [34]).mono (by decide)
theorem aJ.vn:aJ 11 (cD D (some (eJ D))):=aJ.part hD λq h=>by grind[aJ.double]
theorem aJ.param:aJ 12 (qG D):=(aJ.xF (aJ.vn hD) 125).aI [125]
theorem aJ.cO:aJ 11 (Go.Eng.cO D):=by
 refine aJ.rep (λ_=>?_) _;intro r F;cases r with
 |nil=>exact aJ.cb (α:=Unit⊕Unit) (by simp) [] F
 |cons b t=>
  simp only;split
  ·exact cS _
  ·exact((aJ.vn hD).N (λ_=>aJ.ret _)) _ _
theorem aJ.jK{x:H}(a:x.length<=11):aJ 11 (Go.Eng.jK D x):=(aJ.cW a).N λt=>by grind[aJ.cb,aJ.cO,aJ.bE]
omit hD in
theorem am0{r:H}{x:H×H×H}(h:dr r=some x):x.1.length+x.2.1.length<=r.length+1/\x.2.2.length<=1:=by
 have Y:=ZL _ r (cS _);cases ay:gK r with
 |none=>grind
 |some y=>
  obtain⟨q,b⟩:=y;rw[ay] at Y;obtain⟨w,Z,aD⟩:=Y;rw[h] at aD;have c:=ZO _ _ _ ay;cases a:dl (w++b) 0 with
  |none=>grind
  |some d=>rw[a] at aD;cases aD;have:=Zm _ _ (cS _) 0 d a;grind
omit hD in
theorem aJ.qO{tabs:Bool}{r0 v:H}{F:ai}(ax:v.length+1<=r0.length):ek 10 r0 F (gS tabs v F):=by
 have a:∀d:H,eC (F++[(d,tabs)])=eC F+d.length+1:=by intro d;rw[aax];grind[eC,mf]
 have M:ek 10 r0 F (.more [] [120] (F++[([120],tabs)]):dD Unit):=by grind[ek,List.length_cons,List.length_nil]
 unfold gS;cases Y:bn v with
 |none=>exact M
 |some r'=>
  have b:=(ef Y).length_le;simp only;cases c:an r' with
  |eof=>exact M
  |line=>trivial
  |op o=>trivial
  |word w p=>
   simp only;cases aD:dr r' with
   |none=>trivial
   |some x=>obtain⟨d,q,e⟩:=x;obtain⟨f,g⟩:=am0 aD;have h:=(MJ _ _ _ (cS _) aD).length_le;grind[ek,List.length_nil]
theorem aJ.iB:aJ 11 (dI D):=by
 intro r F;unfold dI;cases Y:bn r with
 |none=>
  have:fX r F=Go.Eng.cb [] r F:=by grind[fX]
  rw[dm (nd:=(cV [] F []).1) (ds:=(cV [] F []).2) (op:=[]) this];exact aJ.cb (α:=Bool) (x:=[]) (by simp) r F
 |some r'=>
  have d:=(ef Y).length_le;have e:(r'.dropWhile cf).length<=r'.length:=(C1).length_le;by_cases Z:fg (bu (r'.dropWhile cf))=true
  ·have a:fX r F= .ok (some (bu (r'.dropWhile cf))) ((r'.dropWhile cf).drop (bu (r'.dropWhile cf)).length) F:=by simp_all[fX,bh]
   rw[aT a];have M:=Tm Z;have U:=Sy (r:=r'.dropWhile cf);generalize r'.dropWhile cf=q at*;have ax:(q.drop (bu q).length).length+1<=r.length:=by grind
   generalize q.drop (bu q).length=v at*;simp only;refine ek.N ?_ λ_=>aJ.ret _;by_cases b:bu q=[60,60]
   ·rw[bh b];exact(aJ.qO (tabs:=false) (F:=F) ax).ql (by decide)
   ·rw[aO b];by_cases c:bu q=[60,60,45]
    ·rw[bh c];exact(aJ.qO (tabs:=true) (F:=F) ax).ql (by decide)
    ·rw[aO c];exact(aJ.jK hD (by decide) v F).less ax (by decide)
  ·have a:fX r F= .ok none r' F:=by simp_all[fX,aO]
   rw[aT a];show eC F+100*r'.length<=eC F+100*r.length;omega
theorem aJ.lY:aJ 11 (g0 D):=aJ.rep (λ_=>(aJ.iB hD).N λb=>aJ.ret _) _
theorem aJ.simple(fr:Bool):aJ 11 (ho fr D):=aJ.rep (λ_=>(aJ.iB hD).N λb=>aJ.ite (aJ.ret _) ((aJ.cW (by simp)).N λt=>by
 cases t with
 |word _ _=>grind[aJ.cO,aJ.N,aJ.ret]
 |op o=>simp[aJ.ite,aJ.bE,aJ.ret]
 |_=>simp[aJ.ret])) _
end
theorem aJ.Nl{c:Nat}(x:H)(h:x.length<=c):aJ c (c5.aI x):=((aJ.lines (c:=0)).aI x).mono (by omega)
theorem aJ.pipe{de:ad Unit}(h:aJ 50 de):aJ 50 (fv de):=(aJ.cW (by decide)).N λt=>(aJ.ite (aJ.cQ _) (aJ.ret _)).N λ_=>h.N λ_=>
 aJ.rep (λ_=>(aJ.cW (by simp)).N λt=>aJ.ite ((aJ.cQ _).N λ_=>(aJ.Nl _ (by decide)).N λ_=>h.N λ_=>aJ.ret _) (aJ.ret _)) _
theorem aJ.oC{a:ad Unit}(h:aJ 50 a):aJ 50 (hT a):=h.N λ_=>
 aJ.rep (λ_=>(aJ.cW (by simp)).N λt=>aJ.ite ((aJ.cQ _).N λ_=>(aJ.Nl _ (by decide)).N λ_=>h.N λ_=>aJ.ret _) (aJ.ret _)) _
theorem aJ.list{da:ad Unit}(h:aJ 50 da)(c:Ctx)(no:Bool):aJ 50 (n4 da c no):=(aJ.Nl _ (by grind)).N λ_=>aJ.rep (λk=>(aJ.cW (by grind)).N λt=>
 aJ.ite (aJ.ite (aJ.ret _) (aJ.cb (by grind))) (aJ.ite (aJ.ret _) (h.N λ_=>(aJ.cW (by simp)).N λt=>by
  cases t with
  |eof=>simp[aJ.ret]
  |line=>exact aJ.lines.N λ_=>aJ.ret _
  |word _ _=>exact aJ.bE
  |op o=>exact aJ.ite ((aJ.cQ _).N λ_=>aJ.lines.N λ_=>aJ.ret _) (aJ.ite (aJ.ret _) aJ.bE)))) _
structure zw(l:dK):Prop where
 ls:∀c no,aJ 50 (l.ls c no)
 pm:aJ 12 l.pm
 cp:∀r F,gz (an r)=true->ek 50 r F (l.cp (an r) r F)
 rd:aJ 11 l.rd
 dl:aJ 10 l.dl
section
variable{l:dK}(ax:zw l)
include ax
theorem aJ.body{x:H}(a:x.length<=60):aJ 60 (iX l x):=(((aJ.cF (c:=0) hn).aI x).mono (by omega)).N λ_=>(((ax.ls _ _).aI _).mono (by decide)).N λ_=>aJ.cF _
theorem aJ.cond:aJ 70 (qI l):=aJ.rep (λ_=>(((ax.ls _ _).aI _).mono (by decide)).N λ_=>(aJ.cF _).N λ_=>(((ax.ls _ _).aI _).mono (by decide)).N λ_=>(aJ.cW (by simp)).N λt=>
 aJ.ite ((aJ.cF _).N λ_=>aJ.ret _) (aJ.ite ((aJ.cF _).N λ_=>(((ax.ls _ _).aI _).mono (by decide)).N λ_=>(aJ.cF _).N λ_=>aJ.ret _) ((aJ.cF _).N λ_=>aJ.ret _))) _
theorem aJ.words:aJ 11 (pt l.dl):=aJ.rep (λ_=>(aJ.cW (by simp)).N λt=>by
 cases t with
 |eof=>simp[aJ.cb]
 |word _ _=>exact(aJ.cO ax.dl).N λ_=>aJ.ret _
 |line=>simp[aJ.ret]
 |op o=>simp[aJ.ite,aJ.cQ,aJ.N,aJ.ret,aJ.bE]) _
theorem aJ.for_:aJ 60 (pv l l.dl):=(aJ.cW (by decide)).N λt=>by
 cases t with
 |eof=>exact aJ.cb (by decide)
 |word w p=>
  cases p with
  |true=>
   refine aJ.ite ((aJ.cQ _).N λ_=>((aJ.aI (c:=11) ((aJ.cW (by simp)).N λt=>?_) eB).mono (by decide)).N λ_=>aJ.body ax (by decide)) aJ.bE
   exact aJ.ite ((aJ.cQ _).N λ_=>aJ.lines.N λ_=>aJ.ret _) (aJ.lines.N λ_=>(aJ.cW (by simp)).N λt=>
    aJ.ite ((aJ.cQ _).N λ_=>(aJ.words ax).N λ_=>aJ.lines.N λ_=>aJ.ret _) (aJ.ret _))
  |false=>exact aJ.bE
 |_=>exact aJ.bE
theorem aJ.vk:aJ 12 (lj l.dl):=aJ.rep (λ_=>(aJ.cW (by decide)).N λt=>by
 cases t with
 |eof=>simp[aJ.cb]
 |word _ _=>
  refine((aJ.cO ax.dl).aI [41]).N λ_=>(aJ.cW (by decide)).N λt=>?_;cases t with
  |op o=>exact aJ.ite ((aJ.cQ _).N λ_=>aJ.ret _) (aJ.ite ((aJ.cQ _).N λ_=>aJ.ret _) aJ.bE)
  |eof=>simp[aJ.cb]
  |_=>exact aJ.bE
 |_=>exact aJ.bE) _
theorem aJ.items:aJ 50 (nJ l l.dl):=aJ.rep (λ_=>aJ.lines.N λ_=>(aJ.cW (by simp)).N λt=>aJ.ite (aJ.cb (by simp)) (aJ.ite ((aJ.cQ _).N λ_=>aJ.ret _)
 ((aJ.ite (aJ.cQ _) (aJ.ret _)).N λ_=>((aJ.vk ax).mono (by decide)).N λ_=>(ax.ls _ _).N λ_=>(aJ.cW (by simp)).N λt=>aJ.ite ((aJ.cQ _).N λ_=>aJ.ret _) (aJ.ret _)))) _
theorem aJ.vl:aJ 60 (qJ l l.dl):=(aJ.cW (by decide)).N λt=>by
 cases t with
 |eof=>exact aJ.cb (by decide)
 |word _ _=>refine((aJ.aI (c:=11) ((aJ.cO ax.dl).N λ_=>aJ.lines.N λ_=>(aJ.cW (by simp)).N λt=>aJ.ite (aJ.cb (by simp)) (aJ.ret _)) ([32]++fW++[10]++eK)).mono (by decide)).N λt=>?_;exact aJ.ite ((aJ.cQ _).N λ_=>((aJ.items ax).aI _).mono (by decide)) aJ.bE
 |_=>exact aJ.bE
theorem ek.kind{r:H}{F:ai}(ay:gz (an r)=true):ek 50 r F (gA l (an r) r F):=by
 obtain⟨c,d⟩:=Z_ ay;have e:(lJ (an r)).length<=r.length:=by
  cases a:an r with
  |eof=>rw[a] at ay;cases ay
  |line=>rw[a] at ay;cases ay
  |op o=>
   have:=(h4 a).2.1.length_le;rw[a] at ay;have b:o=[40]:=by grind[gz]
   subst b;exact this
  |word w p=>
   rw[a] at ay;cases p with
   |false=>cases ay
   |true=>exact(qS a).1.length_le
 rw[aaa ay];have aw:aJ 70 (Df l (an r)):=by
  unfold Df;cases a:an r with
  |op o=>exact(((ax.ls _ _).aI _).mono (by decide)).N λ_=>aJ.ji _
  |word w p=>refine aJ.ite ((((ax.ls _ _).aI _).mono (by decide)).N λ_=>aJ.cF _) (aJ.ite (aJ.cond ax) (aJ.ite ((aJ.for_ ax).mono (by decide)) (aJ.ite ((aJ.vl ax).mono (by decide)) ?_)));exact(((ax.ls _ _).aI _).mono (by decide)).N λ_=>(aJ.body ax (by decide)).mono (by decide)
  |_=>exact aJ.bE
 exact(aw _ F).less (k:=1) (by grind) (by decide)
end
theorem aJ.TG:∀(t:H)(d n:Nat),hR d t= .more n->n<=d+t.length+2
 |[],d,n,h=>by grind[hR]
 |b::t,d,n,h=>by have a:=aJ.TG t;unfold hR at h;grind
theorem aJ.qQ{lo:Option dK}(ax:∀l,lo=some l->zw l):aJ 10 (dy lo):=by
 intro r F;unfold dy;split
 ·rename_i h;rw[DQ] at h;obtain⟨t,rfl⟩:=h;show ek 10 _ F (mG t F);unfold mG;cases Y:hR 0 t with
  |ok q=>have:=(AU 0 t q Y).length_le;grind[ek,List.length_append]
  |more n=>have:=aJ.TG t 0 n Y;grind[ek,List.length_append,List.length_replicate,List.length_cons,List.length_nil]
  |bad q=>trivial
 ·split
  ·rename_i h;rw[DQ] at h;have U:=h.length_le;cases lo with
   |none=>trivial
   |some l=>have a:=ax l rfl;have az:aJ 60 (vd l):=((((a.ls _ _).aI _).mono (by decide)).named _).N λ_=>aJ.ji _;exact aJ.TF az (k:=2) (by omega) (by decide)
  ·split
   ·rename_i h;rw[DQ] at h;have U:=h.length_le;cases lo with
    |none=>trivial
    |some l=>exact aJ.TF ((ax l rfl).pm.named _) (k:=2) (by omega) (by decide)
   grind[ek,List.length_drop]
theorem aJ.function{fr:Bool}{lo:Option dK}(ax:∀l,lo=some l->zw l){u:H}{F:ai}:ek 50 (40::u) F (kH fr lo (40::u) F):=by
 unfold kH;cases lo with
 |none=>trivial
 |some l=>
  have b:=ax l rfl;dsimp only;split
  ·have av:∀{α:Type}{c:Nat}{m:ad α}{r:H}{F:ai}{x:H},ek c r F (m r F)->ek c r F (m.named x r F):=by
    intro α c m r F x h;unfold ad.named;cases hm:m r F with
    |more op nd ds=>rw[hm] at h;exact h
    |ok a ae d=>grind
    |bad _=>trivial
    |deep _=>trivial
   refine av ?_;refine aJ.TF (c:=60) (k:=1) ?_ (by simp) (by decide);refine(aJ.cW (by decide)).N λt=>aJ.ite (aJ.cb (by decide)) (aJ.ite ((aJ.cQ _).N λ_=>(aJ.Nl _ (by decide)).N λ_=>?_) aJ.bE);intro r F;cases Y:bn r with
   |none=>rw[dm (iN Y)];exact aJ.cb (α:=Unit) (by decide) r F
   |some r'=>
    rw[aT (cu Y)];have e:=(ef Y).length_le;refine ek.mono (r:=r') (F:=F) ?_ (by omega);split
    ·exact aJ.cb (α:=Unit) (by decide) _ _
    ·split
     ·rename_i ay;exact(ek.N ((b.cp r' F ay).ql (by decide)) λ_=>aJ.ite (b.rd.mono (by decide)) (aJ.ret _))
     ·trivial
  ·trivial
theorem aJ.command{fr:Bool}{lo:Option dK}(ax:∀l,lo=some l->zw l):aJ 50 (fM fr lo (dy lo)):=by
 have hD:=aJ.qQ ax;intro r F;unfold fM;cases Y:bn r with
 |none=>rw[dm (iN Y)];exact aJ.cb (α:=Unit) (by decide) r F
 |some r'=>
  rw[aT (cu Y)];have e:=(ef Y).length_le;refine ek.mono (r:=r') (F:=F) ?_ (by omega);by_cases M:an r'= .eof
  ·rw[bh M];exact aJ.cb (α:=Unit) (by decide) _ _
  rw[aO M];by_cases ay:gz (an r')=true
  ·rw[bh ay];refine ek.N ?_ λ_=>(aJ.lY hD).mono (by decide);cases lo with
   |none=>trivial
   |some l=>
    have:=ek.kind (ax l rfl) ay (r:=r') (F:=F);show ek 50 r' F ((gA l (an r')).named _ r' F);unfold ad.named;cases hm:gA l (an r') r' F with
    |more op nd ds=>rw[hm] at this;exact this
    |ok a ae f=>grind
    |bad _=>trivial
    |deep _=>trivial
  ·rw[aO ay];cases g:an r' with
   |eof=>grind
   |line=>trivial
   |op o=>exact aJ.ite (((aJ.iB hD).mono (by decide)).N λ_=>(aJ.simple hD fr).mono (by decide)) aJ.bE _ _
   |word w p=>
    refine aJ.ite aJ.bE (((aJ.iB hD).mono (by decide)).N λb=>aJ.ite ((aJ.simple hD fr).mono (by decide)) (((aJ.cO hD).mono (by decide)).N λ_=>aJ.ite ?_ ((aJ.simple hD fr).mono (by decide)))) _ _;intro r F;cases Y:bn r with
    |none=>rw[dm (iN Y)];exact aJ.cb (α:=Unit) (by decide) r F
    |some d=>
     rw[aT (cu Y)];have e:=(ef Y).length_le;refine ek.mono (r:=d) (F:=F) ?_ (by omega);by_cases c:an d= .op [40]
     ·rw[bh c];obtain⟨u,rfl⟩:=(h4 c).2.1;exact ek.N (aJ.function ax) λ_=>aJ.ite (aJ.ret _) ((aJ.lY hD).mono (by decide))
     ·rw[aO c];exact(aJ.simple hD fr).mono (by decide) _ _
theorem aay{fr:Bool}{lo:Option dK}(ax:∀l,lo=some l->zw l)(b:Bool):zw {ls:=n4 (hT (fv (fM fr lo (dy lo)))),pm:=qG (dy lo),cp:=qK lo,rd:=g0 (dy lo),dl:=dy lo,has:=b}:=by
 have hD:=aJ.qQ ax;refine⟨λc no=>aJ.list (aJ.oC (aJ.pipe (aJ.command ax))) c no,aJ.param hD,λr F ay=>?_,aJ.lY hD,hD⟩;cases lo with
 |none=>trivial
 |some l=>
  have:=ek.kind (ax l rfl) ay (r:=r) (F:=F);show ek 50 r F ((gA l (an r)).named _ r F);unfold ad.named;cases hm:gA l (an r) r F with
  |more op nd ds=>rw[hm] at this;exact this
  |ok a ae d=>grind
  |bad _=>trivial
  |deep _=>trivial
theorem ue(fr:Bool):∀n,zw (aS fr n)
 |0=>aay (λl h=>by cases h) false
 |n+1=>aay (λl h=>by cases h;exact ue fr n) true
end Go.Eng
namespace Go.Eng
open Go Go.Proofs
theorem Nm{S r:H}(Z:r<:+S):CA (ar S r) S.length=some (ar S r):=by grind[CA,ar,eY,pz]
theorem am1{S:H}(dt:S.length<=1000000):∀(n:Nat)(r:H),r.length<n->r<:+S->fixF (Mb S λ_=>some (-1)) n (ar S r)=some (lL S (gy r)):=by
 intro n;induction n with
 |zero=>omega
 |succ n a=>
  intro r av Z;rw[fm];generalize fixF (Mb S _) n=k at a;unfold Mb;cases r with
  |nil=>simp[iv,gy,lL]
  |cons b t=>
   have c:=iQ dt Z;simp only[nO Z,bA,aL];rw[bX ⟨(g5 Z).1,trivial⟩];simp only[jA Z,c,rP];unfold gy;by_cases d:b=39
   ·grind[lL]
   ·simp only[d,bH,aU,cH];grind[List.length_cons,dS]
theorem am2{S r:H}(dt:S.length<=1000000)(Z:r<:+S):E5 S (ar S r)=some (lL S (gy r)):=by unfold E5 a6;rw[Nm Z,aP rfl];grind[am1,mj,Nat.le_trans,eY]
theorem am3{S:H}(dt:S.length<=1000000):∀(n:Nat)(r:H),r.length+1<n->r<:+S->fixF (E3 S λ_=>some (-1)) n (ar S r)=some (lL S (hB r)):=by
 intro n;induction n with
 |zero=>omega
 |succ n e=>
  intro r av Z;have h:=eY Z;have a:n≠0->fixF (E3 S λ_=>some (-1)) n ((S.length:Int)+1)=some (-1):=by
   intro h0
   obtain⟨m,rfl⟩:∃m,n=m+1:=⟨n-1,by omega⟩
   grind[fm,E3]
  rw[fm];generalize fixF (E3 S _) n=k at e a;unfold E3 a6;cases r with
  |nil=>simp[iv,hB,lL]
  |cons b t=>
   have f:=iQ dt Z;have i:(b::t).length=t.length+1:=rfl;simp only[nO Z,bA,aL];rw[bX ⟨(g5 Z).1,trivial⟩];simp only[jA Z,f,oF,nc];unfold hB;by_cases g:b=96
   ·grind[lL]
   simp only[g,bH,aU,cH];rw[bX ⟨(g5 Z).1,trivial⟩];by_cases d:b=92
   ·subst d;simp only[bA,aL,cU];cases t with
    |nil=>
     have:W (ar S []+1)=(S.length:Int)+1:=by grind[iv,dJ]
     rw[this];exact a (by omega)
    |cons c u=>grind[iQ,dS,List.length_cons]
   ·simp only[d,bH,aU,cH];grind[dS]
theorem am4{S r:H}(dt:S.length<=1000000)(Z:r<:+S):CE S (ar S r)=some (lL S (hB r)):=by unfold CE a6;rw[Nm Z,aP rfl];grind[am3,eY,gF]
theorem am5(l:H)(ax:(l.length:Int)<=1048576)(a g:Int->Option (Int×Int))(y:∀d,a d=g d)(z:∀d,∃v,g d=some v):∀(m:Nat)(d k:Int),0<=d->d<=k->k<=2000000->(l.length:Int)-k<m->0<m->
  ∃v,fixF (Sd l a) m (d,k)=some v/\fixF (ED l g) m (d,k)=some v:=by
 intro m;induction m with
 |zero=>omega
 |succ m i=>
  intro d k aD j A hm _;have aw:0<=k:=by omega
  simp only[fixF,Sd,ED,a2,a6];by_cases M:k<(l.length:Int)
  ·simp only[M,aw,bA,aL,cU,oa];rw[dJ (x:=k+1) (by omega) (by omega),dJ (x:=k+2) (by omega) (by omega),dJ (x:=d+1) (by omega) (by omega),dJ (x:=d-1) (by omega) (by omega)];have o:0<=k+1:=by omega
   have c:=λ(e:Int)(M:0<=e)(U:e<=k+1)=>i e (k+1) M U (by omega) (by omega) (by omega);have u0:=c d (by omega) (by omega);have u1:=c (d+1) (by omega) (by omega);by_cases U:k+1<(l.length:Int)
   ·have f:¬k+1=(l.length:Int):=by omega
    simp only[U,f,o,bA,bH,aL,aU,cU,oa,implies_true];generalize ((at' l k).toNat:Int)=b;generalize ((at' l (k+1)).toNat:Int)=n;by_cases p:b=39
    ·grind
    by_cases q:b=34
    ·grind
    by_cases r:b=92
    ·grind
    by_cases s:b=96
    ·grind
    by_cases t:b=40
    ·grind
    by_cases h:b=41
    ·subst h;by_cases az:0<d
     ·have u:=c (d-1) (by omega) (by omega);grind
     grind
    grind
   ·have w:((0:UInt8).toNat:Int)=0:=rfl;simp only[U,bH,aU,w,fo,false_implies,implies_true,cU];generalize ((at' l k).toNat:Int)=b;have f:k+1=(l.length:Int):=by omega
    simp only[f,bA];rw[<-f];by_cases p:b=39
    ·grind
    by_cases q:b=34
    ·grind
    by_cases r:b=92
    ·grind
    by_cases s:b=96
    ·grind
    by_cases t:b=40
    ·grind
    by_cases h:b=41
    ·subst h;by_cases az:0<d
     ·have u:=c (d-1) (by omega) (by omega);grind
     grind
    grind
  ·simp only[M,bH,aU];simp_all
theorem am6{S r:H}(dt:S.length<=1000000)(Z:r<:+S):Ix S (ar S r)=some (qX S (hR 0 r)):=by
 have bg:=ZA dt Z;have h0:0<=ar S r:=by grind[eY,ar]
 have hle:= @pz r S;obtain⟨v,M,U⟩:=am5 S (by omega) (λx=>some ((-1),(W (x+2)))) (λx=>some ((-1),(W (x+2)))) (λ_=>rfl) (λd=>⟨_,rfl⟩) bC 0 (ar S r) (by omega) h0 (by omega) (by grind[gF]) (by simp[gF]);have a:Ix S (ar S r)=some v:=by unfold Ix a6;rw[Nm Z,aP rfl];exact M
 have b:EE S (ar S r)=some v:=by unfold EE a6;rw[I8 Z,aP rfl];exact U
 grind
theorem am7{S d:H}{tabs:Bool}{r:H}(dt:S.length<=1000000)(Z:r<:+S):H6 S (ar S r) d tabs=some (match kZ d tabs r with|some q=>ar S q|none=> -1):=by
 have bg:=Zv (d:=d) (tabs:=tabs) dt Z;have h0:0<=ar S r:=by grind[eY,ar]
 have hle:= @pz r S;obtain⟨v,ae,a⟩:=alu S d tabs (by omega) bC (ar S r) h0 hle (by grind[gF]) (by simp[gF]);have b:H6 S (ar S r) d tabs=some v:=by unfold H6;rw[Nm Z,aP rfl];exact ae
 have c:Ex S (ar S r) d tabs=some v:=by unfold Ex;rw[I8 Z,aP rfl];exact a
 grind
theorem TL{S r:H}(dt:S.length<=1000000)(Z:r<:+S):AA S (ar S r)=some (bu r):=by
 have M:¬ar S r<0:=by grind[eY,ar]
 unfold AA RE;by_cases U:(S.length:Int)<=ar S r
 ·have a:r=[]:=zl.1 (show ar S r=S.length by have:= @pz r S;omega);simp_all[bu,kG,w3,List.isPrefixOf]
 ·simp only[M,U,bH,aU];rw[aP rfl];unfold a6;show fixF (L1 S (ar S r) kG λ_=>some []) bC 0=_;rw[(Zh S (ar S r) (by omega) (by omega) (by omega) kG (by decide) (by decide) (λ_=>some []) bC 0 (by omega) (by decide) (by rw[gF];decide) (by simp[gF])).1];rw[S5 Z];grind[bu,Lib.hasPrefix,List.isPrefixOf,List.find?,kG]
theorem Nn(w:H)(l:bw)(ax:l.length<=1000):AD w l=some (l.contains w):=by
 have a:∀(n i:Nat),l.length-i<n->i<=l.length->fixF (L6 w l λ_=>some false) n (i:Int)=some ((l.drop i).contains w):=by
  intro n;induction n with
  |zero=>omega
  |succ n b=>
   intro i av bg;rw[fm];generalize fixF (L6 w l _) n=k at b;unfold L6;by_cases c:i<l.length
   ·have d:(i:Int)<(l.length:Int):=by omega
    have e:l.drop i=at' l (i:Int)::l.drop (i+1):=by rw[OC c];simp_all[at',adE,adH]
    simp only[d,bA,aL];rw[bX ⟨by omega,trivial⟩,dJ (by omega) (by omega),e];by_cases he:at' l (i:Int)=w
    ·grind
    ·have:=b (i+1) (by omega) (by omega);have f:(i:Int)+1=((i+1:Nat):Int):=by omega
     simp only[he,bH,aU,f];rw[this];have:(w==at' l (i:Int))=false:=by grind
     rw[List.contains_cons,this,Bool.false_or]
   grind
 unfold AD a6;have:=a bC 0 (by grind[gF]) (by omega);grind
theorem aaA(w:H):AE w=some (oB w):=by unfold AE;rw[aP (Nn w _ (by decide))];rfl
theorem aaB(w:H):H7 w=some (rI w):=by unfold H7;rw[aP (Nn w _ (by decide))];rfl
theorem FY(w:H):xy w=some (fg w):=by unfold xy;rw[aP (Nn w _ (by decide))];rfl
structure cn where
 S:H
 ne:Int
def cn.st(e:cn)(r:H)(F:ai)(ah:Bool):aa:=(e.S,ar e.S r,e.ne,F,0,0,[],[],ah)
def cn.tt(e:cn)(F:ai):aa:=(e.S,e.S.length,e.ne,F,0,0,[],[],true)
structure cG(e:cn)(r:H)(F:ai):Prop where
 b3:e.S.length<=1000000
 nl:dL e.S
 Jk:e.S≠[]
 sfx:r<:+e.S
 kb:eC F+100*r.length<=100*e.S.length
theorem cG.mono{e:cn}{r r':H}{F:ai}(h:cG e r F)(M:r'<:+r):cG e r' F:=
 ⟨h.b3,h.nl,h.Jk,M.trans h.sfx,by have:=h.kb;grind⟩
structure oJ(e:cn)(r0:H)(st:aa):Prop where
 s:st.1=e.S
 lo:ar e.S r0<=st.2.1
 bg:st.2.1<=(e.S.length:Int)+1+r0.length
 nd:st.2.2.2.2.2.2.1.length+eC st.2.2.2.1<=100*e.S.length+1000
 op:st.2.2.2.2.2.2.2.1.length<=r0.length+1
def ja(q:Bool)(e:cn)(r0:H)(nd:H)(ds:ai)(st:aa):Prop:=
 (st.2.2.2.2.1=1/\st.2.2.2.2.2.2.1=nd/\st.2.2.2.1=ds/\oJ e r0 st/\(e.S.length:Int)<=st.2.1)\/(q=true/\nd=[]/\st=e.tt ds)
def jk(e:cn)(r0:H)(st:aa):Prop:=st.2.2.2.2.1=2/\oJ e r0 st
def gC(e:cn)(r:H)(F:ai)(st:aa):Prop:=∃ah,st=e.st r F ah/\(r=[]->ah=false)
def bR{α β:Type}(q:Bool)(e:cn)(r0:H)(m:dD α)(pr:β->aa)(cv:α->H->β->Prop)(y:Option β):Prop:=∃b,y=some b/\match m with
 | .ok a r F=>r<:+r0/\cG e r F/\gC e r F (pr b)/\cv a r b
 | .more _ nd ds=>ja q e r0 nd ds (pr b)
 | .bad _=>jk e r0 (pr b)
 | .deep _=>jk e r0 (pr b)
theorem oJ.mono{e:cn}{r0 ae:H}{st:aa}(h:oJ e r0 st)(M:r0<:+ae):oJ e ae st:=by
 have:=M.length_le;have U:ar e.S ae<=ar e.S r0:=by grind[ar]
 exact⟨h.s,by have:=h.lo;omega,by have:=h.bg;omega,h.nd,by have:=h.op;omega⟩
theorem ja.mono{q:Bool}{e:cn}{r0 ae:H}{nd:H}{ds:ai}{st:aa}(h:ja q e r0 nd ds st)(M:r0<:+ae):ja q e ae nd ds st:=by
 rcases h with⟨a,b,c,d,f⟩|h
 ·exact .inl ⟨a,b,c,d.mono M,f⟩
 ·exact .inr h
theorem ja.up{q:Bool}{e:cn}{r0:H}{nd:H}{ds:ai}{st:aa}(h:ja false e r0 nd ds st):ja q e r0 nd ds st:=by
 rcases h with h|h
 ·exact .inl h
 grind
theorem ja.z{e:cn}{r0:H}{nd:H}{ds:ai}{st:aa}(h:ja false e r0 nd ds st):st.2.2.2.2.1=1/\st.2.2.2.2.2.2.1=nd/\st.2.2.2.1=ds/\oJ e r0 st/\(e.S.length:Int)<=st.2.1:=by
 rcases h with h|h
 ·exact h
 grind
theorem jk.mono{e:cn}{r0 ae:H}{st:aa}(h:jk e r0 st)(M:r0<:+ae):jk e ae st:=⟨h.1,h.2.mono M⟩
theorem bR.mono{q:Bool}{α β:Type}{e:cn}{r0 ae:H}{m:dD α}{pr:β->aa}{cv:α->H->β->Prop}{y:Option β}(h:bR q e r0 m pr cv y)(M:r0<:+ae):bR q e ae m pr cv y:=by obtain⟨b,a,h⟩:=h;refine⟨b,a,?_⟩;grind[trans,ja.mono,jk.mono]
theorem bR.eh{q:Bool}{α β:Type}{e:cn}{r0:H}{m:dD α}{pr:β->aa}{cv:α->H->β->Prop}{y a:Option β}(h:bR q e r0 m pr cv y)(b:a=y):bR q e r0 m pr cv a:=b▸h
theorem bR.iZ{q o:Bool}{α p s β l:Type}{C:dD p->dD s}(n:db C){e:cn}{r0 r:H}{F:ai}{m:ad α}{k:α->ad p}{pr:β->aa}{cv:α->H->β->Prop}{i:l->aa}{cv':s->H->l->Prop}{y:Option β}{K:β->Option l}
  (h:bR o e r0 (m r F) pr cv y)
  (aw:∀a ae d b,m r F= .ok a ae d->ae<:+r0->cG e ae d->gC e ae d (pr b)->cv a ae b->bR q e r0 (C (k a ae d)) i cv' (K b))
  (hm:∀op nd ds b,m r F= .more op nd ds->ja o e r0 nd ds (pr b)->∃c,K b=some c/\ja q e r0 nd ds (i c))
  (t:∀b,jk e r0 (pr b)->∃c,K b=some c/\jk e r0 (i c)):
  bR q e r0 (C (Go.Eng.N m k r F)) i cv' (au y K):=by
 obtain⟨b,u,h⟩:=h;rw[u,aP rfl];unfold Go.Eng.N;cases j:m r F with
 |ok a ae d=>grind
 |more op nd ds=>rw[j] at h;obtain⟨c,f,g⟩:=hm op nd ds b j h;rw[n.more];exact⟨c,f,g⟩
 |bad q=>rw[j] at h;obtain⟨c,f,g⟩:=t b h;rw[n.bad];exact⟨c,f,g⟩
 |deep q=>rw[j] at h;obtain⟨c,f,g⟩:=t b h;rw[n.deep];exact⟨c,f,g⟩
theorem wI(e:cn)(r:H)(a b c:Int)(d:ai)(f:H)(g:bw)(h:Bool):gY (e.S,ar e.S r,a,d,b,c,f,g,h)=some (decide (r=[])):=by
 unfold gY;have:((e.S.length:Int)<=ar e.S r)↔r=[]:=by rw[<-zl (S:=e.S)];have:= @pz r e.S;omega
 grind
theorem wJ{e:cn}{r:H}(Z:r<:+e.S)(a c d:Int)(f:ai)(g:H)(h:bw)(i:Bool):je (e.S,ar e.S r,a,f,c,d,g,h,i)=some (r.headD 0):=by
 unfold je;rw[wI,aP rfl];cases r with
 |nil=>rfl
 |cons b t=>simp only[reduceCtorEq,bH,aU];simp_all[bX,g5,jA]
theorem TM(b:UInt8):Cy b=some (fL b):=by grind[Cy,fL,SZ,I2]
theorem Jl{e:cn}{r:H}(a:e.S.length<=1000000)(Z:r<:+e.S)(b c d:Int)(f:ai)(g:H)(h:bw)(i:Bool):iq (e.S,ar e.S r,b,f,c,d,g,h,i)=some (bu r):=by unfold iq;rw[TL a Z];rfl
theorem xQ(e:cn)(F:ai):e.tt F=e.st [] F true:=by rfl
def FZ(e:cn)(r:H)(F:ai)(ah:Bool)(y:Option aa):Prop:=match bn r with
 |some r'=>∃a,y=some (e.st r' F a)/\(a=ah\/a=true)
 |none=>y=some (e.tt F)
theorem am8{e:cn}{I:aa}{ah:Bool}(a:I.1=e.S){j:Int->Option aa}(dt:e.S.length<=1000000):∀(n:Nat)(r:H),r.length<n->r<:+e.S->fixF (EY I ah j) n (ar e.S r)=j (ar e.S (lV r)):=by
 intro n;induction n with
 |zero=>omega
 |succ n c=>
  intro r av Z;rw[fm];generalize fixF (EY I ah j) n=k at c;unfold EY;rw[a];rw[wI,aP rfl];cases r with
  |nil=>rfl
  |cons b t=>
   simp only[reduceCtorEq,bH,fp,aL];rw[bX (λ_=>g5 Z),jA Z,iQ dt Z];simp only[p_];unfold lV;by_cases d:b=10
   ·grind
   ·simp only[d,bH,fp,aL,cH];grind[List.length_cons,dS]
theorem am9{e:cn}{F:ai}(dt:e.S.length<=1000000)(I:aa)(l:∃r0 tr0,I=e.st r0 F tr0):∀(n:Nat)(r:H)(ah:Bool),r.length<n->r<:+e.S->
  FZ e r F ah (fixF (Cz I λx=>some (I.1,x.1,I.2.2.1,I.2.2.2.1,I.2.2.2.2.1,I.2.2.2.2.2.1,I.2.2.2.2.2.2.1,I.2.2.2.2.2.2.2.1,x.2)) n (ar e.S r,ah)):=by
 obtain⟨r0,tr0,rfl⟩:=l;intro n;induction n with
 |zero=>omega
 |succ n a=>
  intro r ah av Z;rw[fm];generalize fixF (Cz (e.st r0 F tr0) _) n=k at a;unfold Cz a6;dsimp only;have he:gY ((e.st r0 F tr0).1,ar e.S r,(e.st r0 F tr0).2.2.1,(e.st r0 F tr0).2.2.2.1,(e.st r0 F tr0).2.2.2.2.1,(e.st r0 F tr0).2.2.2.2.2.1,(e.st r0 F tr0).2.2.2.2.2.2.1,(e.st r0 F tr0).2.2.2.2.2.2.2.1,ah)=some (decide (r=[])):=wI e r _ _ _ _ _ _ _;rw[he,aP rfl];unfold FZ;cases r with
  |nil=>rw[mg];exact⟨ah,rfl,.inl rfl⟩
  |cons b t=>
   have i:t.length<n:=by grind
   simp only[reduceCtorEq,bH,fp,aL];have d:(e.st r0 F tr0).1=e.S:=rfl;rw[d];rw[bX (g5 Z),jA Z,TM,aP rfl,iQ dt Z];by_cases f:fL b=true
   ·rw[FI f,f];exact a t ah i (dS Z)
   have m:fL b=false:=by grind
   rw[m];simp only[aU,nc,Zn];by_cases j:b=92
   ·subst j;cases t with
    |nil=>
     rw[Zp];refine⟨ah,?_,.inl rfl⟩;have h0:decide (ar e.S []<(e.S.length:Int))=false:=by simp[iv]
     simp only[bA,aL,h0,aU];rfl
    |cons c u=>
     simp only[bA,aL,nO (dS Z)];rw[bX (λ_=>⟨(g5 (dS Z)).1,trivial⟩),jA (dS Z)];simp only[p_];by_cases ay:c=10
     ·subst ay;have o:W (ar e.S (92::10::u)+2)=ar e.S u:=kK (w:=[92,10]) dt Z;rw[o,S1];simp only[bA,aL];by_cases hu:u=[]
      ·subst hu;rw[bh rfl];have:=a [] true (by grind) List.nil_suffix;unfold FZ at this;rw[mg] at this;obtain⟨p,M,U⟩:=this;have:p=true:=by rcases U with rfl|rfl<;>rfl
       subst this;simp only;rw[xQ];exact M
      ·rw[aO hu];have:=a u true (by grind) (dS (dS Z));unfold FZ at this;grind
     ·rw[S0 ay];simp only[ay,bH,aU,show¬((92:UInt8)=35) by decide];exact⟨ah,rfl,.inl rfl⟩
   ·have q:decide (b=92)=false:=by grind
    rw[q];simp only[aU];rw[bX (λh=>by cases h)];by_cases g:b=35
    ·subst g;rw[S2];simp only[bA,aL];have aD:fixF (EY (e.st r0 F tr0) ah λs=>k (s,ah)) bC (ar e.S (35::t))=k (ar e.S (lV (35::t)),ah):=am8 (e:=e) rfl dt _ _ (mj (kN (eY Z) dt)) Z;rw[aD];have:lV (35::t)=lV t:=by rfl
     rw[this];exact a _ ah (Nat.lt_of_le_of_lt (AR t) i) ((Fp t).trans (dS Z))
    ·rw[S3 f g j];simp only[g,bH,aU];exact⟨ah,rfl,.inl rfl⟩
theorem ana{e:cn}{r:H}{F:ai}{ah:Bool}(h:cG e r F):FZ e r F ah (hP (e.st r F ah)):=by unfold hP a6;exact am9 h.b3 _ ⟨r,ah,rfl⟩ bC r ah (mj (kN (eY h.sfx) h.b3)) h.sfx
theorem dL.iD{r S:H}(h:dL S)(Z:r<:+S):dL r:=by
 obtain⟨u,rfl⟩:=Z;induction u with
 |nil=>exact h
 |cons b u a=>exact a h.tail
theorem aaC{r r':H}(a:dL r)(Z:r≠[])(Y:bn r=some r'):r'≠[]:=by
 have d:∀(n:Nat)(r r':H),r.length<=n->dL r->r≠[]->bn r=some r'->r'≠[]:=by
  intro n;induction n with
  |zero=>grind
  |succ n e=>
   intro r r' av a Z Y;cases r with
   |nil=>grind
   |cons b t=>
    have j:t.length<=n:=by grind
    have f:b≠10->t≠[]:=by
     intro g h0;subst h0;rcases a with h|⟨s,h⟩
     ·cases h
     ·have:=mL List.getLast? h;grind
    by_cases g:fL b=true
    ·rw[FI g] at Y;exact e t r' j a.tail (f (by rintro rfl;exact absurd g (by decide))) Y
    by_cases l:b=35
    ·subst l;rw[S2] at Y;have bc:=f (by decide);have aD:lV t≠[]:=by
      have:∀t:H,dL t->t≠[]->lV t≠[]:=by
       intro t;induction t with
       |nil=>simp
       |cons c u i=>
        intro k _;unfold lV;by_cases ay:c=10
        ·grind
        ·rw[aO ay];refine i k.tail ?_;rintro rfl;rcases k with h|⟨s,h⟩
         ·cases h
         ·have:=mL List.getLast? h;grind
      exact this t a.tail bc
     exact e _ r' (kN (AR t) j) (a.tail.iD (Fp t)) aD Y
    by_cases m:b=92
    ·subst m;have bc:=f (by decide);cases t with
     |nil=>grind
     |cons c u=>
      by_cases ay:c=10
      ·subst ay;rw[S1] at Y;by_cases hu:u=[]
       ·grind
       ·rw[aO hu] at Y;exact e u r' (by grind) a.tail.tail hu Y
      grind[S0]
    grind[S3]
 exact d _ r r' (cS _) a Z Y
theorem xR{e:cn}{r:H}{F:ai}{st:aa}(h:cG e r F)(d:gC e r F st):(∃r' a,bn r=some r'/\hP st=some a/\gC e r' F a/\cG e r' F/\r'<:+r/\bn r'=some r')\/(bn r=none/\hP st=some (e.tt F)):=by
 obtain⟨ah,rfl,i⟩:=d;have:=ana (ah:=ah) h;unfold FZ at this;cases Y:bn r with
 |none=>grind
 |some r'=>
  rw[Y] at this;obtain⟨b,M,U⟩:=this;have c:=ef Y;refine .inl ⟨r',_,rfl,M,⟨b,rfl,λf=>?_⟩,h.mono c,c,mi _ _ _ (cS _) Y⟩;subst f;by_cases Z:r=[]
  ·subst Z;have g:hP (e.st [] F ah)=some (e.st [] F ah):=by
    unfold hP a6
    obtain⟨n,av⟩:∃n,bC=n+1:=⟨bC-1,by rw[gF]⟩
    dsimp only;rw[av,fm];unfold Cz;dsimp only;have he:gY ((e.st [] F ah).1,(e.st [] F ah).2.1,(e.st [] F ah).2.2.1,(e.st [] F ah).2.2.2.1,(e.st [] F ah).2.2.2.2.1,(e.st [] F ah).2.2.2.2.2.1,(e.st [] F ah).2.2.2.2.2.2.1,(e.st [] F ah).2.2.2.2.2.2.2.1,(e.st [] F ah).2.2.2.2.2.2.2.2)=some (decide (([]:H)=[])):=wI e [] _ _ _ _ _ _ _;rw[he,aP rfl];rfl
   rw[g] at M;have:=mL (λx=>x.2.2.2.2.2.2.2.2) (Option.some.inj M);have j:ah=b:=this;grind
  ·exact absurd rfl (aaC (h.nl.iD h.sfx) Z Y)
theorem Dh(e:cn)(F:ai):hP (e.tt F)=some (e.tt F):=by
 rw[xQ];unfold hP a6
 obtain⟨n,av⟩:∃n,bC=n+1:=⟨bC-1,by rw[gF]⟩
 dsimp only;rw[av,fm];unfold Cz;dsimp only;have he:gY ((e.st [] F true).1,(e.st [] F true).2.1,(e.st [] F true).2.2.1,(e.st [] F true).2.2.2.1,(e.st [] F true).2.2.2.2.1,(e.st [] F true).2.2.2.2.2.1,(e.st [] F true).2.2.2.2.2.2.1,(e.st [] F true).2.2.2.2.2.2.2.1,(e.st [] F true).2.2.2.2.2.2.2.2)=some (decide (([]:H)=[])):=wI e [] _ _ _ _ _ _ _;rw[he,aP rfl];rfl
theorem bR.rep{q:Bool}{σ α τ β:Type}{e:cn}{f:σ->ad (σ⊕α)}{pr:β->aa}{cv:α->H->β->Prop}{en:σ->H->ai->τ->Prop}{body:(τ->Option β)->τ->Option β}
  (c:∀(k:τ->Option β)(s:σ)(r:H)(F:ai)(x:τ),cG e r F->en s r F x->(∀a,∃k',k a=body k' a)->(∀s' r' b a,r'<:+r->cG e r' b->r'.length<r.length->en s' r' b a->bR q e r (ck f s' r' b) pr cv (k a))->bR q e r (cX f r (f s r F)) pr cv (body k x)):
  ∀(n:Nat)(s:σ)(r:H)(F:ai)(x:τ),r.length+1<n->cG e r F->en s r F x->bR q e r (ck f s r F) pr cv (fixF body n x):=by
 intro n;induction n with
 |zero=>omega
 |succ n d=>
  intro s r F x av g he;rw[cK,fm];refine c _ s r F x g he (λa=>?_) λs' r' b a M U i h=>(d s' r' b a (by omega) U h).mono M
  obtain⟨m,rfl⟩:∃m,n=m+1:=⟨n-1,by omega⟩
  exact⟨_,fm⟩
theorem bR.inl{q:Bool}{σ α β:Type}{e:cn}{f:σ->ad (σ⊕α)}{r0 r r':H}{a:ai}{s':σ}{pr:β->aa}{cv:α->H->β->Prop}{y:Option β}(ax:r'.length<r.length)(h:bR q e r0 (ck f s' r' a) pr cv y):bR q e r0 (cX f r (.ok (.inl s') r' a)) pr cv y:=by simp_all[cX,bh]
theorem wL{e:cn}{r:H}{F:ai}(h:cG e r F):r.length+1<bC:=by have:=h.b3;have:=eY h.sfx;grind[gF]
theorem Np{α:Type}[Inhabited α]{l:List α}{i:Nat}(bg:i<l.length):l.drop i=at' l (i:Int)::l.drop (i+1):=by grind[List.drop_eq_getElem_cons,at',List.getElem?_eq_getElem]
theorem anc{ds:ai}{j:H->Option aa}(e:ds.length<=1000000000):∀(n i:Nat)(x:H),ds.length-i<n->i<=ds.length->x.length+eC (ds.drop i)<=1000000000->fixF (LU ds j) n ((i:Int),x)=j (x++mf (ds.drop i)):=by
 intro n;induction n with
 |zero=>omega
 |succ n b=>
  intro i x av bg f;rw[fm];generalize fixF (LU ds j) n=k at b;unfold LU;dsimp only;by_cases c:i<ds.length
  ·have a:(i:Int)<(ds.length:Int):=by omega
   have aD:=Np c;have ax:eC (ds.drop i)=(at' ds (i:Int)).1.length+1+eC (ds.drop (i+1)):=by grind[eC,mf]
   simp only[a,bA,aL];rw[bX ⟨by omega,trivial⟩,bX (by omega),bX (by grind)];have d:W ((i:Int)+1)=((i+1:Nat):Int):=by grind[dJ]
   rw[d,b (i+1) _ (by omega) (by omega) (by grind),aD];simp[mf]
  ·have a:¬(i:Int)<(ds.length:Int):=by omega
   simp only[a,decide_false,cond_false];grind[List.drop_eq_nil_of_le,mf]
theorem ane{a:H}{j:ai×H->Option aa}(l:a.length<=2000000):∀(n i:Nat)(nd:H)(ds:ai),a.length-i<n->i<=a.length->nd.length+eC ds+(a.length-i)<=1000000000->ds.length<=1000000000->fixF (LV a j) n ((i:Int),ds,nd)=j ((cV nd ds (a.drop i)).2,(cV nd ds (a.drop i)).1):=by
 intro n;induction n with
 |zero=>omega
 |succ n d=>
  intro i nd ds av bg m e;rw[fm];generalize fixF (LV a j) n=k at d;unfold LV a6;dsimp only;by_cases f:i<a.length
  ·have b:(i:Int)<(a.length:Int):=by omega
   have aD:=Np f;have g:W ((i:Int)+1)=((i+1:Nat):Int):=by grind[dJ]
   have h:b1 a (i:Int) ((i+1:Nat):Int)=[at' a (i:Int)]:=by simp_all[b1,J4]
   simp only[b,bA,aL,g];rw[bX (by omega),h,bX (by grind),bX ⟨by omega,trivial⟩];simp only[p_];rw[aD];unfold cV;by_cases c:at' a (i:Int)=10
   ·rw[if_pos c];simp only[c,decide_true,cond_true];have h0:(0:Int)=((0:Nat):Int):=rfl;rw[h0,anc e bC 0 (nd++[10]) (by grind[gF]) (by omega) (by grind)];simp only[List.drop_zero];grind[mf,List.length_append,List.length_cons,eC,List.length_nil]
   grind
  ·have b:¬(i:Int)<(a.length:Int):=by omega
   simp only[b,bH,aU];rw[w2 (by omega)];rfl
theorem Di(a b c f:Int)(S nd:H)(ds:ai)(op:bw)(ah:Bool)(x:H)(d:x.length<=2000000)(g:nd.length+eC ds+x.length<=1000000000)(e:ds.length<=1000000000):
  xv (S,a,b,ds,c,f,nd,op,ah) x=some (S,a,b,(cV nd ds x).2,c,f,(cV nd ds x).1,op,ah):=by
 unfold xv a6;dsimp only;have h0:(0:Int)=((0:Nat):Int):=rfl;rw[h0,ane d bC 0 nd ds (by grind[gF]) (by omega) (by omega) e];simp
theorem uf:∀(l:ai),l.length<=eC l
 |[]=>by simp
 |a::b=>by have:=uf b;simp[eC,mf] at this⊢;omega
def oK(e:cn)(r0:H)(nd:H)(ds:ai)(st:aa):Prop:=st.2.2.2.2.1=1/\st.2.2.2.2.2.2.1=nd/\st.2.2.2.1=ds/\oJ e r0 st/\(e.S.length:Int)<=st.2.1
theorem oK.s{q:Bool}{e:cn}{r0:H}{nd:H}{ds:ai}{st:aa}(h:oK e r0 nd ds st):ja q e r0 nd ds st:= .inl h
theorem oK.mono{e:cn}{r0 ae:H}{nd:H}{ds:ai}{st:aa}(h:oK e r0 nd ds st)(M:r0<:+ae):oK e ae nd ds st:=⟨h.1,h.2.1,h.2.2.1,h.2.2.2.1.mono M,h.2.2.2.2⟩
theorem F0{e:cn}{F:ai}{ah:Bool}{x:H}(h:cG e [] F)(b:x.length<=100):∃a,hQ (e.st [] F ah) x=some a/\oK e [] (cV [] F x).1 (cV [] F x).2 a:=by
 have az:=h.kb;have c:=h.b3;have ax:=Ba x [] F;simp only[GK] at ax az;have d:=uf F;refine⟨(e.S,ar e.S [],e.ne,(cV [] F x).2,1,0,(cV [] F x).1,[],ah),?_,rfl,rfl,rfl,⟨rfl,sx (ar e.S []),?_,?_,?_⟩,?_⟩
 ·unfold hQ a6 cn.st;simp only[bA,aL];rw[Di _ _ _ _ _ _ _ _ _ _ (by omega) (by grind) (by omega),aP rfl]
 ·grind[ar,iv]
 ·grind
 ·simp
 simp[ar,iv,sx]
theorem xS{e:cn}{ae r0 nd:H}{ds:ai}{st:aa}{nm x:H}(h:oK e ae nd ds st)(M:ae<:+r0)(h0:r0<:+e.S)(w:nm=[]\/ae.length<r0.length)(y:nd.length+eC ds+x.length<=100*e.S.length+1000)(dt:e.S.length<=1000000)(z:x.length<=1000):
  ∃k,gZ st nm x=some k/\oK e r0 (cV nd ds x).1 (cV nd ds x).2 k:=by
 obtain⟨a,b,c,d,vr,f,g,op,ah⟩:=st;obtain⟨U,l,m,q,i⟩:=h;simp only at U l m i;subst U l m;have ax:=Ba x g d;have n:=M.length_le;have r:=h0.length_le;have A:ar e.S r0<=ar e.S ae:=by grind[ar]
 have B:=uf d;obtain⟨o,s,t,u,v⟩:=q;simp only at o s t u v;subst o
 have p:∀j,xv (e.S,b,c,d,1,f,g,j,ah) x=some (e.S,b,c,(cV g d x).2,1,f,(cV g d x).1,j,ah):=λj=>Di _ _ _ _ _ _ _ _ _ _ (by omega) (by omega) (by omega)
 unfold gZ a6;simp only[bA,aL];by_cases av:nm=[]
 ·subst av;simp only[bA,hE,aU];rw[p,aP rfl];exact⟨_,rfl,rfl,rfl,rfl,⟨rfl,by grind,by grind,by grind,by grind⟩,i⟩
 ·have C:ae.length<r0.length:=by grind
  simp only[av,bH,fp,aL];rw[bX (by grind),p,aP rfl];exact⟨_,rfl,rfl,rfl,rfl,⟨rfl,by grind,by grind,by grind,by grind⟩,i⟩
theorem qc{st:aa}{nm x:H}(h:st.2.2.2.2.1≠1):gZ st nm x=some st:=by simp_all[gZ,bH,aU]
theorem TO:∀(x nd:H)(ds:ai),(10:UInt8)∉x->cV nd ds x=(nd++x,ds)
 |[],nd,ds,_=>by simp[cV]
 |b::x,nd,ds,h=>by have a:b≠10:=λc=>h (by grind);simp_all[cV,aO,TO]
theorem TP{q:Bool}{e:cn}{r0 r:H}{F:ai}{ah:Bool}{o:Option H}{nm x:H}(h:cG e r F)(h0:r<:+r0)(b:∀q,o=some q->q<:+r)(c:(10:UInt8)∉x)(g:x.length<=r.length+100)(i:r0≠[])(d:∀q,o=some q->q=[]->ah=false):
  bR q e r0 (match o with|some r'=>dD.ok () r' F|none=> .more [nm] x F) (λst=>st) (λ_ _ _=>True) (tO (e.st r F ah) (lL e.S o) nm x):=by
 cases o with
 |some q=>
  have a:=b q rfl;have M:¬ar e.S q<0:=by have:=eY (a.trans h.sfx);grind[ar]
  refine⟨e.st q F ah,?_,a.trans h0,h.mono a,⟨ah,rfl,d q rfl⟩,trivial⟩;unfold tO;simp only[lL,M,bH,aU];rfl
 |none=>
  have az:=h.kb;have j:=h.b3;have k:=uf F;have l:=eY h.sfx;have hm:hQ (e.st [] F ah) x=some (e.S,ar e.S [],e.ne,F,1,0,x,[],ah):=by unfold hQ a6 cn.st;simp only[bA,aL];rw[Di _ _ _ _ _ _ _ _ _ _ (by omega) (by grind) (by omega),aP rfl,TO _ _ _ c];rfl
  refine⟨(e.S,ar e.S [],e.ne,F,1,0,x,[nm],ah),?_,?_⟩
  ·unfold tO;simp only[lL,show((-1:Int)<0) from by decide,decide_true,cond_true];have f:((e.st r F ah).1,((e.st r F ah).1.length:Int),(e.st r F ah).2.2.1,(e.st r F ah).2.2.2.1,(e.st r F ah).2.2.2.2.1,(e.st r F ah).2.2.2.2.2.1,(e.st r F ah).2.2.2.2.2.2.1,(e.st r F ah).2.2.2.2.2.2.2.1,(e.st r F ah).2.2.2.2.2.2.2.2)=e.st [] F ah:=by rfl
   rw[f,hm,aP rfl];exact bX (by simp)
  ·have Z:ar e.S r0<=ar e.S []:=by grind[ar,List.length_nil]
   refine .inl ⟨rfl,rfl,rfl,⟨rfl,Z,?_,?_,?_⟩,?_⟩
   ·grind[ar,iv]
   ·grind
   ·simp
   simp[ar,iv,sx]
theorem aaD{q:Bool}{e:cn}{r0 r:H}{F:ai}{ah:Bool}{o:Option H}{x:UInt8}(h:cG e r F)(h0:r<:+r0)(a:∀q,o=some q->q<:+r)(d:x≠10)(b:r0≠[])(c:∀q,o=some q->q=[]->ah=false):
  bR q e r0 (match o with|some r'=>dD.ok () r' F|none=> .more [[x]] [x] F) (λst=>st) (λ_ _ _=>True) (tO (e.st r F ah) (lL e.S o) [x] [x]):=
 TP h h0 a (by grind) (by simp) b c
theorem anf{I:aa}{i0:Nat}{j:H->Option aa}(c:i0<=I.2.2.2.1.length)(h:I.2.2.2.1.length<=1000000000):∀(n i:Nat)(x:H),(I.2.2.2.1.length-i0)-i<n->i<=I.2.2.2.1.length-i0->x.length+eC ((I.2.2.2.1.drop i0).drop i)<=1000000000->
  fixF (LZ I (i0:Int) j) n ((i:Int),x)=j (x++mf ((I.2.2.2.1.drop i0).drop i)):=by
 have d:b1 I.2.2.2.1 (i0:Int) (I.2.2.2.1.length:Int)=I.2.2.2.1.drop i0:=by simp[b1,J4,GM]
 have e:(I.2.2.2.1.drop i0).length=I.2.2.2.1.length-i0:=DR;intro n;induction n with
 |zero=>omega
 |succ n b=>
  intro i x av bg l;rw[fm];generalize fixF (LZ I (i0:Int) j) n=k at b;unfold LZ;dsimp only;rw[d];generalize I.2.2.2.1.drop i0=ds at*;by_cases f:i<ds.length
  ·have a:(i:Int)<(ds.length:Int):=by omega
   have aD:=Np f;have ax:eC (ds.drop i)=(at' ds (i:Int)).1.length+1+eC (ds.drop (i+1)):=by grind[eC,mf]
   simp only[a,bA,aL];rw[bX ⟨by omega,trivial⟩,bX (by omega),bX (by grind)];have g:W ((i:Int)+1)=((i+1:Nat):Int):=by grind[dJ]
   rw[g,b (i+1) _ (by omega) (by omega) (by grind),aD];simp[mf]
  ·have a:¬(i:Int)<(ds.length:Int):=by omega
   simp only[a,decide_false,cond_false];grind[List.drop_eq_nil_of_le,mf]
theorem ang{e:cn}{r0:H}{F:ai}{ah:Bool}{j:Int->Option aa}(dt:e.S.length<=1000000)(p:eC F<=100000000):∀(n i:Nat)(q:H),F.length-i<n->i<=F.length->q<:+e.S->
  match lh (F.drop i) q with
  | .inl r'=>fixF (E1 (e.st r0 F ah) j) n ((i:Int),ar e.S q)=j (ar e.S r')
  | .inr nd=>fixF (E1 (e.st r0 F ah) j) n ((i:Int),ar e.S q)=some (e.S,(e.S.length:Int),e.ne,[],1,0,nd,[[60,60]],false):=by
 have r:=uf F;intro n;induction n with
 |zero=>omega
 |succ n d=>
  intro i q av bg c;rw[fm];generalize fixF (E1 (e.st r0 F ah) j) n=k at d;unfold E1 a6;dsimp only;have f:(e.st r0 F ah).1=e.S:=rfl;have g:(e.st r0 F ah).2.2.2.1=F:=rfl;rw[f,g];by_cases l:i<F.length
  ·have a:(i:Int)<(F.length:Int):=by omega
   have aD:=Np l;rw[aD];simp only[a,bA,aL];rw[bX (show 0<=(i:Int)/\True from⟨by omega,trivial⟩),am7 dt c,aP rfl,dJ (x:=(i:Int)+1) (by omega) (by omega)];unfold lh;cases m:kZ (at' F (i:Int)).1 (at' F (i:Int)).2 q with
   |none=>
    simp only[show((-1:Int)<0) from by decide,bA,aL];rw[bX (by omega)]
    have:=anf (I:=e.st r0 F ah) (i0:=i) (j:=λo=>some (e.S,(e.S.length:Int),(e.st r0 F ah).2.2.1,[],1,(e.st r0 F ah).2.2.2.2.2.1,o,([([60,60]:H)]:bw),false)) bg (by grind) bC 0 [] (by grind[gF]) (by omega) (by
     show 0+eC ((F.drop i).drop 0)<=_;rw[yg];have:eC (F.drop i)<=eC F:=by have h:=aax (F.take i) (F.drop i);grind[List.take_append_drop]
     omega)
    have h0:(e.st r0 F ah).2.2.2.2.2.2.1=[]:=rfl;rw[h0];refine Eq.trans this ?_;show some (e.S,(e.S.length:Int),e.ne,([]:ai),(1:Int),(0:Int),[]++mf ((F.drop i).drop 0),[[60,60]],false)=_;grind
   |some b=>
    have s:b<:+e.S:=((Sx _ _ _ q [] b (cS _) m).1).trans c;have h0:¬ar e.S b<0:=by grind[eY,ar]
    grind
  ·have a:¬(i:Int)<(F.length:Int):=by omega
   rw[w2 (by omega)];simp only[a,bH,aU];rfl
theorem aaE{q:Bool}{e:cn}{t:H}{F:ai}{ah:Bool}(h:cG e (10::t) F):bR q e (10::t) (jw (10::t) F) (λst=>st) (λ_ _ _=>True) (CB (e.st (10::t) F ah)):=by
 have az:=h.kb;have k:=h.b3;have c:t<:+e.S:=dS h.sfx;have l:=eY c;have a:=ang (e:=e) (r0:=10::t) (F:=F) (ah:=ah) (j:=λd=>some (e.S,d,e.ne,[],0,0,[],[],false)) h.b3 (by omega) bC 0 t (by grind[uf,gF]) (by omega) c;rw[yg] at a;have g:W (ar e.S (10::t)+1)=ar e.S t:=iQ h.b3 h.sfx;have f:CB (e.st (10::t) F ah)=fixF (E1 (e.st (10::t) F ah) λd=>some (e.S,d,e.ne,[],0,0,[],[],false)) bC ((0:Nat),ar e.S t):=by unfold CB a6;show fixF _ bC ((0:Int),W (ar e.S (10::t)+1))=_;rw[g];rfl
 unfold jw;simp only;cases b:lh F t with
 |inl r'=>rw[b] at a;simp only at a⊢;have Y:=(ve F t [] r' b).1;have ax:=Y.length_le;refine⟨e.st r' [] false,?_,Y.trans (dN 10 t),⟨h.b3,h.nl,h.Jk,Y.trans c,by grind[eC,mf]⟩,⟨false,rfl,λ_=>rfl⟩,trivial⟩;rw[f];exact a
 |inr nd=>
  rw[b] at a;simp only at a⊢;have i:=TE F t nd b;refine⟨_,f.trans a,.inl ⟨rfl,rfl,rfl,⟨rfl,?_,?_,?_,?_⟩,?_⟩⟩
  ·grind[ar,pz]
  ·grind
  ·grind[eC,mf]
  ·simp
  simp
theorem TQ{t:H}{F:ai}{a:Unit}{ae:H}{b:ai}(h:jw (10::t) F= .ok a ae b):ae<:+t/\b=[]:=by
 unfold jw at h;simp only at h;cases c:lh F t with
 |inl r'=>rw[c] at h;cases h;exact⟨(ve F t [] _ c).1,rfl⟩
 |inr nd=>grind
theorem F1{e:cn}{r:H}{F:ai}{st:aa}(h:cG e r F)(C:gC e r F st):bR true e r (c5 r F) (λst=>st) (λ_ r' _=>bn r'=some r'/\an r'≠ .line) (ps st):=by
 unfold ps a6;have D:st.2.2.2.1=F/\st.2.2.2.2.2.2.2.1=[]:=by obtain⟨ah,rfl,_⟩:=C;exact⟨rfl,rfl⟩
 rw[D.1,D.2]
 have L:∀(bz:Nat)(b:Bool)(r:H)(F:ai)(st:aa),r.length+1<bz->cG e r F->gC e r F st->bn r=some r->∀r0:H,r<:+r0->(an r= .line->r.length<=r0.length)->bR true e r0 (cX iC r0 (if an r= .line then N jw (λ_=>aZ (.inl true)) r F else .ok (.inr b) r F)) (λst=>st) (λ_ r' _=>bn r'=some r'/\an r'≠ .line) (fixF (AJ λx=>some x) bz st):=by
  intro bz;induction bz with
  |zero=>omega
  |succ bz E=>
   intro b r F st fh s O P r0 G _;rw[fm]
   obtain⟨fq,Q⟩:∃fq,bz=fq+1:=⟨bz-1,by omega⟩
   have v:∀x:aa,(x.2.2.2.2.1≠0\/∃ds,x=e.tt ds)->fixF (AJ λx=>some x) bz x=some x:=by
    intro x I;rw[Q,fm];unfold AJ;dsimp only;rcases I with I|⟨ds,rfl⟩
    ·simp_all[bH,cY,fo,cH,aU]
    ·have m:je (e.tt ds)=some 0:=by rw[xQ];exact wJ (e:=e) (r:=[]) n_ _ _ _ _ _ _ _
     have h0:(e.tt ds).2.2.2.2.1=0:=rfl;rw[show je ((e.tt ds).1,(e.tt ds).2.1,(e.tt ds).2.2.1,(e.tt ds).2.2.2.1,(e.tt ds).2.2.2.2.1,(e.tt ds).2.2.2.2.2.1,(e.tt ds).2.2.2.2.2.2.1,(e.tt ds).2.2.2.2.2.2.2.1,(e.tt ds).2.2.2.2.2.2.2.2)=some 0 from m];rw[gd,h0];rfl
   generalize uK:fixF (AJ λx=>some x) bz=k at E v;obtain⟨ah,rfl,R⟩:=O;unfold AJ a6;dsimp only;have m:je ((e.st r F ah).1,(e.st r F ah).2.1,(e.st r F ah).2.2.1,(e.st r F ah).2.2.2.1,(e.st r F ah).2.2.2.2.1,(e.st r F ah).2.2.2.2.2.1,(e.st r F ah).2.2.2.2.2.2.1,(e.st r F ah).2.2.2.2.2.2.2.1,(e.st r F ah).2.2.2.2.2.2.2.2)=some (r.headD 0):=wJ s.sfx _ _ _ _ _ _ _;rw[m,gd];have h0:(e.st r F ah).2.2.2.2.1=0:=rfl;rw[h0];simp only[bA,cU,aL,p_];by_cases ax:an r= .line
   ·rw[bh ax];obtain⟨t,rfl⟩:=wy ax;simp only[zT,bA,aL];refine bR.iZ db.k ((aaE (q:=false) s).mono G) (λ_ ae d c S s1 T w _=>?_) (λop nd ds c m0 J=>?_) (λc p=>?_)
    ·have U:c.2.2.2.2.1=0:=by obtain⟨V,rfl,_⟩:=w;rfl
     have K:c.2.2.2.1=d/\c.2.2.2.2.2.2.2.1=[]:=by obtain⟨V,rfl,_⟩:=w;exact⟨rfl,rfl⟩
     rw[U,K.1,K.2];simp only[bA,aL];have TS:ae.length<(10::t).length:=by have:=(TQ S).1.length_le;grind
     have W:ae.length<r0.length:=by grind
     show bR true e r0 (cX iC r0 (.ok (.inl true) ae d)) _ _ _;refine bR.inl W ?_;rw[cK];rcases xR T w with⟨f,a,g,i,o,y,j,z⟩|⟨g,i⟩
     ·have A:iC true ae d=(if an f= .line then N jw (λ_=>aZ (.inl true)) f d else .ok (.inr true) f d):=by
       by_cases l:an f= .line
       ·obtain⟨u,rfl⟩:=wy l;simp_all[bh,wz]
       simp_all[aO,s3]
      rw[A,i,aP rfl];have B:a=(a.1,a.2.1,a.2.2.1,d,a.2.2.2.2.1,a.2.2.2.2.2.1,a.2.2.2.2.2.2.1,([]:bw),a.2.2.2.2.2.2.2.2):=by obtain⟨X,rfl,_⟩:=o;rfl
      rw[<-B];exact(E true f d a (by grind) y o z ae j (λ_=>j.length_le)).mono s1
     ·rw[i,aP rfl];have:iC true ae d= .more [] (cV [] d []).1 (cV [] d []).2:=dm (iN g);rw[this];refine⟨e.tt d,?_,.inr ⟨rfl,rfl,rfl⟩⟩;exact v (e.tt d) (.inr ⟨d,rfl⟩)
    ·have M:=J.z.1;refine⟨c,?_,J.up⟩;grind
    ·refine⟨c,?_,p⟩;rw[p.1];simp only[show¬((2:Int)=0) by decide,bH,aU];have:=v c (.inl (by rw[p.1];decide));have Y:c=(c.1,c.2.1,c.2.2.1,c.2.2.2.1,2,c.2.2.2.2.2.1,c.2.2.2.2.2.2.1,c.2.2.2.2.2.2.2.1,c.2.2.2.2.2.2.2.2):=by rw[<-p.1]
     grind
   ·rw[aO ax];have Z:decide (r.headD 0=10)=false:=by
     cases r with
     |nil=>rfl
     |cons b t=>
      have:b≠10:=by rintro rfl;grind[an]
      grind
    rw[Z];simp only[aU];exact⟨_,rfl,G,s,⟨ah,rfl,R⟩,P,ax⟩
 rw[tW,cK];rcases xR h C with⟨f,a,g,i,o,y,j,z⟩|⟨g,i⟩
 ·rw[i,aP rfl];have B:a=(a.1,a.2.1,a.2.2.1,F,a.2.2.2.2.1,a.2.2.2.2.2.1,a.2.2.2.2.2.2.1,([]:bw),a.2.2.2.2.2.2.2.2):=by obtain⟨X,rfl,_⟩:=o;rfl
  rw[<-B];have A:iC false r F=(if an f= .line then N jw (λ_=>aZ (.inl true)) f F else .ok (.inr false) f F):=by
   by_cases l:an f= .line
   ·obtain⟨u,rfl⟩:=wy l;rw[bh l,wz g]
   ·rw[aO l,s3 g l]
  rw[A];exact L bC false f F a (by have:=j.length_le;have:=h.b3;have:=eY h.sfx;grind[gF]) y o z r j (λ_=>j.length_le)
 ·rw[i,aP rfl];have:iC false r F= .more [] (cV [] F []).1 (cV [] F []).2:=dm (iN g);rw[this];refine⟨e.tt F,?_,.inr ⟨rfl,rfl,rfl⟩⟩
  obtain⟨n,av⟩:∃n,bC=n+1:=⟨bC-1,by rw[gF]⟩
  dsimp only;rw[av,fm];unfold AJ;dsimp only;have m:je ((e.tt F).1,(e.tt F).2.1,(e.tt F).2.2.1,F,(e.tt F).2.2.2.2.1,(e.tt F).2.2.2.2.2.1,(e.tt F).2.2.2.2.2.2.1,[],(e.tt F).2.2.2.2.2.2.2.2)=some 0:=by have:=wJ (e:=e) (r:=[]) n_ e.ne 0 0 F [] [] true;rw[iv] at this;exact this
  rw[m,gd];rfl
def gO(b:UInt8):Bool:=(decide (97<=b)&&decide (b<=122))||decide (b=123)||decide (b=125)||decide (b=33)
def jD(r:H):H:=if r.dropWhile gO≠[]/\c4 (r.dropWhile gO)=true then r.takeWhile gO else []
theorem ani(b:UInt8):((b.toNat:Int)=33)↔b=33:=rQ (c:=33)
theorem aaF(b:UInt8):((b.toNat:Int)=125)↔b=125:=rQ (c:=125)
theorem anj{e:cn}{I:aa}{j:Int->Option H}(c:I.1=e.S)(dt:e.S.length<=1000000):∀(n:Nat)(r:H),r.length<n->r<:+e.S->fixF (L3 I j) n (ar e.S r)=j (ar e.S (r.dropWhile gO)):=by
 intro n;induction n with
 |zero=>omega
 |succ n d=>
  intro r av Z;rw[fm];generalize fixF (L3 I j) n=k at d;unfold L3;rw[c];cases r with
  |nil=>simp[iv,a2]
  |cons b t=>
   have g:0<=ar e.S (b::t)/\ar e.S (b::t)<(e.S.length:Int):=g5 Z;have a:∀p:Prop,(p->0<=ar e.S (b::t)/\ar e.S (b::t)<(e.S.length:Int)):=λp _=>g
   rw[bX (a _),bX (λ_=>a _),bX (λ_=>a _),bX (λ_=>a _),bX (λ_=>a _)];simp only[nO Z,bA,aL,jA Z,iQ dt Z,Tt,Tu,AZ,aaF,ani];have ay:(bif(bif(bif(bif decide (97<=b) then decide (b<=122) else false) then true else decide (b=123)) then true else decide (b=125)) then true else decide (b=33))=gO b:=by simp[gO,decide]
   grind[gO,List.dropWhile_cons_of_pos,List.length_cons,dS,List.dropWhile_cons_of_neg]
theorem wM{e:cn}{r:H}{F:ai}{ah:Bool}(h:cG e r F):mx (e.st r F ah)=some (jD r):=by
 unfold mx a6;have q:(e.st r F ah).1=e.S:=rfl;have U:(e.st r F ah).2.1=ar e.S r:=rfl;have ax:=anj (e:=e) (I:=e.st r F ah) (j:=λc=>(a2 (((decide (c<(e.S.length:Int)))=true)->0<=c/\c<(e.S.length:Int))<|(cY ((decide (c<(e.S.length:Int)))=true) (Cy (at' e.S c)) false λ(f:Bool)=>(a2 ((f=false)->((decide (c<(e.S.length:Int)))=true)->0<=c/\c<(e.S.length:Int))<|(cY ((bif f then true else(decide (((at' e.S c).toNat:Int)=(10:Int))))=false/\(decide (c<(e.S.length:Int)))=true) (AA e.S c) [] λ(k:H)=>(bif(bif(decide (c<(e.S.length:Int))) then(bif(bif f then true else(decide (((at' e.S c).toNat:Int)=(10:Int)))) then true else(!(decide (k=[])))) else false) then(a2 (0<=ar e.S r/\ar e.S r<=c/\c<=(e.S.length:Int))<|some (b1 e.S (ar e.S r) c)) else some ([]))))))) rfl h.b3 bC r (mj (kN (eY h.sfx) h.b3)) h.sfx;refine Eq.trans ax ?_;have Y:r.dropWhile gO<:+r:=List.dropWhile_suffix _;have d:=Y.trans h.sfx;have i:0<=ar e.S r/\ar e.S r<=ar e.S (r.dropWhile gO)/\ar e.S (r.dropWhile gO)<=(e.S.length:Int):=by have:=Y.length_le;have:=eY h.sfx;grind[ar]
 have m:b1 e.S (ar e.S r) (ar e.S (r.dropWhile gO))=r.takeWhile gO:=by rw[I4 h.sfx Y];have n:=OI (p:=gO) (l:=r);generalize r.takeWhile gO=a at*;generalize r.dropWhile gO=b at*;rw[<-n];simp
 unfold jD;cases o:r.dropWhile gO with
 |nil=>simp[iv,a2,cY]
 |cons b t=>
  rw[o] at d i m;have g:=g5 d;rw[bX (λ_=>g)];simp only[nO d,bA,jA d,TM,gd,cU];refine Eq.trans (bX (λ_ _=>⟨g.1,trivial⟩)) ?_;simp only[TL h.b3 d,gd,p_,and_true,aL];have s:c4 (b::t)=(fL b||decide (b=10)|| !decide (bu (b::t)=[])):=by show(fL b||(b==10)||(bu (b::t)!=[]))=_;grind
  grind[fL,a2,bu]
theorem Nr{b:UInt8}(h:gO b=true):fL b=false/\b≠10/\b≠92/\b≠39/\b≠34/\b≠96/\b≠36/\b≠35/\o0 b=false:=by
 have M:(97<=b.toNat/\b.toNat<=122)\/b.toNat=123\/b.toNat=125\/b.toNat=33:=by
  unfold gO at h;simp only[yf,hU,Vs,DU] at h;have a:(97:UInt8).toNat=97:=rfl;have c:(122:UInt8).toNat=122:=rfl;rw[a,c] at h;rcases h with((h|h)|h)|h
  ·omega
  ·simp_all
  ·simp_all
  simp_all
 have d:b=UInt8.ofNat b.toNat:=by simp
 generalize b.toNat=n at*;subst d;have:n=97\/n=98\/n=99\/n=100\/n=101\/n=102\/n=103\/n=104\/n=105\/n=106\/n=107\/n=108\/n=109\/n=110\/n=111\/n=112\/n=113\/n=114\/n=115\/n=116\/n=117\/n=118\/n=119\/n=120\/n=121\/n=122\/n=123\/n=125\/n=33:=by omega
 rcases this with rfl|rfl|rfl|rfl|rfl|rfl|rfl|rfl|rfl|rfl|rfl|rfl|rfl|rfl|rfl|rfl|rfl|rfl|rfl|rfl|rfl|rfl|rfl|rfl|rfl|rfl|rfl|rfl|rfl<;>decide
theorem aaG{b:UInt8}{t:H}(h:gO b=true):c4 (b::t)=false:=by obtain⟨M,U,_,_,_,_,_,_,a⟩:=Nr h;show(fL b||b==10||bu (b::t)!=[])=false;grind[mV]
theorem anl{b:UInt8}{t:H}(h:gO b=true):gI (b::t)=false:=by simp_all[Nr,s5]
theorem aaH:∀(r:H),c4 (r.dropWhile gO)=true->dg r=(r.takeWhile gO,true)
 |[],_=>by decide
 |b::t,h=>by
  cases a:gO b with
  |true=>rw[Vm a] at h;obtain⟨M,U,c,d,e,f,g,i,j⟩:=Nr a;unfold dg;simp_all[aaG,aO,anl,aaH,List.takeWhile_cons_of_pos]
  |false=>simp_all[J8,dg,bh,Vq]
theorem xT(b:UInt8)(t:H):an (b::t)=if b=10 then Tok.line else if bu (b::t)≠[] then .op (bu (b::t)) else .word (dg (b::t)).1 (dg (b::t)).2:=rfl
theorem sr{r w:H}(e:dL r)(i:w≠[])(f:w.all gO=true):jD r=w↔an r= .word w true:=by
 unfold jD;constructor
 ·intro h;split at h
  ·rename_i ay;have az:=aaH r ay.2;cases r with
   |nil=>simp_all
   |cons b t=>
    have j:gO b=true:=by grind[gO,List.takeWhile_cons_of_neg,absurd]
    simp_all[Nr,xT,aO,mV]
  grind
 ·intro h;cases r with
  |nil=>grind[an]
  |cons b t=>
   have az:dg (b::t)=(w,true):=by grind[xT,Prod.ext]
   obtain⟨v,a⟩:=(Ft _ _ az).1;have he:=Nd _ _ az;rw[<-a,oO] at he;have g:v≠[]:=by
    rintro rfl;rw[k8] at a;rcases e with h0|⟨s,h0⟩
    ·cases h0
    grind[gO,List.all_eq_true,absurd]
   have aD:v.dropWhile gO=v/\v.takeWhile gO=[]:=by
    cases v with
    |nil=>simp
    |cons c u=>grind[gO,aaG,List.dropWhile_cons_of_neg,List.takeWhile_cons_of_neg]
   have d:∀x∈w,gO x=true:=pI.1 f
   rw[<-a,List.dropWhile_append_of_pos d,aD.1,bh ⟨g,he⟩,List.takeWhile_append_of_pos d,aD.2,k8]
theorem Jo{r w:H}(a:dL r)(b:w≠[])(c:w.all gO=true):decide (jD r=w)=cE (an r) w:=by have:=sr a b c;grind[cE,jD,decide_eq_true,decide_eq_false,an]
theorem aaI{r:H}{L:bw}(a:dL r)(bk:∀w∈L,w≠[]/\w.all gO=true):L.contains (jD r)=(match an r with| .word w true=>L.contains w|_=>false):=by
 rw[Bool.eq_iff_iff];constructor
 ·intro h;have hm:=List.contains_iff_mem.1 h;obtain⟨M,U⟩:=bk _ hm;have:=(sr a M U).1 rfl;grind
 grind[an,List.contains_iff_mem,sr]
theorem anm{r:H}(a:dL r):oB (jD r)=(match an r with| .word w true=>oB w|_=>false):=by unfold oB;exact aaI a (by decide)
theorem ann{r:H}(a:dL r):rI (jD r)=(match an r with| .word w true=>rI w|_=>false):=by unfold rI;exact aaI a (by decide)
theorem mK{r o:H}(a:o≠[]):an r= .op o↔bu r=o:=by
 constructor
 ·intro h;exact(h4 h).1.symm
 ·intro h;cases r with
  |nil=>simp_all[bu,kG,w3,List.isPrefixOf,absurd]
  |cons b t=>
   have c:b≠10:=by rintro rfl;rw[mV (by decide)] at h;grind
   simp_all[xT,aO,bh]
theorem aaJ{r:H}(a:dL r):(decide (bu r=[40])||oB (jD r))=gz (an r):=by rw[anm a];grind[gz,bu,mK,an,decide_eq_false]
theorem ano{e:cn}{I:aa}{j:Int->Option Bool}(a:I.1=e.S)(dt:e.S.length<=1000000):∀(n:Nat)(r:H),r.length<n->r<:+e.S->fixF (L9 I j) n (ar e.S r)=j (ar e.S (r.dropWhile cf)):=by
 intro n;induction n with
 |zero=>omega
 |succ n c=>
  intro r av Z;rw[fm];generalize fixF (L9 I j) n=k at c;unfold L9;rw[a];cases r with
  |nil=>simp[iv,a2]
  |cons b t=>
   have g:=g5 Z;rw[bX (λ_=>g),bX (λ_=>g)];simp only[nO Z,bA,aL,jA Z,iQ dt Z,Tv,Tw];have ay:(bif decide (48<=b) then decide (b<=57) else false)=cf b:=by simp[cf,decide]
   grind[cf,List.dropWhile_cons_of_pos,List.length_cons,dS,List.dropWhile_cons_of_neg]
theorem TT{e:cn}{r:H}{F:ai}{ah:Bool}(h:cG e r F):CC (e.st r F ah)=some (decide (r.dropWhile cf≠r)&&fg (bu (r.dropWhile cf))):=by
 unfold CC a6;have Y:r.dropWhile cf<:+r:=List.dropWhile_suffix _;have ax:=ano (e:=e) (I:=e.st r F ah) (j:=λa=>cY ((decide (ar e.S r<a))=true) (AA e.S a) [] λ(b:H)=>(cY ((decide (ar e.S r<a))=true) (xy b) false λ(c:Bool)=>some (bif(decide (ar e.S r<a)) then c else false))) rfl h.b3 bC r (mj (kN (eY h.sfx) h.b3)) h.sfx;refine Eq.trans ax ?_;rw[TL h.b3 (Y.trans h.sfx),gd];have f:decide (ar e.S r<ar e.S (r.dropWhile cf))=decide (r.dropWhile cf≠r):=by
  by_cases d:r.dropWhile cf=r
  ·grind
  ·have:(r.dropWhile cf).length<r.length:=by
    rcases OK (r.dropWhile cf).length r.length with M|M
    ·exact M
    ·exact absurd (Y.eq_of_length (Nat.le_antisymm Y.length_le M)) d
   grind[ar,cf]
 grind[FY,gd,decide,cf]
theorem Ns(r:H):(fg (bu r)||(decide (r.dropWhile cf≠r)&&fg (bu (r.dropWhile cf))))=fg (bu (r.dropWhile cf)):=by
 by_cases h:r.dropWhile cf=r
 ·grind
 ·have h0:bu r=[]:=by
   cases r with
   |nil=>simp_all
   |cons b t=>
    cases a:cf b with
    |true=>simp_all[mV,A4]
    |false=>simp_all
  simp_all[fg]
theorem TU{e:cn}{r:H}{F:ai}{ah:Bool}(h:cG e r F)(k:Nat)(aw:k<=1000):u6 (e.st r F ah) k=some ((r.drop k).headD 0):=by
 unfold u6;have ax:=eY h.sfx;have d:=h.b3;have M:(e.st r F ah).2.1=ar e.S r:=rfl;have U:(e.st r F ah).1=e.S:=rfl;have az:0<=ar e.S r/\ar e.S r<=(e.S.length:Int):=by grind[ar]
 have a:W (ar e.S r+(k:Int))=ar e.S r+k:=dJ (by omega) (by omega);rw[M,U,a];by_cases f:k<r.length
 ·have Y:r.drop k<:+e.S:=(lM k r).trans h.sfx;have c:ar e.S r+(k:Int)=ar e.S (r.drop k):=by grind[ar,List.length_drop]
  rw[c];cases aD:r.drop k with
  |nil=>grind
  |cons b t=>rw[aD] at Y;simp only[nO Y,bA,aL];simp_all[bX,g5,trivial,trans,jA]
 grind[ar,List.drop_eq_nil_of_le]
theorem s_{α β b:Type}{m:Option α}{f:α->Option β}{g:β->Option b}:au (au m f) g=au m (λa=>au (f a) g):=by cases m<;>rfl
theorem TV{α β:Type}{b:Bool}{x y:Option α}{g:α->Option β}:au (bif b then x else y) g=bif b then au x g else au y g:=by grind
theorem oL{α β:Type}{a:α}{g:α->Option β}:au (some a) g=g a:=rfl
theorem aaK{R:bj}{a b:H}:∀(n:Nat)(x:aa),fixF (y2 R λst=>au (gZ st a b) λy=>some y) n x=au (fixF (y2 R λst=>some st) n x) λst=>gZ st a b
 |0,x=>rfl
 |n+1,x=>by
  rw[fm,fm];have c:=aaK (R:=R) (a:=a) (b:=b) n;generalize fixF (y2 R λst=>au (gZ st a b) λy=>some y) n=o at c;generalize fixF (y2 R λst=>some st) n=p at c;obtain⟨e,f,g,i,d,j,k,l,m⟩:=x;unfold y2 a6;dsimp only;by_cases h:d=0
  ·subst h;simp only[bA,aL,s_,TV,c,oL];rfl
  ·simp only[h,bH,aU,oL];cases gZ (e,f,g,i,d,j,k,l,m) a b<;>rfl
theorem aaL{R:bj}{a b:H}:∀(n:Nat)(x:aa),fixF (za R λst=>au (gZ st a b) λy=>some y) n x=au (fixF (za R λst=>some st) n x) λst=>gZ st a b
 |0,x=>rfl
 |n+1,x=>by
  rw[fm,fm];have c:=aaL (R:=R) (a:=a) (b:=b) n;generalize fixF (za R λst=>au (gZ st a b) λy=>some y) n=o at c;generalize fixF (za R λst=>some st) n=p at c;obtain⟨e,f,g,i,d,j,k,l,m⟩:=x;unfold za a6;dsimp only;by_cases h:d=0
  ·subst h;simp only[bA,aL,s_,TV,c,oL];rfl
  ·simp only[h,bH,aU,oL];cases gZ (e,f,g,i,d,j,k,l,m) a b<;>rfl
theorem cG.zx{e:cn}{b:UInt8}{t:H}{F:ai}(h:cG e (b::t) F)(a:b≠10):t≠[]:=by
 rintro rfl;have:=h.nl.iD h.sfx;rcases this with M|⟨s,M⟩
 ·cases M
 ·have:=mL List.getLast? M;grind
theorem dL.last{t:H}(h:dL t)(a:t≠[]){x:H}{b:UInt8}(he:t=x++[b]):b=10:=by
 rcases h with M|⟨s,M⟩
 ·grind
 simp_all
theorem anp:∀(n:Nat)(r q:H),r.length<=n->hB r=some q->∃x,r=x++96::q:=by
 intro n;induction n with
 |zero=>simp_all[nQ,Nat.le_zero,hB]
 |succ n d=>
  intro r q av h;cases r with
  |nil=>grind
  |cons b t=>
   unfold hB at h;split at h
   ·simp_all
   ·split at h
    ·cases t with
     |nil=>cases h
     |cons c u=>obtain⟨x,a⟩:=d u q (by simp only[nn] at av;omega) h;exact⟨b::c::x,by rw[a];rfl⟩
    ·obtain⟨x,a⟩:=d t q (by simp only[nn] at av;omega) h;exact⟨b::x,by rw[a];rfl⟩
theorem aaM:∀(r q:H),gy r=some q->∃x,r=x++39::q
 |[],q,h=>by grind[gy]
 |b::t,q,h=>by
  unfold gy at h;split at h
  ·rename_i a;cases h;subst a;exact⟨[],rfl⟩
  ·obtain⟨x,c⟩:=aaM t q h;exact⟨b::x,by rw[c];rfl⟩
theorem TW{t x q:H}{c:UInt8}(ay:c≠10)(h:dL t)(he:t=x++c::q):q≠[]:=by rintro rfl;exact ay (h.last (by simp_all) he)
structure k7(R:bj)(n:Nat):Prop where
 im:∀(e:cn),e.ne=30- (n:Int)->∀(t:H)(F:ai)(ah:Bool),cG e (36::t) F->bR false e (36::t) (a9 true n (36::t) F) (λst=>st) (λ_ _ _=>True) (R.vR (e.st (36::t) F ah))
theorem F2{e:cn}{r0 r:H}{F:ai}{f:Unit->ad (Unit⊕Unit)}{part:ad Unit}{y:Option aa}{β:Type}{pr:β->aa}{cv:Unit->H->β->Prop}{k:aa->Option β}
  (hm:bR false e r0 (part r F) (λst=>st) (λ_ _ _=>True) y) (ax:∀a r' c,part r F= .ok a r' c->r'.length<r.length)
  (aw:∀r' c g,r'<:+r0->cG e r' c->r'.length<r.length->gC e r' c g->bR false e r0 (ck f () r' c) pr cv (k g))
  (h:∀x,x.2.2.2.2.1≠0->∃b,k x=some b/\pr b=x):
  bR false e r0 (cX f r (N part (λ_=>aZ (.inl ())) r F)) pr cv (au y k):=by
 refine bR.iZ db.k hm (λa ae i d j s1 l m _=>?_) (λop nd ds d _ n=>?_) (λd o=>?_)
 ·have:=ax a ae i j;exact bR.inl this (aw ae i d s1 l this m)
 ·obtain⟨b,p,q⟩:=h d (by rw[n.z.1];decide);grind
 ·obtain⟨b,p,q⟩:=h d (by rw[o.1];decide);grind
theorem TX{e:cn}{t:H}{F:ai}{ah:Bool}(h:cG e (92::t) F):y1 (e.st (92::t) F ah)=some (e.st (t.drop 1) F ah):=by
 have b:=h.zx (by decide);cases t with
 |nil=>grind
 |cons c u=>
  have a:W (ar e.S (92::c::u)+2)=ar e.S u:=kK (w:=[92,c]) h.b3 h.sfx;unfold y1;have M:(e.st (92::c::u) F ah).2.1=ar e.S (92::c::u):=rfl;rw[M,a];have:¬((e.st (92::c::u) F ah).1.length:Int)<ar e.S u:=by have:= @pz u e.S;show¬(e.S.length:Int)<ar e.S u;omega
  simp only[this,bH,aU];rfl
theorem TY{e:cn}{t r0:H}{F:ai}{ah:Bool}(h:cG e (96::t) F)(h0:96::t<:+r0):bR false e r0 (jx hB [96] t F) (λst=>st) (λ_ _ _=>True) (au (CE e.S (W (ar e.S (96::t)+1))) λy=>tO (e.st (96::t) F ah) y [96] [96]):=by rw[iQ h.b3 h.sfx,am4 h.b3 (dS h.sfx),aP rfl];unfold jx;have b:=(h.nl.iD h.sfx).tail;refine aaD h h0 (λq a=>(FA _ _ q (cS _) a).trans (dN _ _)) (by decide) (by grind) λq a c=>?_;obtain⟨x,d⟩:=anp _ _ _ (cS _) a;grind[absurd,TW]
theorem aaN{e:cn}{t r0:H}{F:ai}{ah:Bool}(h:cG e (39::t) F)(h0:39::t<:+r0):bR false e r0 (jx gy [39] t F) (λst=>st) (λ_ _ _=>True) (au (E5 e.S (W (ar e.S (39::t)+1))) λy=>tO (e.st (39::t) F ah) y [39] [39]):=by rw[iQ h.b3 h.sfx,am2 h.b3 (dS h.sfx),aP rfl];unfold jx;have b:=(h.nl.iD h.sfx).tail;refine aaD h h0 (λq a=>(AX _ q a).trans (dN _ _)) (by decide) (by grind) λq a c=>?_;grind[aaM,absurd,TW]
theorem Jp(fr:Bool)(n:Nat){t:H}{F:ai}(h:gI (36::t)=false):a9 fr n (36::t) F= .ok () t F:=by rw[FV];unfold dy;rw[s5] at h;grind
theorem TZ(fr:Bool)(n:Nat){t:H}{F:ai}{a:Unit}{r':H}{b:ai}(h:a9 fr n (36::t) F= .ok a r' b):r'.length<(36::t).length:=by
 cases c:gI (36::t) with
 |true=>exact(mI fr n).lt c h
 |false=>grind[Jp]
theorem Dj(fr:Bool)(n:Nat)(dq:Option (ad Unit))(t:H)(F:ai):cD (a9 fr n) dq (36::t) F=a9 fr n (36::t) F:=by
 unfold cD;simp only;rw[aO (by decide),aO (by decide)];cases a:gI (36::t) with
 |true=>simp
 |false=>grind[Jp]
theorem F3{D:ad Unit}{dq:Option (ad Unit)}{b:UInt8}{t:H}{F:ai}(a:b≠92)(c:b≠96)(d:b≠36)(e:dq=none\/(b≠39/\b≠34)):cD D dq (b::t) F= .ok () t F:=by
 unfold cD;simp only;have f:gI (b::t)=false:=by grind[s5]
 grind
section
variable{R:bj}{n:Nat}(hD:k7 R n){e:cn}(bc:e.ne=30- (n:Int))
include hD bc
theorem anq{r:H}{F:ai}{ah:Bool}(h:cG e r F):bR false e r (jy 34 (cD (a9 true n) none) r F) (λst=>st) (λ_ _ _=>True) (fixF (y2 R λst=>some st) bC (e.st r F ah)):=by
 unfold jy;refine bR.rep (en:=λ_ r F x=>∃ah,x=e.st r F ah) (λk s r F x c l P aw=>?_) bC () r F _ (wL h) h ⟨ah,rfl⟩;obtain⟨ah,rfl⟩:=l
 have E:∀x:aa,x.2.2.2.2.1≠0->k x=some x:=by intro x l;obtain⟨k',M⟩:=P x;simp_all[y2]
 have G:∀x:aa,x.2.2.2.2.1≠0->∃b,k x=some b/\b=x:=λx l=>⟨x,E x l,rfl⟩
 have I:∀r' d m,r'<:+r->cG e r' d->r'.length<r.length->gC e r' d m->bR false e r (ck (λ_ r F=>match r with
  |[]=>cb [] r F
  |b::t=>if b=34 then .ok (.inr ()) t F else(N (cD (a9 true n) none) λ_=>aZ (.inl ())) r F) () r' d) (λst=>st) (λ_ _ _=>True) (k m):=λr' d m Q aj a3 S=>aw () r' d m Q aj a3 (by obtain⟨ah,M,_⟩:=S;grind)
 unfold y2 a6 cn.st;dsimp only;simp only[bA,aL];rw[wI,aP rfl];cases r with
 |nil=>
  simp only[bA,aL];obtain⟨o,T,J⟩:=F0 (ah:=ah) (x:=[]) c (by simp);have U:hQ (e.S,ar e.S [],e.ne,F,0,0,[],[],ah) []=some o:=T;rw[U,aP rfl];refine⟨o,?_,?_⟩
  ·exact E o (by rw[J.1];decide)
  ·exact J.s
 |cons b t=>
  have j:t<:+b::t:=dN b t;have K:=iQ c.b3 c.sfx;simp only[reduceCtorEq,bH,aU];have V:∀p u v w y z A,je (e.S,ar e.S (b::t),p,w,u,v,y,z,A)=some b:=λp u v w y z A=>wJ c.sfx p u v w y z A
  rw[V];simp only[oL,oG,nc,oF,qW,K];by_cases L:b=34
  ·subst L;simp only[bA,aL,cU];exact⟨_,rfl,j,c.mono j,⟨ah,rfl,λW=>absurd W (c.zx (by decide))⟩,trivial⟩
  simp only[L,bH,aU,cH];by_cases B:b=92
  ·subst B;simp only[bA,aL];have az:y1 (e.S,ar e.S (92::t),e.ne,F,0,0,[],[],ah)=some (e.st (t.drop 1) F ah):=TX c;rw[az,aP rfl];have aD:t.drop 1<:+92::t:=(lM 1 t).trans j;have ax:(t.drop 1).length<(92::t).length:=by grind
   have i:N (cD (a9 true n) none) (λ_=>(aZ (.inl ()):ad (Unit⊕Unit))) (92::t) F= .ok (.inl ()) (t.drop 1) F:=by rfl
   rw[i];exact bR.inl ax (aw () _ F _ aD (c.mono aD) ax ⟨ah,rfl⟩)
  simp only[B,bH,aU];by_cases C:b=96
  ·subst C;simp only[bA,aL];have i:cD (a9 true n) none (96::t) F=jx hB [96] t F:=by rfl
   have:=F2 (f:=λ_ r F=>match r with
    |[]=>cb [] r F
    |b::t=>if b=34 then .ok (.inr ()) t F else(N (cD (a9 true n) none) λ_=>aZ (.inl ())) r F) (part:=cD (a9 true n) none) (r:=96::t) (F:=F) (pr:=λst=>st) (cv:=λ_ _ _=>True) (k:=k) (by rw[i];exact TY (ah:=ah) c fS) (λa r' d g=>by
     rw[i] at g;unfold jx at g;cases O:hB t with
     |none=>grind
     |some q=>rw[O] at g;cases g;have:=(FA _ _ _ (cS _) O).length_le;grind) I G
   rw[K,s_] at this;exact this
  simp only[C,bH,aU];by_cases D:b=36
  ·subst D;simp only[bA,aL];exact F2 (part:=cD (a9 true n) none) (by rw[Dj];exact hD.im e bc t F ah c) (λa r' d g=>by rw[Dj] at g;exact TZ true n g) I G
  ·simp only[D,bH,aU];have i:N (cD (a9 true n) none) (λ_=>(aZ (.inl ()):ad (Unit⊕Unit))) (b::t) F= .ok (.inl ()) t F:=by unfold N;rw[F3 B C D (.inl rfl)];rfl
   rw[i];exact bR.inl (by simp) (aw () _ F _ j (c.mono j) (by simp) ⟨ah,rfl⟩)
theorem aaO{t r0:H}{F:ai}{ah:Bool}(h:cG e (34::t) F)(h0:34::t<:+r0)(j:r0<:+e.S):bR false e r0 (eJ (a9 true n) t F) (λst=>st) (λ_ _ _=>True) (H8 R (e.st (34::t) F ah)):=by
 have k:=iQ h.b3 h.sfx;have d:t<:+34::t:=dN 34 t;have g:=h.mono d;unfold H8 a6;have l:((e.st (34::t) F ah).1,W ((e.st (34::t) F ah).2.1+1),(e.st (34::t) F ah).2.2.1,(e.st (34::t) F ah).2.2.2.1,(e.st (34::t) F ah).2.2.2.2.1,(e.st (34::t) F ah).2.2.2.2.2.1,(e.st (34::t) F ah).2.2.2.2.2.2.1,(e.st (34::t) F ah).2.2.2.2.2.2.2.1,(e.st (34::t) F ah).2.2.2.2.2.2.2.2)=e.st t F ah:=by show(e.S,W (ar e.S (34::t)+1),e.ne,F,(0:Int),(0:Int),([]:H),([]:bw),ah)=_;rw[k];rfl
 rw[l];have m:=aaK (R:=R) (a:=[34]) (b:=[34]) bC (e.st t F ah);refine bR.eh ?_ m;obtain⟨f,o,c⟩:=anq hD bc (ah:=ah) g;rw[o,aP rfl];unfold eJ ad.named ad.aI;have i:=aJ.xF (n:=11) (aJ.part (xK true n▸(ue true n).dl) (dq:=none) (λq h=>by cases h)) 34 t F;cases hm:jy 34 (cD (a9 true n) none) t F with
 |ok a ae v=>rw[hm] at c;obtain⟨p,aj,a3,_⟩:=c;refine⟨f,qc ?_,p.trans (d.trans h0),aj,a3,trivial⟩;obtain⟨w,rfl,_⟩:=a3;show(0:Int)≠1;decide
 |more op nd ds=>rw[hm] at c i;simp only[ek] at i;have az:=g.kb;obtain⟨r,s,u⟩:=xS (nm:=[34]) (x:=[34]) (r0:=r0) (ae:=t) c.z (d.trans h0) j (.inr (by grind)) (by grind) h.b3 (by simp);exact⟨r,s,u.s⟩
 |bad q=>rw[hm] at c;exact⟨f,qc (by rw[c.1];decide),jk.mono c (d.trans h0)⟩
 |deep q=>rw[hm] at c;exact⟨f,qc (by rw[c.1];decide),jk.mono c (d.trans h0)⟩
theorem anr{r:H}{F:ai}{ah:Bool}(h:cG e r F):bR false e r (jy 125 (cD (a9 true n) (some (eJ (a9 true n)))) r F) (λst=>st) (λ_ _ _=>True) (fixF (za R λst=>some st) bC (e.st r F ah)):=by
 unfold jy;refine bR.rep (en:=λ_ r F x=>∃ah,x=e.st r F ah) (λk s r F x d o S aw=>?_) bC () r F _ (wL h) h ⟨ah,rfl⟩;obtain⟨ah,rfl⟩:=o
 have P:∀x:aa,x.2.2.2.2.1≠0->k x=some x:=by intro x o;obtain⟨k',M⟩:=S x;rw[M];unfold za;grind
 have p:∀x:aa,x.2.2.2.2.1≠0->∃b,k x=some b/\b=x:=λx o=>⟨x,P x o,rfl⟩
 have u:∀r' i v,r'<:+r->cG e r' i->r'.length<r.length->gC e r' i v->bR false e r (ck (λ_ r F=>match r with
  |[]=>cb [] r F
  |b::t=>if b=125 then .ok (.inr ()) t F else(N (cD (a9 true n) (some (eJ (a9 true n)))) λ_=>aZ (.inl ())) r F) () r' i) (λst=>st) (λ_ _ _=>True) (k v):=λr' i v T aj a3 U=>aw () r' i v T aj a3 (by obtain⟨ah,M,_⟩:=U;grind)
 unfold za a6 cn.st;dsimp only;simp only[bA,aL];rw[wI,aP rfl];cases r with
 |nil=>
  simp only[bA,aL];obtain⟨w,V,Q⟩:=F0 (ah:=ah) (x:=[]) d (by simp);have W:hQ (e.S,ar e.S [],e.ne,F,0,0,[],[],ah) []=some w:=V;rw[W,aP rfl];refine⟨w,?_,?_⟩
  ·exact P w (by rw[Q.1];decide)
  ·exact Q.s
 |cons b t=>
  have j:t<:+b::t:=dN b t;have y:=iQ d.b3 d.sfx;simp only[reduceCtorEq,bH,aU];have X:∀z A B C D E G,je (e.S,ar e.S (b::t),z,C,A,B,D,E,G)=some b:=λz A B C D E G=>wJ d.sfx z A B C D E G
  rw[X];simp only[oL,oG,nc,oF,qW,rP,aaF,y];by_cases l:b=125
  ·subst l;simp only[bA,aL,cU];exact⟨_,rfl,j,d.mono j,⟨ah,rfl,λY=>absurd Y (d.zx (by decide))⟩,trivial⟩
  simp only[l,bH,aU,cH];by_cases I:b=92
  ·subst I;simp only[bA,aL];have az:y1 (e.S,ar e.S (92::t),e.ne,F,0,0,[],[],ah)=some (e.st (t.drop 1) F ah):=TX d;rw[az,aP rfl];have aD:t.drop 1<:+92::t:=(lM 1 t).trans j;have ax:(t.drop 1).length<(92::t).length:=by grind
   have g:N (cD (a9 true n) (some (eJ (a9 true n)))) (λ_=>(aZ (.inl ()):ad (Unit⊕Unit))) (92::t) F= .ok (.inl ()) (t.drop 1) F:=by rfl
   rw[g];exact bR.inl ax (aw () _ F _ aD (d.mono aD) ax ⟨ah,rfl⟩)
  simp only[I,bH,aU];by_cases J:b=39
  ·subst J;simp only[bA,aL];have g:cD (a9 true n) (some (eJ (a9 true n))) (39::t) F=jx gy [39] t F:=by rfl
   have:=F2 (f:=λ_ r F=>match r with
    |[]=>cb [] r F
    |b::t=>if b=125 then .ok (.inr ()) t F else(N (cD (a9 true n) (some (eJ (a9 true n)))) λ_=>aZ (.inl ())) r F) (part:=cD (a9 true n) (some (eJ (a9 true n)))) (r:=39::t) (F:=F) (pr:=λst=>st) (cv:=λ_ _ _=>True) (k:=k) (by rw[g];exact aaN (ah:=ah) d fS) (λa r' i c=>by
     rw[g] at c;unfold jx at c;cases m:gy t with
     |none=>grind
     |some q=>rw[m] at c;cases c;have:=(AX _ _ m).length_le;grind) u p
   rw[y,s_] at this;exact this
  simp only[J,bH,aU];by_cases K:b=34
  ·subst K;simp only[bA,aL];have g:cD (a9 true n) (some (eJ (a9 true n))) (34::t) F=eJ (a9 true n) t F:=by rfl
   refine F2 (part:=cD (a9 true n) (some (eJ (a9 true n)))) (by rw[g];exact aaO hD bc d fS d.sfx) (λa r' i c=>?_) u p;rw[g] at c;have:=((ao.double (mI true n)).sfx c).length_le;grind
  simp only[K,bH,aU];by_cases L:b=96
  ·subst L;simp only[bA,aL];have g:cD (a9 true n) (some (eJ (a9 true n))) (96::t) F=jx hB [96] t F:=by rfl
   have:=F2 (f:=λ_ r F=>match r with
    |[]=>cb [] r F
    |b::t=>if b=125 then .ok (.inr ()) t F else(N (cD (a9 true n) (some (eJ (a9 true n)))) λ_=>aZ (.inl ())) r F) (part:=cD (a9 true n) (some (eJ (a9 true n)))) (r:=96::t) (F:=F) (pr:=λst=>st) (cv:=λ_ _ _=>True) (k:=k) (by rw[g];exact TY (ah:=ah) d fS) (λa r' i c=>by
     rw[g] at c;unfold jx at c;cases m:hB t with
     |none=>grind
     |some q=>rw[m] at c;cases c;have:=(FA _ _ _ (cS _) m).length_le;grind) u p
   rw[y,s_] at this;exact this
  simp only[L,bH,aU];by_cases O:b=36
  ·subst O;simp only[bA,aL];exact F2 (part:=cD (a9 true n) (some (eJ (a9 true n)))) (by rw[Dj];exact hD.im e bc t F ah d) (λa r' i c=>by rw[Dj] at c;exact TZ true n c) u p
  ·simp only[O,bH,aU];have g:N (cD (a9 true n) (some (eJ (a9 true n)))) (λ_=>(aZ (.inl ()):ad (Unit⊕Unit))) (b::t) F= .ok (.inl ()) t F:=by unfold N;rw[F3 I L O (.inr ⟨J,K⟩)];rfl
   rw[g];exact bR.inl (by simp) (aw () _ F _ j (d.mono j) (by simp) ⟨ah,rfl⟩)
end
def jZ:Ctx->H
 | .text=>[]| .paren=>[41]| .item=>[59,59]|_=>[119]
def pA:Ctx->bw
 | .p7=>[[125]]| .oZ=>[hj]| .qH=>[ir,gi,eb]| .ku=>[eb]| .p8=>[hn]| .done=>[jh]|_=>[]
def xU:Ctx->Bool->Bool
 | .text,_=>false
 | .paren,_=>true
 | .item,no=>no
 |_,no=> !no
structure o5(R:bj)(n:Nat):Prop where
 im:∀(e:cn)(c:Ctx)(no:Bool),xU c no=true->e.ne=30- (n:Int)->∀(r:H)(F:ai)(st:aa),cG e r F->gC e r F st->bR false e r ((aS true n).ls c no r F) (λb=>b.2) (λa _ b=>b.1=(a:Int)) (R.oo st (jZ c) (pA c) (!no))
def cn.up(e:cn):cn:=⟨e.S,e.ne+1⟩
theorem oJ.ug{e:cn}{r:H}{st:aa}(h:oJ e.up r st):oJ e r st:=⟨h.s,h.lo,h.bg,h.nd,h.op⟩
theorem cG.xV{e:cn}{r:H}{F:ai}(h:cG e r F):cG e.up r F:=⟨h.b3,h.nl,h.Jk,h.sfx,h.kb⟩
theorem cG.ug{e:cn}{r:H}{F:ai}(h:cG e.up r F):cG e r F:=⟨h.b3,h.nl,h.Jk,h.sfx,h.kb⟩
theorem qe{e:cn}{r r0:H}{F:ai}{ah:Bool}(p:Int)(h:cG e r F)(h0:r<:+r0):∃st,h9 (e.st r F ah) p=some st/\jk e r0 st:=by
 refine⟨_,rfl,rfl,rfl,?_,?_,?_,?_⟩
 ·show ar e.S r0<=ar e.S r;grind[ar]
 ·show ar e.S r<=_;have:= @pz r e.S;omega
 ·show([]:H).length+eC F<=_;have:=h.kb;grind
 ·show([]:bw).length<=_;simp
theorem ans{j:H->Option aa}{a:(Int×H)->Option aa}(x:H):Fg j a (0,x)=j x:=rfl
theorem ant{j:H->Option aa}{a:(Int×H)->Option aa}(k:Nat)(x:H)(c:x.length+k<=100000000):Fg j a (((k+1:Nat):Int),x)=a ((k:Int),x++[41]):=by
 unfold Fg;dsimp only;have h0:(0:Int)<((k+1:Nat):Int):=by omega
 have b:W (((k+1:Nat):Int)-1)=(k:Int):=by grind[dJ]
 rw[decide_eq_true h0,aL,bX (by grind),b]
theorem aaQ{j:H->Option aa}:∀(n k:Nat)(x:H),k<n->x.length+k<=100000000->fixF (Fg j) n ((k:Int),x)=j (x++List.replicate k 41):=by
 intro n;induction n with
 |zero=>omega
 |succ n a=>
  intro k x h b;rw[fm];cases k with
  |zero=>simp[ans,trans,List.replicate_zero,List.append_nil]
  |succ k=>grind[ant,List.length_append,List.length_singleton,List.append_assoc]
def zy(st:aa):aa:=(st.1,W (st.2.1+1),W (st.2.2.1-1),st.2.2.2.1,st.2.2.2.2.1,st.2.2.2.2.2.1,st.2.2.2.2.2.2.1,st.2.2.2.2.2.2.2.1,st.2.2.2.2.2.2.2.2)
def ta(st:aa):aa:=(st.1,st.2.1,W (st.2.2.1-1),st.2.2.2.1,st.2.2.2.2.1,st.2.2.2.2.2.1,st.2.2.2.2.2.2.1,st.2.2.2.2.2.2.2.1,st.2.2.2.2.2.2.2.2)
theorem oJ.zy{e:cn}{ae r0:H}{st:aa}(h:oJ e ae st)(M:ae<:+r0)(h0:r0<:+e.S)(ax:ae.length<r0.length)(g:e.S.length<=1000000):oJ e r0 (zy st):=by
 have a:=h.lo;have b:=h.bg;have i:=eY h0;have c:0<=ar e.S ae:=by grind[ar]
 have d:ar e.S r0<=ar e.S ae:=by grind[ar]
 have f:W (st.2.1+1)=st.2.1+1:=dJ (by omega) (by omega);refine⟨h.s,?_,?_,h.nd,?_⟩
 ·show _<=W (st.2.1+1);omega
 ·show W (st.2.1+1)<=_;omega
 ·have:=h.op;show st.2.2.2.2.2.2.2.1.length<=_;omega
theorem anw{e:cn}{ae:H}{st:aa}(h:oJ e ae st)(Y:ae<:+e.S)(c:e.S.length<=1000000)(ax:(e.S.length:Int)<=st.2.1):(e.S.length:Int)<=(zy st).2.1:=by have a:=h.bg;have d:=eY Y;have b:W (st.2.1+1)=st.2.1+1:=dJ (by omega) (by omega);show _<=W (st.2.1+1);omega
theorem oJ.ta{e:cn}{r0:H}{st:aa}(h:oJ e r0 st):oJ e r0 (ta st):=⟨h.s,h.lo,h.bg,h.nd,h.op⟩
theorem T0{α:Type}{m:ad α}{x n r:H}{F:ai}{a:α}{ae:H}{b:ai}(h:m r F= .ok a ae b):((m.aI x).named n) r F= .ok a ae b:=by grind[ad.named,ad.aI]
theorem T1{α:Type}{m:ad α}{x n r:H}{F:ai}{op:bw}{nd:H}{ds:ai}(h:m r F= .more op nd ds):((m.aI x).named n) r F= .more (n::op) (cV nd ds x).1 (cV nd ds x).2:=by grind[ad.named,ad.aI]
theorem aaS{α:Type}{m:ad α}{x n r q:H}{F:ai}(h:m r F= .bad q):((m.aI x).named n) r F= .bad q:=by grind[ad.named,ad.aI]
theorem aaT{α:Type}{m:ad α}{x n r q:H}{F:ai}(h:m r F= .deep q):((m.aI x).named n) r F= .deep q:=by grind[ad.named,ad.aI]
theorem kd{α β:Type}{m:ad α}{k:α->ad β}{r q:H}{F:ai}(h:m r F= .deep q):N m k r F= .deep q:=by grind[N]
section
variable{R:bj}{n:Nat}(g6:∀m,n=m+1->k7 R m/\o5 R m)(av:n<=30){e:cn}(bc:e.ne=30- (n:Int))
include g6 av bc
theorem anx{t:H}{F:ai}{ah:Bool}(h:cG e (36::t) F):bR false e (36::t) (a9 true n (36::t) F) (λst=>st) (λ_ _ _=>True) (Iy R (e.st (36::t) F ah)):=by
 have D:t<:+36::t:=dN 36 t;have bU:=iQ h.b3 h.sfx;have t_:=h.zx (by decide);have Nq:u6 (e.st (36::t) F ah) 1=some (t.headD 0):=TU h 1 (by decide);have K:u6 (e.st (36::t) F ah) 2=some ((t.drop 1).headD 0):=TU h 2 (by decide);unfold Iy;rw[Nq];simp only[oL,AY,AZ];rw[K,gd];cases t with
 |nil=>grind
 |cons c u=>
  simp only[zT,GJ,yg];have Nu:c::u<:+e.S:=dS h.sfx;have z:u<:+36::c::u:=(dN c u).trans D;by_cases ay:c=40
  ·subst ay;simp only[bA,cU,aL];have lS:u≠[]:=(h.mono D).zx (by decide);cases u with
   |nil=>grind
   |cons d v=>
    simp only[zT];by_cases aD:d=40
    ·
     subst aD;simp only[bA,aL];have hN:W (ar e.S (36::40::40::v)+3)=ar e.S v:=kK (w:=[36,40,40]) h.b3 h.sfx;have l:v<:+36::40::40::v:=fR [36,40,40] v;have az:a9 true n (36::40::40::v) F=mG v F:=by rw[FV];rfl
     rw[az];have M:(e.st (36::40::40::v) F ah).1=e.S:=rfl;have U:(e.st (36::40::40::v) F ah).2.1=ar e.S (36::40::40::v):=rfl;rw[M,U,hN,am6 h.b3 (l.trans h.sfx),aP rfl];unfold mG a6;cases Y:hR 0 v with
     |bad q=>simp only[qX,show(decide ((-2:Int)= -2))=true from rfl,aL];obtain⟨st,g,f⟩:=qe (ah:=ah) (ar e.S q) h fS;rw[g,aP rfl];exact⟨_,rfl,f.1,f.2.s,f.2.lo,f.2.bg,by have:=f.2.nd;have i:=h.kb;cases g;omega,by cases g;exact f.2.op⟩
     |ok q=>
      have E:=AU 0 v q Y;have ax:=eY (E.trans (l.trans h.sfx));have h0:¬ar e.S q= -2:=by grind[ar]
      simp only[qX,h0,bH,aU];have jC:(0:Int)=((0:Nat):Int):=rfl;rw[jC,aaQ bC 0 [] (by simp[gF]) (by simp)]
      have:=TP (q:=false) (ah:=ah) (o:=some q) (nm:=[36,40,40]) (x:=[]) h fS (λL G=>by grind) (by simp) (by simp) (by simp) (λL G mh=>by
       cases G;exfalso;have dH:=(h.nl.iD h.sfx).iD l
       have:∃x,v=x++41::q:=by
        have:∀(r:H)(d:Nat)(q:H),hR d r= .ok q->∃x,r=x++41::q:=by
         intro r;induction r with
         |nil=>simp[hR]
         |cons b t aV=>
          intro d q i;unfold hR at i;split at i
          ·cases i
          ·split at i
           ·grind
           ·split at i
            ·split at i
             ·grind
             ·split at i
              ·cases i
              ·split at i
               ·rename_i atS _ N;cases i;subst N;exact⟨[b],rfl⟩
               grind
            grind
        grind
       grind[TW])
      simp only[lL] at this;obtain⟨st,g,f⟩:=this;simp only[List.replicate_zero,k8];rw[g,aP rfl];exact⟨st,rfl,f⟩
     |more k=>have aw:=aJ.TG v 0 k Y;have ax:=eY (l.trans h.sfx);have hb:=h.b3;simp only[qX,show(decide ((-1:Int)= -2))=false from rfl,aU];rw[aaQ bC k [] (by grind[gF]) (by grind)];have:=TP (q:=false) (ah:=ah) (o:=none) (nm:=[36,40,40]) (x:=List.replicate k 41) h List.suffix_rfl (λL G=>by grind) (by simp) (by grind) (by simp) (λL G=>by grind);simp only[lL] at this;obtain⟨st,g,f⟩:=this;simp only[re];rw[g,aP rfl];exact⟨st,rfl,f⟩
    ·
     simp only[aD,bH,aU];unfold a6 AK;have I:¬([36,40,40]:H).isPrefixOf (36::40::d::v)=true:=by grind
     cases n with
     |zero=>
      have p:decide (30<=(e.st (36::40::d::v) F ah).2.2.1)=true:=by show decide (30<=e.ne)=true;grind
      rw[p];have az:a9 true 0 (36::40::d::v) F= .deep (36::40::d::v):=by rw[FV];unfold dy;rw[aO I,bh (by simp)];rfl
      rw[az];obtain⟨st,g,f⟩:=qe (ah:=ah) ((e.st (36::40::d::v) F ah).2.1) h fS;simp only[aL,s_];rw[g,aP rfl,aP rfl];exact⟨_,rfl,by cases g;exact f⟩
     |succ m=>
      obtain⟨Nv,ud⟩:=g6 m rfl;have p:decide (30<=(e.st (36::40::d::v) F ah).2.2.1)=false:=by show decide (30<=e.ne)=false;grind
      rw[p];simp only[aU,oL,aL];have O:e.ne=(e.st (36::40::d::v) F ah).2.2.1:=rfl;rw[<-O];have P:W (e.ne+1)=e.ne+1:=dJ (by omega) (by omega);have Q:W ((e.st (36::40::d::v) F ah).2.1+2)=ar e.S (d::v):=kK (w:=[36,40]) h.b3 h.sfx;rw[P,Q];have l:d::v<:+36::40::d::v:=z;have A:=(h.mono l).xV;have S:d::v≠[]:=by simp
      have ax:=ud.im e.up .paren true rfl (by show e.ne+1=_;omega) (d::v) F (e.up.st (d::v) F ah) A ⟨ah,rfl,λi=>absurd i S⟩;have az:a9 true (m+1) (36::40::d::v) F=vd (aS true m) (d::v) F:=by rw[FV];unfold dy jY;rw[aO I,bh (by simp)];rfl
      rw[az];have T:((e.st (36::40::d::v) F ah).1,ar e.S (d::v),e.ne+1,(e.st (36::40::d::v) F ah).2.2.2.1,(e.st (36::40::d::v) F ah).2.2.2.2.1,(e.st (36::40::d::v) F ah).2.2.2.2.2.1,(e.st (36::40::d::v) F ah).2.2.2.2.2.2.1,(e.st (36::40::d::v) F ah).2.2.2.2.2.2.2.1,(e.st (36::40::d::v) F ah).2.2.2.2.2.2.2.2)=e.up.st (d::v) F ah:=rfl;rw[T];obtain⟨b,g,f⟩:=ax;have wO:R.oo (e.up.st (d::v) F ah) [41] [] false=some b:=g;rw[wO,aP rfl];unfold vd;have B:=(ue true m).ls .paren true (d::v) F;have ks:(d::v).length<(40::d::v).length:=by simp
      have h5:(40::d::v).length<(36::40::d::v).length:=by simp
      cases aw:(aS true m).ls .paren true (d::v) F with
      |ok a ae C=>
       rw[aw] at f;obtain⟨V,aj,⟨s,a3,bP⟩,fj⟩:=f;dsimp only at a3;rw[aT (T0 aw)];obtain⟨da,eR⟩:=A7 true m;rw[eR] at aw;obtain⟨hI,j1⟩:=zo (by simp) aw;have g7:an ae= .op [41]:=by grind[ec]
       rw[A1 hI g7];obtain⟨q,rfl⟩:=(h4 g7).2.1;rw[oO];have j:gZ b.2 [36,40] [41]=some b.2:=qc (by rw[a3];show(0:Int)≠1;decide);rw[j,aP rfl,a3];have E:q<:+[41]++q:=fR [41] q;have lq:W (ar e.S ([41]++q)+1)=ar e.S q:=kK (w:=[41]) h.b3 aj.sfx;have mh:q≠[]:=aj.zx (by decide);have sC:=(aj.ug.mono E);refine⟨e.st q C s,?_,E.trans (V.trans l),sC,⟨s,rfl,λi=>absurd i mh⟩,trivial⟩;show some (e.S,W (ar e.S ([41]++q)+1),W (e.ne+1-1),C,(0:Int),(0:Int),([]:H),([]:bw),s)=_;rw[lq,dJ (by omega) (by omega)];have:e.ne+1-1=e.ne:=by omega
       rw[this];rfl
      |more op nd ds=>rw[aw] at f B;simp only[ek] at B;have X:=A.kb;have Z:e.up.S=e.S:=rfl;rw[Z] at X;obtain⟨fw,iP,sn,ln,vs⟩:=f.z;obtain⟨aK,af,bf⟩:=xS (e:=e) (nm:=[36,40]) (x:=[41]) (ae:=d::v) (r0:=40::d::v) (nd:=nd) (ds:=ds) ⟨fw,iP,sn,ln.ug,vs⟩ (dN _ _) Nu (.inr ks) (by grind) h.b3 (by simp);rw[af,aP rfl,dm (T1 aw)];obtain⟨rU,fF,c2,J,mu⟩:=bf;exact⟨zy aK,rfl,.inl ⟨rU,fF,c2,J.zy (dN _ _) h.sfx h5 h.b3,anw J Nu h.b3 mu⟩⟩
      |bad q=>rw[aw] at f;have j:gZ b.2 [36,40] [41]=some b.2:=qc (by rw[f.1];decide);rw[j,aP rfl,hp (aaS aw)];exact⟨zy b.2,rfl,f.1,f.2.ug.zy l h.sfx (by simp) h.b3⟩
      |deep q=>rw[aw] at f;have j:gZ b.2 [36,40] [41]=some b.2:=qc (by rw[f.1];decide);rw[j,aP rfl,kd (aaT aw)];exact⟨zy b.2,rfl,f.1,f.2.ug.zy l h.sfx (by simp) h.b3⟩
  ·simp only[ay,bH,aU,fo,cH];by_cases xh:c=123
   ·
    subst xh;simp only[bA,aL];unfold a6 AK;have I:¬([36,40,40]:H).isPrefixOf (36::123::u)=true:=by simp
    have anC:¬([36,40]:H).isPrefixOf (36::123::u)=true:=by simp
    cases n with
    |zero=>
     have p:decide (30<=(e.st (36::123::u) F ah).2.2.1)=true:=by show decide (30<=e.ne)=true;grind
     rw[p];have az:a9 true 0 (36::123::u) F= .deep (36::123::u):=by rfl
     rw[az];obtain⟨st,g,f⟩:=qe (ah:=ah) ((e.st (36::123::u) F ah).2.1) h fS;simp only[aL,s_];rw[g,aP rfl,aP rfl];exact⟨_,rfl,by cases g;exact f⟩
    |succ m=>
     obtain⟨Nv,ud⟩:=g6 m rfl;have p:decide (30<=(e.st (36::123::u) F ah).2.2.1)=false:=by show decide (30<=e.ne)=false;grind
     rw[p];simp only[aU,oL,aL];have O:e.ne=(e.st (36::123::u) F ah).2.2.1:=rfl;rw[<-O];have P:W (e.ne+1)=e.ne+1:=dJ (by omega) (by omega);rw[P];have T:((e.st (36::123::u) F ah).1,(e.st (36::123::u) F ah).2.1,e.ne+1,(e.st (36::123::u) F ah).2.2.2.1,(e.st (36::123::u) F ah).2.2.2.2.1,(e.st (36::123::u) F ah).2.2.2.2.2.1,(e.st (36::123::u) F ah).2.2.2.2.2.2.1,(e.st (36::123::u) F ah).2.2.2.2.2.2.2.1,(e.st (36::123::u) F ah).2.2.2.2.2.2.2.2)=e.up.st (36::123::u) F ah:=rfl;rw[T];have az:a9 true (m+1) (36::123::u) F=((qG (a9 true m)).named [36,123]) u F:=by rw[FV];unfold dy jY;rw[aO I,aO anC,bh (by simp)];show((aS true m).pm.named [36,123]) u F=_;rw[ZB]
     rw[az];unfold Se a6;have Q:W ((e.up.st (36::123::u) F ah).2.1+2)=ar e.S u:=kK (w:=[36,123]) h.b3 h.sfx;have Jb:((e.up.st (36::123::u) F ah).1,W ((e.up.st (36::123::u) F ah).2.1+2),(e.up.st (36::123::u) F ah).2.2.1,(e.up.st (36::123::u) F ah).2.2.2.1,(e.up.st (36::123::u) F ah).2.2.2.2.1,(e.up.st (36::123::u) F ah).2.2.2.2.2.1,(e.up.st (36::123::u) F ah).2.2.2.2.2.2.1,(e.up.st (36::123::u) F ah).2.2.2.2.2.2.2.1,(e.up.st (36::123::u) F ah).2.2.2.2.2.2.2.2)=e.up.st u F ah:=by rw[Q];rfl
     rw[Jb];have Nt:=aaL (R:=R) (a:=[36,123]) (b:=[125]) bC (e.up.st u F ah);have A:=(h.mono z).xV;obtain⟨b,g,f⟩:=anr Nv (e:=e.up) (by show e.ne+1=_;omega) (ah:=ah) A;rw[g,aP rfl] at Nt;refine bR.eh ?_ (mL (λy=>au y _) Nt);unfold qG;have B:=aJ.xF (n:=11) (aJ.vn (xK true m▸(ue true m).dl)) 125 u F;have ks:u.length<(123::u).length:=by simp
     have h5:(123::u).length<(36::123::u).length:=by simp
     cases aw:jy 125 (cD (a9 true m) (some (eJ (a9 true m)))) u F with
     |ok a ae C=>
      rw[aw] at f;obtain⟨V,aj,⟨s,a3,bP⟩,fj⟩:=f;dsimp only at a3;rw[T0 aw];have j:gZ b [36,123] [125]=some b:=qc (by rw[a3];show(0:Int)≠1;decide);rw[j,aP rfl,a3];refine⟨e.st ae C s,?_,V.trans z,aj.ug,⟨s,rfl,bP⟩,trivial⟩;show some (e.S,ar e.S ae,W (e.ne+1-1),C,(0:Int),(0:Int),([]:H),([]:bw),s)=_;rw[dJ (by omega) (by omega)];have:e.ne+1-1=e.ne:=by omega
      rw[this];rfl
     |more op nd ds=>rw[aw] at f B;simp only[ek] at B;have X:=A.kb;have Z:e.up.S=e.S:=rfl;rw[Z] at X;obtain⟨fw,iP,sn,ln,vs⟩:=f.z;obtain⟨aK,af,bf⟩:=xS (e:=e) (nm:=[36,123]) (x:=[125]) (ae:=u) (r0:=36::123::u) (nd:=nd) (ds:=ds) ⟨fw,iP,sn,ln.ug,vs⟩ z h.sfx (.inr (by omega)) (by grind) h.b3 (by simp);rw[af,aP rfl,T1 aw];obtain⟨rU,fF,c2,J,mu⟩:=bf;exact⟨ta aK,rfl,.inl ⟨rU,fF,c2,J.ta,mu⟩⟩
     |bad q=>rw[aw] at f;have j:gZ b [36,123] [125]=some b:=qc (by rw[f.1];decide);rw[j,aP rfl,aaS aw];exact⟨ta b,rfl,f.1,(f.2.ug.mono z).ta⟩
     |deep q=>rw[aw] at f;have j:gZ b [36,123] [125]=some b:=qc (by rw[f.1];decide);rw[j,aP rfl,aaT aw];exact⟨ta b,rfl,f.1,(f.2.ug.mono z).ta⟩
   ·
    simp only[xh,bH,aU];have aN:gI (36::c::u)=false:=by grind[s5]
    rw[Jp true n aN];refine⟨e.st (c::u) F ah,?_,D,h.mono D,⟨ah,rfl,λi=>absurd i (by simp)⟩,trivial⟩;show some (e.S,W (ar e.S (36::c::u)+1),e.ne,F,(0:Int),(0:Int),([]:H),([]:bw),ah)=_;rw[bU];rfl
end
structure uh(r0:H)(f:Bool)(ae:H):Prop where
 sfx:ae<:+r0
 t:f=true->(dg r0).2=(dg ae).2/\((dg ae).2=true->(dg r0).1=r0.take (r0.length-ae.length)++(dg ae).1)
 f:f=false->(dg r0).2=false
theorem uh.start(r:H):uh r true r:=⟨fS,λ_=>⟨rfl,λ_=>by simp⟩,λh=>by cases h⟩
theorem T2{b:UInt8}{t:H}(a:c4 (b::t)=false)(h:b=92\/b=39\/b=34\/b=96\/gI (b::t)=true):dg (b::t)=([],false):=by simp_all[dg]
theorem anD{b:UInt8}{t:H}(a:c4 (b::t)=false)(h:¬(b=92\/b=39\/b=34\/b=96\/gI (b::t)=true)):(dg (b::t)).2=(dg t).2/\((dg t).2=true->(dg (b::t)).1=b::(dg t).1):=by
 have h0:dg (b::t)=(match dg t with|(w,true)=>(b::w,true)|(_,false)=>([],false)):=by rw[dg,a,aO (by simp),aO h];grind
 grind
theorem uh.anE{r0:H}{f:Bool}{b:UInt8}{t r':H}(bg:uh r0 f (b::t))(a:c4 (b::t)=false)(h:b=92\/b=39\/b=34\/b=96\/gI (b::t)=true)(Z:r'<:+r0):uh r0 false r':=by
 refine⟨Z,(λc=>by cases c),λ_=>?_⟩;cases f with
 |true=>rw[(bg.t rfl).1,T2 a h]
 |false=>exact bg.f rfl
theorem uh.byte{r0:H}{f:Bool}{b:UInt8}{t:H}(bg:uh r0 f (b::t))(a:c4 (b::t)=false)(h:¬(b=92\/b=39\/b=34\/b=96\/gI (b::t)=true)):uh r0 f t:=by
 have Y:=bg.sfx;refine⟨(dN b t).trans Y,λhf=>?_,bg.f⟩;obtain⟨M,U⟩:=bg.t hf;obtain⟨d,c⟩:=anD a h;refine⟨by grind,λaz=>?_⟩;rw[U (by grind),c az];obtain⟨u,rfl⟩:=Y;have e:(u++b::t).length- (b::t).length=u.length:=by simp
 have g:(u++b::t).length-t.length=(u++[b]).length:=by grind
 grind
theorem aaU{α β b:Type}{g:Prop}[Decidable g]{m:Option α}{d:α}{k:α->Option β}{G:β->Option b}:au (cY g m d k) G=cY g m d (λa=>au (k a) G):=by grind[cY,s_]
theorem aaV{R:bj}{j:Bool×aa->Option (H×Bool×aa)}:∀(n:Nat)(x:Bool×aa),fixF (y3 R j) n x=au (fixF (y3 R λx=>some ([],x.1,x.2)) n x) λy=>j (y.2.1,y.2.2)
 |0,x=>rfl
 |n+1,x=>by
  rw[fm,fm];have a:=aaV (R:=R) (j:=j) n;generalize fixF (y3 R j) n=c at a;generalize fixF (y3 R λx=>some ([],x.1,x.2)) n=d at a;obtain⟨f,e,g,i,k,b,l,m,o,p⟩:=x;unfold y3 a6;dsimp only;by_cases h:b=0
  ·subst h;simp only[bA,aL,s_,TV,aaU,a,oL]
  simp_all[oL]
theorem T3{R:bj}{e:cn}{r0:H}{F:ai}{ah:Bool}{b:H×Bool×aa}(h:cG e r0 F)(Y:b.2.2.1=e.S)(d:rD R (e.st r0 F ah)=some b):b.1.length<=e.S.length/\((e.S.length:Int)<=b.2.2.2.1->b.1=r0):=by
 unfold rD a6 at d;dsimp only at d;rw[aaV] at d;cases o:fixF (y3 R λx=>some ([],x.1,x.2)) bC (true,(e.st r0 F ah).1,(e.st r0 F ah).2.1,(e.st r0 F ah).2.2.1,(e.st r0 F ah).2.2.2.1,(e.st r0 F ah).2.2.2.2.1,(e.st r0 F ah).2.2.2.2.2.1,(e.st r0 F ah).2.2.2.2.2.2.1,(e.st r0 F ah).2.2.2.2.2.2.2.1,(e.st r0 F ah).2.2.2.2.2.2.2.2) with
 |none=>rw[o] at d;cases d
 |some y=>
  rw[o,aP rfl] at d;obtain⟨u,f,g,n,p,q,r,i,s,j,k⟩:=y;dsimp only at d
  have l:∀(m:Int),a2 (0<=(e.st r0 F ah).2.1/\(e.st r0 F ah).2.1<=m/\m<=(g.length:Int)) (some (b1 g (e.st r0 F ah).2.1 m,f,(g,n,p,q,r,i,s,j,k)))=some b->b=(b1 g (ar e.S r0) m,f,(g,n,p,q,r,i,s,j,k)):=by
   intro m bt;unfold a2 at bt;split at bt
   ·cases bt;rfl
   grind
  have t:∀(a c:Int),(b1 g a c).length<=g.length:=by intro a c;unfold b1;grind
  by_cases ay:(g.length:Int)<n
  ·simp only[ay,bA,aL] at d;have:=l _ d;subst this;dsimp only at Y⊢;subst Y;exact⟨t _ _,λ_=>MV h.sfx⟩
  ·simp only[ay,bH,aU] at d;have:=l _ d;subst this;dsimp only at Y⊢;subst Y;refine⟨t _ _,λhle=>?_⟩;have:n=(e.S.length:Int):=by omega
   rw[this];exact MV h.sfx
section
variable{R:bj}{n:Nat}(hD:k7 R n){e:cn}(bc:e.ne=30- (n:Int))
include hD bc
theorem F6{r0:H}{O:ai}{tr0:Bool}(h:cG e r0 O):bR false e r0 (cO (a9 true n) r0 O) (λb=>b.2.2) (λ_ r' b=>b.1=r0.take (r0.length-r'.length)/\b.2.1=(dg r0).2/\(b.2.1=true->b.1=(dg r0).1)) (rD R (e.st r0 O tr0)):=by
 unfold rD a6 cO;have anF:=eY h.sfx;have nR:=h.b3;have S:0<=ar e.S r0:=by grind[ar]
 refine bR.rep (en:=λ_ r F (x:Bool×aa)=>∃ah,x.2=e.st r F ah/\uh r0 x.1 r) (λk s r F x c D ng aw=>?_) bC () r0 O _ (wL h) h ⟨tr0,rfl,uh.start r0⟩;obtain⟨f,x⟩:=x;obtain⟨ah,D,bg⟩:=D;dsimp only at D bg;subst D;have G:=bg.sfx;have T:ar e.S r0<=ar e.S r:=by grind[ar]
 have kq:∀(g:Bool)(st:aa),st.1=e.S->ar e.S r0<=st.2.1->∃w,(bif decide ((st.1.length:Int)<st.2.1) then a2 (0<=ar e.S r0/\ar e.S r0<=(st.1.length:Int)/\(st.1.length:Int)<=(st.1.length:Int)) (some (b1 st.1 (ar e.S r0) (st.1.length:Int),g,st))
   else a2 (0<=ar e.S r0/\ar e.S r0<=st.2.1/\st.2.1<=(st.1.length:Int)) (some (b1 st.1 (ar e.S r0) st.2.1,g,st)))=some (w,g,st):=by
  intro g st M U;by_cases ay:(st.1.length:Int)<st.2.1
  ·simp_all[bX,pz]
  ·simp only[ay,bH,aU];simp_all[bX]
 have gN:∀(x:Bool×aa),x.2.2.2.2.2.1≠0->x.2.1=e.S->ar e.S r0<=x.2.2.1->∃w,k x=some (w,x.1,x.2):=by intro x D M U;obtain⟨k',jQ⟩:=ng x;rw[jQ];unfold y3;dsimp only;simp only[D,bH,aU];exact kq x.1 x.2 M U
 unfold y3 a6 cn.st;dsimp only;simp only[bA,aL];rw[wI,aP rfl];cases r with
 |nil=>simp only[bA,aL];obtain⟨E,aW,V⟩:=F0 (ah:=ah) (x:=[]) c (by simp);have ss:hQ (e.S,ar e.S [],e.ne,F,0,0,[],[],ah) []=some E:=aW;rw[ss,aP rfl];obtain⟨w,l⟩:=kq f E V.2.2.2.1.s (by have:=V.2.2.2.1.lo;omega);exact⟨_,l,V.s⟩
 |cons b t=>
  have m:t<:+b::t:=dN b t;have bU:=iQ c.b3 c.sfx;simp only[reduceCtorEq,bH,aU];have oe:∀o p u v z A B,je (e.S,ar e.S (b::t),o,v,p,u,z,A,B)=some b:=λo p u v z A B=>wJ c.sfx o p u v z A B
  have W:∀o p u v z A B,iq (e.S,ar e.S (b::t),o,v,p,u,z,A,B)=some (bu (b::t)):=λo p u v z A B=>Jl c.b3 c.sfx o p u v z A B
  rw[oe];simp only[oL,TM,p_];rw[W,gd];have ll:(bif(bif fL b then true else decide (b=10)) then true else(!decide ((if(bif fL b then true else decide (b=10))=false then bu (b::t) else [])=[])))=c4 (b::t):=by show _=(fL b||(b==10)||(bu (b::t)!=[]));grind
  rw[ll];by_cases l:c4 (b::t)=true
  ·rw[bh l,l];simp only[aL];have X:¬(e.S.length:Int)<ar e.S (b::t):=by simp[pz]
   simp only[X,bH,aU];rw[bX ⟨S,T,pz⟩];have hH:=I4 h.sfx G;refine⟨_,rfl,fS,c,⟨ah,rfl,λhh=>by cases hh⟩,hH,?_,?_⟩
   ·cases f with
    |true=>rw[(bg.t rfl).1];unfold dg;grind
    |false=>exact(bg.f rfl).symm
   ·intro hf;have Ha:f=true:=hf;have:=(bg.t Ha).2 (by unfold dg;grind);rw[this];show b1 e.S (ar e.S r0) (ar e.S (b::t))=_;rw[hH];have az:(dg (b::t)).1=[]:=by unfold dg;grind
    grind
  have P:c4 (b::t)=false:=by grind
  rw[aO l,P];simp only[aU,oG,nc,oF,qW,rP];have uK:∀(g:Bool),(∀r',r'<:+t->uh r0 g r')->∀r' d E,r'<:+t->cG e r' d->gC e r' d E->bR false e (b::t) (ck (λ_ r F=>match r with
    |[]=>cb [] r F
    |_::_=>if c4 r then .ok (.inr ()) r F else(N (cD (a9 true n) (some (eJ (a9 true n)))) λ_=>aZ (.inl ())) r F) () r' d) (λb=>b.2.2) (λ_ r' b=>b.1=r0.take (r0.length-r'.length)/\b.2.1=(dg r0).2/\(b.2.1=true->b.1=(dg r0).1)) (k (g,E)):=by
   intro g bt r' d E Z aj a3;obtain⟨wK,rfl,_⟩:=a3;exact aw () r' d (g,e.st r' d wK) (Z.trans m) aj (by grind) ⟨wK,rfl,bt r' Z⟩
  have Q:∀(g:Bool)(y:Option aa)(K:aa->Option (H×Bool×aa)),(∀r',r'<:+t->uh r0 g r')->bR false e (b::t) (cD (a9 true n) (some (eJ (a9 true n))) (b::t) F) (λst=>st) (λ_ _ _=>True) y->(∀a r' d,cD (a9 true n) (some (eJ (a9 true n))) (b::t) F= .ok a r' d->r'<:+t)->(∀st,K st=k (g,st))->
    bR false e (b::t) (cX (λ_ r F=>match r with|[]=>cb [] r F|_::_=>if c4 r then .ok (.inr ()) r F else(N (cD (a9 true n) (some (eJ (a9 true n)))) λ_=>aZ (.inl ())) r F) (b::t) (N (cD (a9 true n) (some (eJ (a9 true n)))) (λ_=>aZ (.inl ())) (b::t) F)) (λb=>b.2.2) (λ_ r' b=>b.1=r0.take (r0.length-r'.length)/\b.2.1=(dg r0).2/\(b.2.1=true->b.1=(dg r0).1)) (au y K):=by
   intro g y K bt bm hK lx
   have I:∀st:aa,st.2.2.2.2.1≠0->oJ e (b::t) st->∃w,K st=some (w,g,st):=by intro st M U;rw[lx];exact gN (g,st) M U.s (by have:=U.lo;grind)
   refine bR.iZ db.k bm (λa ae aG C i s1 v1 hi _=>?_) (λop nd ds C _ fJ=>?_) (λC dT=>?_)
   ·have Y:=hK a ae aG i;rw[lx];exact bR.inl (by grind) (uK g bt ae aG C Y v1 hi)
   ·obtain⟨w,l⟩:=I C (by rw[fJ.z.1];decide) fJ.z.2.2.2.1;grind
   ·obtain⟨w,l⟩:=I C (by rw[dT.1];decide) dT.2;grind
  have J:(b=92\/b=39\/b=34\/b=96\/gI (b::t)=true)->∀r',r'<:+t->uh r0 false r':=λY r' xM=>bg.anE P Y (xM.trans (m.trans G))
  by_cases ei:b=92
  ·subst ei;simp only[bA,aL];have az:y1 (e.S,ar e.S (92::t),e.ne,F,0,0,[],[],ah)=some (e.st (t.drop 1) F ah):=TX c;rw[az,aP rfl];have aD:t.drop 1<:+t:=lM 1 t;have ax:(t.drop 1).length<(92::t).length:=by grind
   have j:N (cD (a9 true n) (some (eJ (a9 true n)))) (λ_=>(aZ (.inl ()):ad (Unit⊕Unit))) (92::t) F= .ok (.inl ()) (t.drop 1) F:=by rfl
   rw[j];exact bR.inl ax (aw () _ F (false,e.st (t.drop 1) F ah) (aD.trans m) (c.mono (aD.trans m)) ax ⟨ah,rfl,J (.inl rfl) _ aD⟩)
  simp only[ei,bH,aU];by_cases kI:b=39
  ·subst kI;simp only[bA,aL];have j:cD (a9 true n) (some (eJ (a9 true n))) (39::t) F=jx gy [39] t F:=by rfl
   have:=Q false _ (λst=>k (false,st)) (J (.inr (.inl rfl))) (by rw[j];exact aaN (ah:=ah) c fS) (λa r' d i=>by grind[jx,AX]) (λ_=>rfl)
   rw[s_] at this;exact this
  simp only[kI,bH,aU];by_cases gJ:b=34
  ·subst gJ;simp only[bA,aL];have j:cD (a9 true n) (some (eJ (a9 true n))) (34::t) F=eJ (a9 true n) t F:=by rfl
   exact Q false _ (λst=>k (false,st)) (J (.inr (.inr (.inl rfl)))) (by rw[j];exact aaO hD bc (ah:=ah) c fS c.sfx) (λa r' d i=>by rw[j] at i;exact(ao.double (mI true n)).sfx i) (λ_=>rfl)
  simp only[gJ,bH,aU];by_cases nN:b=96
  ·subst nN;simp only[bA,aL];have j:cD (a9 true n) (some (eJ (a9 true n))) (96::t) F=jx hB [96] t F:=by rfl
   have:=Q false _ (λst=>k (false,st)) (J (.inr (.inr (.inr (.inl rfl))))) (by rw[j];exact TY (ah:=ah) c fS) (λa r' d i=>by
    rw[j] at i;unfold jx at i;cases aE:hB t with
    |none=>grind
    |some q=>rw[aE] at i;cases i;exact FA _ _ _ (cS _) aE) (λ_=>rfl)
   rw[s_] at this;exact this
  simp only[nN,bH,aU];by_cases qY:b=36
  ·subst qY;simp only[bA,aL];have Nq:u6 (e.S,ar e.S (36::t),e.ne,F,0,0,[],[],ah) 1=some (t.headD 0):=TU c 1 (by decide);rw[Nq];simp only[oL,gd,AY,AZ];have aN:gI (36::t)=(decide (t.headD 0=40)||decide (t.headD 0=123)):=by grind[s5]
   have IM:∀a r' d,cD (a9 true n) (some (eJ (a9 true n))) (36::t) F= .ok a r' d->r'<:+t:=by
    intro a r' d i;rw[Dj] at i;have Y:=((mI true n).ex.sfx i);have ax:=TZ true n i;rcases List.suffix_cons_iff.1 Y with M|M
    ·grind
    omega
   have mX:=λg bt=>Q g (R.vR (e.S,ar e.S (36::t),e.ne,F,0,0,[],[],ah)) (λst=>k (g,st)) bt (by rw[Dj];exact hD.im e bc t F ah c) IM (λ_=>rfl);cases L:gI (36::t) with
   |true=>
    rw[L] at aN;have ay:(bif decide (t.headD 0=40) then true else decide ((if decide (t.headD 0=40)=false then t.headD 0 else 0)=123))=true:=by grind
    rw[ay];exact mX false (J (.inr (.inr (.inr (.inr L)))))
   |false=>
    rw[L] at aN;have gp:decide (t.headD 0=40)=false/\decide (t.headD 0=123)=false:=by grind
    have ay:(bif decide (t.headD 0=40) then true else decide ((if decide (t.headD 0=40)=false then t.headD 0 else 0)=123))=false:=by grind
    rw[ay];simp only[aU];have anJ:¬((36:UInt8)=92\/(36:UInt8)=39\/(36:UInt8)=34\/(36:UInt8)=96\/gI (36::t)=true):=by grind
    have j6:=bg.byte P anJ;have bm:=hD.im e bc t F ah c;obtain⟨C,bs,aR⟩:=bm;have wO:R.vR (e.S,ar e.S (36::t),e.ne,F,0,0,[],[],ah)=some C:=bs;rw[wO,aP rfl];rw[Jp true n L] at aR;obtain⟨Z,aj,⟨o4,rfl,bP⟩,_⟩:=aR;have j:N (cD (a9 true n) (some (eJ (a9 true n)))) (λ_=>(aZ (.inl ()):ad (Unit⊕Unit))) (36::t) F= .ok (.inl ()) t F:=by unfold N;rw[Dj,Jp true n L];rfl
    rw[j];exact bR.inl (by simp) (aw () _ F (f,e.st t F o4) m aj (by simp) ⟨o4,rfl,j6⟩)
  ·simp only[qY,bH,aU,bU];have j:N (cD (a9 true n) (some (eJ (a9 true n)))) (λ_=>(aZ (.inl ()):ad (Unit⊕Unit))) (b::t) F= .ok (.inl ()) t F:=by unfold N;rw[F3 ei nN qY (.inr ⟨kI,gJ⟩)];rfl
   have fO:gI (b::t)=false:=by grind[s5]
   rw[j];exact bR.inl (by simp) (aw () _ F (f,e.st t F ah) m (c.mono m) (by simp) ⟨ah,rfl,bg.byte P (by grind)⟩)
end
theorem anK{t:H}(h:gy t=none):dl (t++[39]) 39=some t:=by
 have:=Ja (t++[39]);have Y:gy (t++[39])=some []:=by
  induction t with
  |nil=>decide
  |cons b t d=>
   unfold gy at h;by_cases a:b=39
   ·grind
   ·rw[aO a] at h;show(if b=39 then some (t++[39]) else gy (t++[39]))=some [];rw[aO a];grind[Ja]
 rw[Y] at this;obtain⟨c,M,U,e⟩:=this;have f:c=t:=by grind
 grind[FN]
theorem anL:∀(n:Nat)(t:H),t.length<=n->dL t->t≠[]->eQ t= .part->∃x c y,t=x++c::y/\(c=36\/c=96)/\(∀v,dl (x++c::v) 34=none)/\
  ∀(D:ad Unit),iu D->∀F a q g,jy 34 (cD D none) t F= .ok a q g->q<:+y:=by
 intro n;induction n with
 |zero=>simp
 |succ n r=>
  intro t av k bc f;cases t with
  |nil=>grind
  |cons b t=>
   have z:t.length<=n:=by grind
   by_cases h:b=34
   ·grind[M9]
   by_cases az:b=36\/b=96
   ·refine⟨[],b,t,rfl,az,λv=>M8 34 (.inr rfl) b az v,λD hD F a q g e=>?_⟩;unfold jy at e;rw[cK] at e;simp only[aO h] at e;have l:ao (jy 34 (cD D none)):=ao.AT 34 (ao.part hD (by simp)) (na.part hD (by simp));cases hm:cD D none (b::t) F with
    |ok E ae G=>
     have ax:=(na.part hD (dq:=none) (by simp)) (by simp) hm;have Y:=(ao.part hD (dq:=none) (by simp)).sfx hm;have A:ae<:+t:=by
      rcases List.suffix_cons_iff.1 Y with M|M
      ·grind
      omega
     rw[aT hm] at e;unfold aZ cX at e;simp only at e;rw[bh ax] at e;exact(l.sfx e).trans A
    |more op nd ds=>rw[dm hm] at e;cases e
    |bad _=>rw[hp hm] at e;cases e
    |deep _=>rw[kd hm] at e;cases e
   have i:b≠36/\b≠96:=by grind
   by_cases j:b=92
   ·subst j;have I:t≠[]:=by
     rintro rfl;rcases k with M|⟨s,M⟩
     ·cases M
     ·have:=mL List.getLast? M;grind
    cases t with
    |nil=>grind
    |cons c u=>
     rw[M_] at f;have m:eQ u= .part:=by cases hu:eQ u<;>rw[hu] at f<;>simp[jL.add] at f⊢
     have o:u≠[]:=by rintro rfl;grind[eQ]
     obtain⟨x,d,y,M,U,w,B⟩:=r u (by grind) k.tail.tail o m;refine⟨92::c::x,d,y,by grind,U,λv=>?_,λD hD F a q g e=>?_⟩
     ·grind[dl,Tg]
     ·have p:cD D none (92::c::u) F= .ok () u F:=by rfl
      rw[MS (by decide) p (by grind)] at e;grind
   ·rw[Na b h az j] at f;have m:eQ t= .part:=by cases hu:eQ t<;>rw[hu] at f<;>simp[jL.add] at f⊢
    have o:t≠[]:=by rintro rfl;grind[eQ]
    obtain⟨x,d,y,M,U,w,B⟩:=r t z k.tail o m;refine⟨b::x,d,y,by grind,U,λv=>?_,λD hD F a q g e=>?_⟩
    ·show dl (b::(x++d::v)) 34=none;rw[I_ 34 (.inr rfl) b j i.1 i.2 h (λC=>absurd C (by decide)),w];rfl
    ·have p:cD D none (b::t) F= .ok () t F:=F3 j i.2 i.1 (.inl rfl);rw[MS h p (by simp)] at e;grind
theorem anM{D:ad Unit}(hD:iu D):∀(n:Nat)(t:H)(F:ai),t.length<=n->match eQ t with
  | .closed _ r=>jy 34 (cD D none) t F= .ok () r F
  | .open_ _=>jy 34 (cD D none) t F= .more [] [] F
  | .part=>True:=by
 intro n;induction n with
 |zero=>intro t F h;have:t=[]:=nQ.1 (by omega);subst this;show jy 34 (cD D none) [] F= .more [] [] F;unfold jy;rw[cK];rfl
 |succ n f=>
  intro t F av;cases t with
  |nil=>simp_all
  |cons b t=>
   have i:t.length<=n:=by grind
   by_cases a:b=34
   ·subst a;simp[M9,jy,cD,cK,cX]
   by_cases az:b=36\/b=96
   ·grind[Th]
   have g:b≠36/\b≠96:=by grind
   by_cases d:b=92
   ·subst d;cases t with
    |nil=>simp[Ti]
    |cons c u=>
     rw[M_];have e:cD D none (92::c::u) F= .ok () u F:=by rfl
     have j:=MS (c:=34) (b:=92) (by decide) e (by grind);have:=f u F (by grind);grind[eQ,jL.add,part]
   ·rw[Na b a az d];have e:cD D none (b::t) F= .ok () t F:=F3 d g.2 g.1 (.inl rfl);have j:=MS (c:=34) a e (by simp);have:=f t F i;grind[eQ,jL.add,part]
def Nx(m:Option H):Prop:=m=none\/∃d,m=some d/\d.contains 10=true
theorem Nx.map{m:Option H}(h:Nx m)(x:H):Nx (m.map (x++·)):=by
 rcases h with rfl|⟨d,rfl,h⟩
 ·exact .inl rfl
 ·refine .inr ⟨x++d,rfl,?_⟩;grind
def Bb(r:H)(F:ai):dD Unit->Prop
 | .ok _ q a=>∃w,r=w++q/\((dr r=none/\dl w 0=none)\/∃d,dl w 0=some d/\dr r=some (d,q,[])/\a=F)
 | .more _ nd ds=>(dr r=none/\Nx (dl (r++nd) 0))\/∃d,dr r=some (d,[],nd)/\dl (r++nd) 0=some d/\ds=F
 | .bad _=>dr r=none
 | .deep _=>dr r=none
theorem Bb.step{r u p x:H}{F:ai}{m:dD Unit}(h:Bb u F m)(Z:r=p++u)(M:dr r=(dr u).map λq=>(x++q.1,q.2))(U:∀v,dl (p++v) 0=(dl v 0).map (x++·)):Bb r F m:=by
 cases m with
 |ok a q e=>obtain⟨w,f,g⟩:=h;refine⟨p++w,by grind,?_⟩;grind
 |more op nd ds=>
  have c:dl (r++nd) 0=(dl (u++nd) 0).map (x++·):=by grind
  rcases h with⟨b,aj⟩|⟨d,b,aj,a3⟩
  ·left;rw[M,b,c];exact⟨rfl,aj.map x⟩
  ·right;grind
 |bad q=>show dr r=none;rw[M,show dr u=none from h];rfl
 |deep q=>show dr r=none;rw[M,show dr u=none from h];rfl
theorem Bb.no{r:H}{F:ai}{m:dD Unit}(M:dr r=none)(U:∀a q b,m= .ok a q b->∃w,r=w++q/\dl w 0=none)(c:∀v,dl (r++v) 0=none):Bb r F m:=by
 cases m with
 |ok a q b=>obtain⟨w,d,aj⟩:=U a q b rfl;exact⟨w,d,.inl ⟨M,aj⟩⟩
 |more op nd ds=>exact .inl ⟨M,.inl (c nd)⟩
 |bad q=>exact M
 |deep q=>exact M
theorem anN{D:ad Unit}(hD:iu D):∀(n:Nat)(r:H)(F:ai),r.length<=n->dL r->Bb r F (cO D r F):=by
 intro n;induction n with
 |zero=>
  intro r F h _;have:r=[]:=nQ.1 (by omega);subst this;have:cO D [] F= .more [] [] F:=by unfold cO;rw[cK];rfl
  rw[this];exact .inr ⟨[],by rw[dr],by simp[FN],rfl⟩
 |succ n l=>
  intro r F av e;cases r with
  |nil=>grind
  |cons b t=>
   have P:t.length<=n:=by grind
   by_cases Z:c4 (b::t)=true
   ·have Q:cO D (b::t) F= .ok () (b::t) F:=by unfold cO;grind[cK,cX]
    have f:dr (b::t)=some ([],b::t,[]):=by simp_all[dr.eq_def,bh]
    rw[Q];exact⟨[],rfl,.inr ⟨[],FN,f,rfl⟩⟩
   have g:c4 (b::t)=false:=by grind
   have C:∀a q k,cO D (b::t) F= .ok a q k->∃w,b::t=b::w++q:=by
    intro a q k d;have Y:=(ao.word hD).sfx d;have ax:=wu hD (by simp) g d;rcases List.suffix_cons_iff.1 Y with M|⟨w,M⟩
    ·grind
    grind
   by_cases E:b=92
   ·subst E;have G:t≠[]:=by
     rintro rfl;rcases e with M|⟨s,M⟩
     ·cases M
     ·have:=mL List.getLast? M;grind
    cases t with
    |nil=>grind
    |cons c u=>
     have i:cD D (some (eJ D)) (92::c::u) F= .ok () u F:=by rfl
     rw[C5 g i (by grind)];refine(l u F (by grind) e.tail.tail).step (p:=[92,c]) (x:=if c=10 then [] else [c]) rfl (by rw[dr.eq_def];grind) λv=>?_;show dl (92::c::v) 0=_;rw[Te 0 (.inl rfl)];by_cases ay:c=10
     ·simp[ay]
     grind
   by_cases I:b=39
   ·subst I;have i:cD D (some (eJ D)) (39::t) F=jx gy [39] t F:=by rfl
    cases Y:gy t with
    |none=>
     have hm:cO D (39::t) F= .more [[39]] [39] F:=by
      unfold cO;rw[cK];simp only[g,fo,cH];have:cD D (some (eJ D)) (39::t) F= .more [[39]] [39] F:=by grind[jx]
      rw[dm this];rfl
     rw[hm];have f:dr (39::t)=none:=by rw[dr.eq_def];grind
     refine .inl ⟨f,.inr ⟨t,?_,?_⟩⟩
     ·grind[dl,Tf,anK]
     ·have G:t≠[]:=by
       rintro rfl;rcases e with M|⟨s,M⟩
       ·cases M
       ·have:=mL List.getLast? M;grind
      rcases e.tail with M|⟨s,M⟩
      ·grind
      grind
    |some j=>
     have L:=Ja t;rw[Y] at L;obtain⟨m,N,O,R⟩:=L;have S:=ze t j Y;have xO:cD D (some (eJ D)) (39::t) F= .ok () j F:=by grind[jx]
     rw[C5 g xO (by grind)];refine(l j F (by omega) (e.tail.iD (AX _ _ Y))).step (p:=39::m++[39]) (x:=m) (by grind) ?_ λv=>?_
     ·rw[dr.eq_def];grind
     grind[Tf]
   by_cases az:b=36\/b=96
   ·have f:dr (b::t)=none:=by simp_all[dr.eq_def,aO,bh]
    refine Bb.no f (λa q k d=>?_) λv=>M8 0 (.inl rfl) b az _;obtain⟨w,M⟩:=C a q k d;exact⟨b::w,M,M8 0 (.inl rfl) b az w⟩
   have A:b≠36/\b≠96:=by grind
   by_cases J:b=34
   ·subst J;have i:cD D (some (eJ D)) (34::t) F=eJ D t F:=by rfl
    have B:=anM hD t.length t F (cS _);have K:=ZK _ t (cS _);have G:t≠[]:=by
     rintro rfl;rcases e with M|⟨s,M⟩
     ·cases M
     ·have:=mL List.getLast? M;grind
    cases Y:eQ t with
    |closed o j=>
     rw[Y] at B K;obtain⟨m,N,O⟩:=K;have xO:cD D (some (eJ D)) (34::t) F= .ok () j F:=by rw[i];exact T0 B
     have S:=Fl t o j Y;rw[C5 g xO (by grind)];refine(l j F (by omega) (e.tail.iD (SB _ _ _ _ (Nat.le_refl _) Y))).step (p:=34::m) (x:=o) (by grind) ?_ λv=>?_
     ·rw[dr.eq_def];grind
     grind[dl,Da]
    |open_ o=>
     rw[Y] at B K;have xO:cD D (some (eJ D)) (34::t) F= .more [[34]] [34] F:=by rw[i];exact T1 B
     have hm:cO D (34::t) F= .more [[34]] [34] F:=by unfold cO;rw[cK];simp only[g,fo,cH];rw[dm xO];rfl
     rw[hm];have f:dr (34::t)=some (o,[],[34]):=by rw[dr.eq_def];grind
     refine .inr ⟨o,f,?_,rfl⟩;grind[dl,Da]
    |part=>
     have f:dr (34::t)=none:=by rw[dr.eq_def];grind
     obtain⟨x,c,y,N,O,R,T⟩:=anL _ t (cS _) e.tail G Y;refine Bb.no f (λa q k d=>?_) λv=>?_
     ·
      have U:q<:+y:=by
       unfold cO at d;rw[cK] at d;simp only[g,fo,cH] at d;cases hm:cD D (some (eJ D)) (34::t) F with
       |ok V ae W=>
        rw[aT hm] at d;rw[i] at hm;have X:=iL.1 (CY.1 hm);have M:=T D hD F V ae W X;unfold aZ cX at d;simp only at d;split at d
        ·exact((ao.word hD).sfx d).trans M
        grind
       |more op nd ds=>rw[dm hm] at d;cases d
       |bad _=>rw[hp hm] at d;cases d
       |deep _=>rw[kd hm] at d;cases d
      obtain⟨z,rfl⟩:=U;grind[Da]
     grind[dl,Da,List.append_assoc]
   ·have i:cD D (some (eJ D)) (b::t) F= .ok () t F:=F3 E A.2 A.1 (.inr ⟨I,J⟩);rw[C5 g i (by simp)];refine(l t F P e.tail).step (p:=[b]) (x:=[b]) rfl (by rw[dr.eq_def];grind) λv=>?_;show dl (b::v) 0=_;rw[I_ 0 (.inl rfl) b E A.1 A.2 J (λ_=>I)];rfl
theorem anP{e:cn}{I:aa}{j:Int->Option aa}(m:I.1=e.S)(dt:e.S.length<=1000000):∀(n:Nat)(r:H),r.length<n->r<:+e.S->fixF (RS I j) n (ar e.S r)=j (ar e.S (r.dropWhile cf)):=by
 intro n;induction n with
 |zero=>omega
 |succ n o=>
  intro r av Z;rw[fm];generalize fixF _ n=k at o;unfold RS;rw[m];cases r with
  |nil=>have l:=λa c d f g h i=>wJ Z a c d f g h i;rw[l];rfl
  |cons b t=>
   have l:∀a c d f g h i,je _=some b:=λa c d f g h i=>wJ Z a c d f g h i
   rw[l];simp only[oL,gd,Tv,Tw];have ay:(bif decide (48<=b) then decide ((if decide (48<=b)=true then b else 0)<=57) else false)=cf b:=by grind[cf]
   rw[iQ dt Z];grind[List.dropWhile_cons_of_pos,dS,List.dropWhile_cons_of_neg]
theorem Nz{e:cn}{r:H}{F:ai}{ah:Bool}(h:cG e r F)(Z:r≠[]):xz (e.st r F ah)=some (match an r with| .word _ _=>false|_=>true):=by
 unfold xz;have a:je (e.st r F ah)=some _:=wJ h.sfx _ _ _ _ _ _ _;have c:iq (e.st r F ah)=some _:=Jl h.b3 h.sfx _ _ _ _ _ _ _;rw[a];simp only[oL,p_];rw[c,gd];cases r with
 |nil=>grind
 |cons b t=>grind[xT]
theorem aa2(F:ai):cV [] F [120]=([120],F):=TO _ [] F (by decide)
theorem aa3{e:cn}{r q:H}{F:ai}{ah:Bool}(h:cG e q F)(a:q<:+r):oJ e r (e.st q F ah):=by
 refine⟨rfl,?_,?_,?_,?_⟩
 ·show ar e.S r<=ar e.S q;grind[ar]
 ·show ar e.S q<=_;have:= @pz q e.S;omega
 ·show([]).length+eC F<=_;have:=h.kb;grind
 ·show([]).length<=_;simp
end Go.Eng
