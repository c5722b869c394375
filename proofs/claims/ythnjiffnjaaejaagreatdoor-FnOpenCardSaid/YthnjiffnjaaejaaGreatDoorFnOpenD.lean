/- Part 4 of what FnOpen needs. No condition. -/
import Derived.Test.YthnjiffnjaaejaaGreatDoorFnOpenC
set_option linter.all false
namespace Go.Eng
open Go Go.Proofs
theorem ajU(c:UInt8):∀(l:aa),0<=Lib.indexByte l c->Lib.indexByte l c<l.length:=by
 intro l;induction l with
 |nil=>simp[Lib.indexByte]
 |cons b l a=>unfold Lib.indexByte;grind
theorem ajV(l:aa)(hl:(l.length:Int)<=1048576)(j:Int->Option Int):∀(m:Nat)(k:Int),0<=k->k<=(l.length:Int)->(l.length:Int)-k<m->0<m->
  fixF (HM l j) m k=j (if Lib.indexByte (l.drop k.toNat) 10<0 then(l.length:Int) else k+Lib.indexByte (l.drop k.toNat) 10):=by
 intro m;induction m with
 |zero=>omega
 |succ m a=>
  intro k hk b hm _;simp only[fixF,HM,a4,oz];by_cases ad:k<(l.length:Int)
  ·simp only[ad,hk,cH,nJ,imp_true_iff,mM _ 10 10 rfl,bz];rw[dV (by omega) (by omega),vU hk ad,Lib.indexByte];grind
  ·simp only[ad,cr,bF,aU,eB,false_imp_iff,cH];rw[wm (by omega)];have e:(if Lib.indexByte ([]:aa) 10<0 then(l.length:Int) else k+Lib.indexByte ([]:aa) 10)=k:=by rw[bh (by decide)];omega
   rw[e]
theorem Yb{l:aa}{k e:Int}(h0:0<=k)(h:k<e)(he:e<=(l.length:Int)):ch l k e=at' l k::ch l (k+1) e:=by
 unfold ch;rw[vU h0 (by omega)];have:e.toNat-k.toNat=(e.toNat- (k+1).toNat)+1:=by omega
 grind
theorem ajW{l:aa}{e:Int}:ch l e e=[]:=by simp[ch]
theorem ajX(l:aa)(hl:(l.length:Int)<=1048576)(e:Int)(he:e<=(l.length:Int))(j:Int->Option Int):∀(m:Nat)(k:Int),0<=k->k<=e->e-k<m->0<m->
  ∃k',k<=k'/\k'<=e/\fixF (Es l true e j) m k=j k'/\ch l k' e=(ch l k e).dropWhile (· ==9):=by
 intro m;induction m with
 |zero=>omega
 |succ m a=>
  intro k hk d hm _;simp only[fixF,Es,a4,oz,aK];by_cases ad:k<e
  ·have b:k<(l.length:Int):=by omega
   simp only[ad,b,hk,cH,nJ,imp_true_iff,mM _ 9 9 rfl,bz,aK];rw[dV (by omega) (by omega),Yb hk ad he];by_cases f:at' l k=9
   ·obtain⟨k',r1,c,g,h⟩:=a (k+1) (by omega) (by omega) (by omega) (by omega);refine⟨k',by omega,c,?_,?_⟩
    ·grind
    simp_all
   ·refine⟨k,by omega,by omega,?_,?_⟩
    ·grind
    simp_all[Yb]
  ·have:k=e:=by omega
   subst this;refine⟨k,by omega,by omega,?_,?_⟩
   ·simp
   simp[ajW]
theorem ajY(l:aa)(e k:Int)(j:Int->Option Int):fixF (Es l false e j) bB k=j k:=by grind[bB,gm,fixF,Es,a4]
theorem ajZ(j:aa->Option aa):∀(m:Nat)(x:aa),(x.length:Int)<=1048576->x.length<m->fixF (KE 9 j) m x=j (x.dropWhile (· ==9)):=by
 intro m;induction m with
 |zero=>omega
 |succ m c=>
  intro x i hm;simp only[fixF,KE,a4,oz];cases x with
  |nil=>simp
  |cons b x=>
   have h0:at' (b::x) (0:Int)=b:=rfl;have d:ch (b::x) 1 ((b::x).length:Int)=x:=by simp[ch]
   have a:(0:Int)<((b::x).length:Int):=by simp
   have e:(1:Int)<=((b::x).length:Int):=by omega
   have f:x.length<m:=by grind
   have g:=mM b 9 ((9:UInt8).toNat:Int) rfl;rw[h0,d];simp only[g,a,e,bz,aK,u5,nJ,imp_true_iff,cH];by_cases h:b=9
   ·subst h;simp only[bz,cH,true_and,show(0:Int)<=1 from by decide];rw[c x (by grind) f];simp
   simp_all
theorem Yc(x:aa)(b:(x.length:Int)<=1048576):BB x [9]=some (x.dropWhile (· ==9)):=by
 unfold BB;by_cases h:x=[]
 ·simp_all
 ·have c:Hb x (at' [9] 0)=some (x.dropWhile (· ==9)):=by unfold Hb;have a:at' ([9]:aa) (0:Int)=9:=rfl;grind[a8,ajZ,bB,gm]
  have a:((at' ([9]:aa) (0:Int)).toNat:Int)<128:=by decide
  have d:(decide (x=[]))=false:=by grind
  simp_all[aU,a4,aO]
theorem aj0(l d:aa)(t:Bool)(hl:(l.length:Int)<=1048576):∀(m:Nat)(k:Int),0<=k->k<=(l.length:Int)->(l.length:Int)-k<m->0<m->
  ∃r,fixF (wX l d t λ_=>some (-1)) m k=some r/\fixF (rq l d t λ_=>some (-1)) m k=some r:=by
 intro m;induction m with
 |zero=>omega
 |succ m G=>
  intro k hk g hm _;by_cases ad:k<(l.length:Int)
  ·
   have u:=RO (l.drop k.toNat) 10;have H:=Jz (l.drop k.toNat) 10;have n:=ajU 10 (l.drop k.toNat);simp only[Gh] at u n;have h:ch l k (l.length:Int)=l.drop k.toNat:=L6 hk;have c:∀(e a:Int),k<=e->e<=(l.length:Int)->k<a->a<=(l.length:Int)->
     (∀j,fixF (HM l j) bB k=j e)->(if e<(l.length:Int) then W (e+1) else e)=a->
     (∃r,fixF (wX l d t λ_=>some (-1)) (m+1) k=some r/\
      (bif decide ((if t then(ch l k e).dropWhile (· ==9) else ch l k e)=d) then some a else fixF (rq l d t λ_=>some (-1)) m a)=some r):=by
    intro e a i o I J v w;simp only[fixF,wX,a8,oz,ad,cH];rw[v];have fin:∀k',k<=k'->k'<=e->ch l k' e=(if t then(ch l k e).dropWhile (· ==9) else ch l k e)->
      ∃r,(if e<(l.length:Int) then a4 (0<=k'/\k'<=e/\e<=(l.length:Int)) (if ch l k' e=d then some (W (e+1)) else fixF (wX l d t λ_=>some (-1)) m (W (e+1)))
       else a4 (0<=k'/\k'<=e/\e<=(l.length:Int)) (if ch l k' e=d then some e else fixF (wX l d t λ_=>some (-1)) m e))=some r/\
      (if((if t then(ch l k e).dropWhile (· ==9) else ch l k e)=d) then some a else fixF (rq l d t λ_=>some (-1)) m a)=some r:=by
     intro k' x q y;have bs:0<=k'/\k'<=e/\e<=(l.length:Int):=⟨by omega,q,o⟩;simp only[a4,bs,cH,nJ];grind
    cases t with
    |true=>
     obtain⟨k',x,q,y,K⟩:=ajX l hl e o (λb=>if e<(l.length:Int) then a4 (0<=b/\b<=e/\e<=(l.length:Int)) (if ch l b e=d then some (W (e+1)) else fixF (wX l d true λ_=>some (-1)) m (W (e+1)))
      else a4 (0<=b/\b<=e/\e<=(l.length:Int)) (if ch l b e=d then some e else fixF (wX l d true λ_=>some (-1)) m e)) bB k hk i (by grind[gm]) (by simp[gm])
     grind
    |false=>rw[ajY];grind
   have bf:∀(line:aa)(a:Int),(line.length:Int)<=1048576->
     (bif t then au (BB line [9]) λ(z:aa)=>(if z=d then some a else fixF (rq l d t λ_=>some (-1)) m a) else(if line=d then some a else fixF (rq l d t λ_=>some (-1)) m a))=
     (bif decide ((if t then line.dropWhile (· ==9) else line)=d) then some a else fixF (rq l d t λ_=>some (-1)) m a):=by
    intro line a A;cases t with
    |true=>simp_all[aK,aO,Yc]
    |false=>simp
   have B:=λj=>ajV l hl j bB k hk g (by grind[gm]) (by simp[gm]);generalize aB:Lib.indexByte (l.drop k.toNat) 10=p at*;by_cases L:p<0
   ·obtain⟨r,r1,s⟩:=c (l.length:Int) (l.length:Int) g (u5 _) ad (u5 _) (λj=>by grind) (by simp);refine⟨r,r1,?_⟩;simp only[fixF,rq,a8,oz,ad,cH,a4,D1,au,h,aB,hk,g,u5,nJ];rw[aP (by omega)];rw[h] at s;have:=bf (l.drop k.toNat) (l.length:Int) (by grind);grind[au]
   ·have M:=n (by omega);have C:W (k+p+1)=k+p+1:=dV (by omega) (by omega);have D:W (k+p)=k+p:=dV (by omega) (by omega);obtain⟨r,r1,s⟩:=c (k+p) (k+p+1) (by omega) (by omega) (by omega) (by omega) (λj=>by grind) (by omega);refine⟨r,r1,?_⟩;simp only[fixF,rq,a8,oz,ad,cH,a4,D1,au,h,aB,hk,g,u5,nJ];have eS:0<=p:=by omega
    have E:(0:Int)<=0/\0<=p/\p<=((l.drop k.toNat).length:Int):=⟨by omega,by omega,by grind⟩;rw[D,C];simp only[eS,cH,true_and,show p<=((l.drop k.toNat).length:Int) from E.2.2];have F:ch (l.drop k.toNat) 0 p=ch l k (k+p):=by unfold ch;simp only[Jy,xI,Nat.sub_zero];congr 1;omega
    rw[F];have f:((ch l k (k+p)).length:Int)<=1048576:=by grind[ch]
    have:=bf (ch l k (k+p)) (k+p+1) f;grind[au]
  ·simp only[fixF,wX,rq,oz,ad,cr];simp
def dl:aa->UInt8->Option aa
 |[],q=>if q=0 then some [] else none
 |b::r,q=>
  if q=39 then(if b=39 then dl r 0 else(dl r 39).map (b::·))
  else if b=92 then
   match r with
   |[]=>none
   |n::r'=>if n=10 then dl r' q else if q=0\/n=36\/n=34\/n=92\/n=96 then(dl r' q).map (n::·) else(dl (n::r') q).map (b::·)
  else if b=36\/b=96 then none
  else if b=34 then(if q=0 then dl r 34 else dl r 0)
  else if b=39/\q=0 then dl r 39
  else(dl r q).map (b::·)
termination_by l _=>l.length
decreasing_by all_goals grind
def nZ(j:aa->Option (aa×Bool))(o:aa)(m:Option aa):Option (aa×Bool):=match m with
 |some s=>j (o++s)
 |none=>some ([],false)
theorem oT(j:aa->Option (aa×Bool))(o:aa)(b:UInt8)(m:Option aa):nZ j o (m.map (b::·))=nZ j (o++[b]) m:=by
 cases m with
 |none=>rfl
 |some s=>simp[nZ]
theorem tw(j:aa->Option (aa×Bool))(o:aa):nZ j o none=some ([],false):=rfl
theorem aj2(l:aa)(hl:(l.length:Int)<=200000000)(j:aa×UInt8->Option (aa×Bool))(B:∀o q,q≠0->j (o,q)=some ([],false)):
  ∀(m:Nat)(o:aa)(q:UInt8)(k:Int),0<=k->k<=(l.length:Int)->(o.length:Int)<=k->(l.length:Int)-k<m->0<m->(q=0\/q=34\/q=39)->
  fixF (B8 l j) m (o,q,k)=nZ (λo=>j (o,0)) o (dl (l.drop k.toNat) q):=by
 intro m;induction m with
 |zero=>omega
 |succ m u=>
  intro o q k hk H I hm _ e;by_cases ad:k<(l.length:Int)
  ·have p:∀f a,(f.length:Int)<=k+1->(a=0\/a=34\/a=39)->fixF (B8 l j) m (f,a,k+1)=nZ (λo=>j (o,0)) f (dl (l.drop (k+1).toNat) a):=λf a i t=>u f a (k+1) (by omega) (by omega) i (by omega) (by omega) t
   have C:k+1<(l.length:Int)->∀f a,(f.length:Int)<=k+1->(a=0\/a=34\/a=39)->fixF (B8 l j) m (f,a,k+2)=nZ (λo=>j (o,0)) f (dl (l.drop (k+2).toNat) a):=λh0 f a i t=>u f a (k+2) (by omega) (by omega) (by omega) (by omega) (by omega) t
   have D:W (k+1)=k+1:=dV (by omega) (by omega);have E:W (k+1+1)=k+2:=by grind[dV]
   have bs:∀b:UInt8,o.length+([b]:aa).length<=536870912:=by grind
   have g:∀b:UInt8,((o++[b]).length:Int)<=k+1:=by grind
   simp only[fixF,B8,a4,a8,oz,D,E,ad,hk,cH,nJ,bs,mM _ 39 39 rfl,mM _ 92 92 rfl,mM _ 10 10 rfl,mM _ 36 36 rfl,mM _ 34 34 rfl,mM _ 96 96 rfl,mM _ 0 0 rfl];rw[vU hk ad];generalize at' l k=b at*;by_cases i:k+1=(l.length:Int)
   ·have ev:l.drop (k+1).toNat=[]:=wm (by omega);rw[ev] at p⊢;simp only[i,bz,g8,aU];rw[dl];have c:=λ(b:UInt8)(a:UInt8)(h:a=0\/a=34\/a=39)=>p (o++[b]) a (g b) h;have d:=λ(a:UInt8)(h:a=0\/a=34\/a=39)=>p o a (by omega) h;rw[i] at c d;by_cases q1:b=39
    ·subst q1;rcases e with rfl|rfl|rfl<;>simp[c,d,oT]
    by_cases mN:b=92
    ·subst mN;rcases e with rfl|rfl|rfl<;>simp[c,d,oT,tw]
    by_cases qv:b=36
    ·subst qv;rcases e with rfl|rfl|rfl<;>simp[c,d,oT,tw]
    by_cases n0:b=96
    ·subst n0;rcases e with rfl|rfl|rfl<;>simp[c,d,oT,tw]
    by_cases n1:b=34
    ·subst n1;rcases e with rfl|rfl|rfl<;>simp[c,d,oT,tw]
    rcases e with rfl|rfl|rfl<;>simp[c,d,oT,q1,mN,qv,n0,n1]
   ·have t:k+1<(l.length:Int):=by omega
    have ev:l.drop (k+1).toNat=at' l (k+1)::l.drop (k+2).toNat:=by grind[vU]
    have v:=C t;rw[ev] at p⊢;generalize at' l (k+1)=n at*;have F:¬(k+1=(l.length:Int)):=i;have G:0<=k+1/\k+1<(l.length:Int):=by omega
    simp only[F,G,bF,e7,aK,cH,nJ];rw[dl];have c:=λ(b:UInt8)(a:UInt8)(h:a=0\/a=34\/a=39)=>p (o++[b]) a (g b) h;have d:=λ(a:UInt8)(h:a=0\/a=34\/a=39)=>p o a (by omega) h;have r:=λ(b:UInt8)(a:UInt8)(h:a=0\/a=34\/a=39)=>v (o++[b]) a (g b) h;have s:=λ(a:UInt8)(h:a=0\/a=34\/a=39)=>v o a (by omega) h;by_cases q1:b=39
    ·subst q1;rcases e with rfl|rfl|rfl<;>simp[c,d,oT]
    by_cases mN:b=92
    ·subst mN;by_cases w:n=10
     ·subst w;rcases e with rfl|rfl|rfl<;>simp[c,d,r,s,oT]
     by_cases x:n=36
     ·subst x;rcases e with rfl|rfl|rfl<;>simp[c,d,r,s,oT]
     by_cases y:n=34
     ·subst y;rcases e with rfl|rfl|rfl<;>simp[c,d,r,s,oT]
     by_cases z:n=92
     ·subst z;rcases e with rfl|rfl|rfl<;>simp[c,d,r,s,oT]
     by_cases A:n=96
     ·subst A;rcases e with rfl|rfl|rfl<;>simp[c,d,r,s,oT]
     rcases e with rfl|rfl|rfl<;>simp[c,d,r,s,oT,w,x,y,z,A]
    by_cases qv:b=36
    ·subst qv;rcases e with rfl|rfl|rfl<;>simp[c,d,oT,tw]
    by_cases n0:b=96
    ·subst n0;rcases e with rfl|rfl|rfl<;>simp[c,d,oT,tw]
    by_cases n1:b=34
    ·subst n1;rcases e with rfl|rfl|rfl<;>simp[c,d,oT,tw]
    rcases e with rfl|rfl|rfl<;>simp[c,d,oT,q1,mN,qv,n0,n1]
  ·simp only[fixF,B8,a4,a8,oz,ad,cr];rw[wm (by omega)];simp only[dl];by_cases i:q=0
   ·grind[nZ]
   ·rw[B _ _ i,aP i];rfl
theorem aj3(l:aa):dl l 39=if Lib.indexByte l 39<0 then none else(dl (l.drop (Lib.indexByte l 39+1).toNat) 0).map ((l.take (Lib.indexByte l 39).toNat)++·):=by
 induction l with
 |nil=>simp[dl,Lib.indexByte]
 |cons b l a=>
  rw[dl.eq_def,Lib.indexByte];by_cases h:b=39
  ·simp_all
  ·have c:(b==39)=false:=by grind
   have g:=Jz l 39;simp only[cH,h,cr,c,eB];rw[a];generalize Lib.indexByte l 39=p at*;by_cases i:p= -1
   ·grind
   ·have d:(p== -1)=false:=by grind
    simp only[d,eB,cr];rw[aP (by omega),aP (by omega)];have e:(p+1+1).toNat=(p+1).toNat+1:=by omega
    have f:(p+1).toNat=p.toNat+1:=by omega
    rw[e,f,Gg,NK,Option.map_map];rfl
theorem aj4(l:aa)(hl:(l.length:Int)<=1048576)(j:Unit->Option (aa×Int))(E:j ()=some ([], -1)):
  ∀(m:Nat)(o:aa)(k:Int),0<=k->k<=(l.length:Int)->(o.length:Int)<=k->(l.length:Int)-k<m->0<m->
  (fixF (si l j) m (o,k)=some ([], -1)/\dl (l.drop k.toNat) 34=none)\/
  ∃(s:aa)(k':Int),fixF (si l j) m (o,k)=some (o++s,k')/\k<k'/\k'<=(l.length:Int)/\((o++s).length:Int)<=k'/\dl (l.drop k.toNat) 34=(dl (l.drop k'.toNat) 0).map (s++·):=by
 intro m;induction m with
 |zero=>omega
 |succ m w=>
  intro o k hk F G hm _;by_cases ad:k<(l.length:Int)
  ·have x:W (k+1)=k+1:=dV (by omega) (by omega);have y:W (k+1+1)=k+2:=by grind[dV]
   have bs:∀b:UInt8,o.length+([b]:aa).length<=536870912:=by grind
   have e:∀b c:UInt8,o.length+([b,c]:aa).length<=536870912:=by grind
   simp only[fixF,si,a4,a8,oz,x,y,ad,hk,cH,nJ,bs,e,mM _ 39 39 rfl,mM _ 92 92 rfl,mM _ 10 10 rfl,mM _ 36 36 rfl,mM _ 34 34 rfl,mM _ 96 96 rfl];rw[vU hk ad];have f:∀(t:aa),(t.length:Int)<=1->dl (at' l k::l.drop (k+1).toNat) 34=(dl (l.drop (k+1).toNat) 34).map (t++·)->
     (fixF (si l j) m (o++t,k+1)=some ([], -1)/\dl (at' l k::l.drop (k+1).toNat) 34=none)\/
     ∃(s:aa)(k':Int),fixF (si l j) m (o++t,k+1)=some (o++s,k')/\k<k'/\k'<=(l.length:Int)/\((o++s).length:Int)<=k'/\dl (at' l k::l.drop (k+1).toNat) 34=(dl (l.drop k'.toNat) 0).map (s++·):=by
    intro t z he;rcases w (o++t) (k+1) (by omega) (by omega) (by grind) (by omega) (by omega) with⟨r1,g⟩|⟨s,k',r1,g,h,A,i⟩
    ·grind
    ·refine .inr ⟨t++s,k',by grind,by omega,h,by grind,?_⟩;rw[he,i,Option.map_map];congr 1;grind
   have a:∀(t:aa),k+1<(l.length:Int)->(t.length:Int)<=2->dl (at' l k::l.drop (k+1).toNat) 34=(dl (l.drop (k+2).toNat) 34).map (t++·)->
     (fixF (si l j) m (o++t,k+2)=some ([], -1)/\dl (at' l k::l.drop (k+1).toNat) 34=none)\/
     ∃(s:aa)(k':Int),fixF (si l j) m (o++t,k+2)=some (o++s,k')/\k<k'/\k'<=(l.length:Int)/\((o++s).length:Int)<=k'/\dl (at' l k::l.drop (k+1).toNat) 34=(dl (l.drop k'.toNat) 0).map (s++·):=by
    intro t h0 z he;rcases w (o++t) (k+2) (by omega) (by omega) (by grind) (by omega) (by omega) with⟨r1,g⟩|⟨s,k',r1,g,h,A,i⟩
    ·grind
    ·refine .inr ⟨t++s,k',by grind,by omega,h,by grind,?_⟩;rw[he,i,Option.map_map];congr 1;grind
   by_cases B:k+1=(l.length:Int)
   ·have ev:l.drop (k+1).toNat=[]:=wm (by omega);rw[ev] at f⊢;generalize at' l k=b at*;by_cases n1:b=34
    ·subst n1;grind[dl]
    by_cases mN:b=92
    ·grind[dl]
    by_cases qv:b=36
    ·grind[dl]
    by_cases n0:b=96
    ·grind[dl]
    grind[dl]
   ·have d:k+1<(l.length:Int):=by omega
    have ev:l.drop (k+1).toNat=at' l (k+1)::l.drop (k+2).toNat:=by grind[vU]
    rw[ev] at f a⊢;generalize at' l (k+1)=n at*;generalize at' l k=b at*;have C:¬(k+1=(l.length:Int)):=B;have D:0<=k+1/\k+1<(l.length:Int):=by omega
    simp only[C,D,cr,cH,nJ];by_cases n1:b=34
    ·subst n1;refine .inr ⟨[],k+1,by simp,by omega,by omega,by grind,?_⟩;simp_all[dl]
    by_cases mN:b=92
    ·subst mN;by_cases p:n=10
     ·subst p;grind[dl]
     by_cases q:n=36
     ·subst q;simpa using a [36] d (by simp) (by simp[dl])
     by_cases r:n=34
     ·subst r;simpa using a [34] d (by simp) (by simp[dl])
     by_cases u:n=92
     ·subst u;simpa using a [92] d (by simp) (by simp[dl])
     by_cases v:n=96
     ·subst v;simpa using a [96] d (by simp) (by simp[dl])
     have:=a [92,n] d (by simp) (by rw[dl];simp[p,q,r,u,v];rw[dl.eq_def];simp[p,q,r,u,v];rfl);grind
    by_cases qv:b=36
    ·grind[dl]
    by_cases n0:b=96
    ·grind[dl]
    have:=f [b] (by simp) (by simp_all[dl]);grind
  ·simp only[fixF,si,a4,a8,oz,ad,cr];grind[List.drop_eq_nil_of_le,dl]
theorem aj6(l:aa)(hl:(l.length:Int)<=1048576)(a:Int)(h0:0<=a)(ad:a<=(l.length:Int)):
  vz l a=some (if Lib.indexByte (l.drop a.toNat) 39<0 then-1 else a+Lib.indexByte (l.drop a.toNat) 39+1):=by
 have b:=RO (l.drop a.toNat) 39;have c:=Jz (l.drop a.toNat) 39;simp only[Gh] at b;unfold vz wM D1;have e:max (0:Int) (min a (l.length:Int))=a:=by omega
 simp only[au,a4,e];rw[bh ⟨h0,ad,u5 _⟩,L6 h0];generalize Lib.indexByte (l.drop a.toNat) 39=p at*;simp only[oz];grind[dV]
theorem Yf(j:aa->Option (aa×Bool))(o s:aa)(m:Option aa):nZ j o (m.map (s++·))=nZ j (o++s) m:=by
 cases m with
 |none=>rfl
 |some t=>simp[nZ]
theorem aj7(l:aa)(hl:(l.length:Int)<=1048576)(j:aa->Option (aa×Bool)):
  ∀(m:Nat)(o:aa)(k:Int),0<=k->k<=(l.length:Int)->(o.length:Int)<=k->(l.length:Int)-k<m->0<m->
  fixF (BX l j) m (o,k)=nZ j o (dl (l.drop k.toNat) 0):=by
 intro m;induction m with
 |zero=>omega
 |succ m e=>
  intro o k hk A B hm _;by_cases ad:k<(l.length:Int)
  ·have g:W (k+1)=k+1:=dV (by omega) (by omega);have h:W (k+2)=k+2:=dV (by omega) (by omega)
   have bs:∀b:UInt8,o.length+([b]:aa).length<=536870912:=by grind
   have i:=aj6 l hl (k+1) (by omega) (by omega);simp only[fixF,BX,a4,a8,oz,g,h,ad,hk,cH,nJ,bs,mM _ 39 39 rfl,mM _ 92 92 rfl,mM _ 10 10 rfl,mM _ 36 36 rfl,mM _ 34 34 rfl,mM _ 96 96 rfl];rw[aO i,vU hk ad]
   have f:∀a,(a.length:Int)<=k+1->fixF (BX l j) m (a,k+1)=nZ j a (dl (l.drop (k+1).toNat) 0):=λa c=>e a (k+1) (by omega) (by omega) c (by omega) (by omega)
   have d:∀b:UInt8,((o++[b]).length:Int)<=k+1:=by grind
   by_cases q1:at' l k=39
   ·rw[q1];simp only[show¬((39:UInt8)=92) by decide,cr,cH];have aG:dl (39::l.drop (k+1).toNat) 0=dl (l.drop (k+1).toNat) 39:=by grind[dl.eq_def]
    rw[aG,aj3];have q:=RO (l.drop (k+1).toNat) 39;have C:=Jz (l.drop (k+1).toNat) 39;simp only[Gh] at q;generalize aB:Lib.indexByte (l.drop (k+1).toNat) 39=p at*;have r:0<=p->k+1+p<(l.length:Int):=by
     intro h0
     have:∀(l:aa),0<=Lib.indexByte l 39->Lib.indexByte l 39<l.length:=by
      intro l;induction l with
      |nil=>decide
      |cons b l e=>unfold Lib.indexByte;grind
     grind
    by_cases aw:p<0
    ·simp_all[cH,tw]
    ·simp only[aw,cr];have:=r (by omega);rw[aP (by omega),dV (x:=k+1+p+1-1) (by omega) (by omega)];have t:k+1+p+1-1=k+1+p:=by omega
     rw[t,bh ⟨by omega,by omega,by omega⟩];have u:ch l (k+1) (k+1+p)=(l.drop (k+1).toNat).take p.toNat:=by grind[ch]
     have D:((ch l (k+1) (k+1+p)).length:Int)<=p:=by grind
     rw[bh (by omega),u,Yf,List.drop_drop];grind
   ·by_cases n1:at' l k=34
    ·rw[n1];simp only[show¬((34:UInt8)=92) by decide,show¬((34:UInt8)=39) by decide,cr,cH];have aG:dl (34::l.drop (k+1).toNat) 0=dl (l.drop (k+1).toNat) 34:=by grind[dl.eq_def]
     rw[aG];have v:BW l (k+1) o=fixF (si l λ_=>some ([], -1)) bB (o,k+1):=rfl;rcases aj4 l hl (λ_=>some ([], -1)) rfl bB o (k+1) (by omega) (by omega) (by omega) (by grind[gm]) (by simp[gm]) with⟨r1,w⟩|⟨s,k',r1,w,E,F,y⟩
     ·grind[aO,tw]
     ·rw[aO (v.trans r1),y,Yf];grind
    ·simp only[q1,n1,cr];by_cases c:k+1=(l.length:Int)
     ·have ev:l.drop (k+1).toNat=[]:=wm (by omega);rw[ev] at f⊢;generalize at' l k=b at*;by_cases mN:b=92
      ·grind[dl,tw]
      by_cases qv:b=36
      ·grind[dl,tw]
      by_cases n0:b=96
      ·grind[dl,tw]
      simp only[mN,qv,n0,cr,bF,aU,eB];rw[f _ (d b),show [b]=b::([]:aa) from rfl];grind[dl.eq_def,oT]
     ·have G:k+1<(l.length:Int):=by omega
      have ev:l.drop (k+1).toNat=at' l (k+1)::l.drop (k+2).toNat:=by grind[vU]
      have H:∀a,(a.length:Int)<=k+2->fixF (BX l j) m (a,k+2)=nZ j a (dl (l.drop (k+2).toNat) 0):=λa c=>e a (k+2) (by omega) (by omega) c (by omega) (by omega)
      have z:0<=k+1/\k+1<(l.length:Int):=by omega
      rw[ev] at f⊢;generalize at' l (k+1)=n at*;generalize at' l k=b at*;simp only[c,z,cr,cH,nJ];grind[dl,dl.eq_def,oT,tw]
  ·simp only[fixF,BX,a4,a8,oz,ad,cr];grind[List.drop_eq_nil_of_le,dl,nZ]
theorem Yg:∀(n:Nat)(l:aa),l.length<=n->∀(q:UInt8)(s:aa),dl l q=some s->s.length<=l.length:=by
 intro n;induction n with
 |zero=>simp[n7,dl,eN]
 |succ n g=>
  intro l aw q s h
  match l with
  |[]=>grind
  |b::r=>
   simp only[mv] at aw⊢
   have a:∀(d:UInt8),dl r d=some s->s.length<=r.length+1:=λd f=>by grind
   have e:∀(d c:UInt8),(dl r d).map (c::·)=some s->s.length<=r.length+1:=by
    intro d c f;cases aG:dl r d with
    |none=>grind
    |some t=>grind
   rw[dl.eq_def] at h;simp only at h;split at h
   ·grind
   ·split at h
    ·match r,a,e,h with
     |[],_,_,h=>cases h
     |x::r',a,e,h=>
      simp only at h;simp only[mv] at aw a e⊢;split at h
      ·grind
      ·split at h
       ·cases aG:dl r' q with
        |none=>grind
        |some t=>grind
       grind
    grind
theorem aj8(l:aa)(hl:(l.length:Int)<=200000000):∀(m:Nat)(k:Int),0<=k->k<=(l.length:Int)->(l.length:Int)-k<m->0<m->
  fixF (Lm l λ_=>some (l,true)) m k=if 0<=Lib.indexByte (l.drop k.toNat) 10 then some ([],false) else some (l,true):=by
 intro m;induction m with
 |zero=>omega
 |succ m a=>
  intro k hk b hm _;simp only[fixF,Lm,a4,oz];by_cases ad:k<(l.length:Int)
  ·simp only[ad,hk,cH,nJ,mM _ 10 10 rfl];rw[dV (by omega) (by omega),vU hk ad,Lib.indexByte];grind
  ·simp only[ad,cr];simp_all[wm,Lib.indexByte]
theorem aj9(l:aa)(hl:(l.length:Int)<=200000000):ED l=nZ (λs=>if 0<=Lib.indexByte s 10 then some ([],false) else some (s,true)) [] (dl l 0):=by
 unfold ED;simp only[a8];rw[aj2 l hl _ (by intro o q a;simp only[mM _ 0 0 rfl,a,bF,e7,aK]) bB [] 0 0 (by omega) (by omega) (by simp) (by grind[gm]) (by simp[gm]) (.inl rfl)];simp only[Jy,xI];cases aG:dl l 0 with
 |none=>rfl
 |some s=>
  have b:=Yg _ l (cX _) 0 s aG;simp only[nZ,sV];have:(!decide (((0:UInt8).toNat:Int)=0))=false:=by decide
  simp only[this,aU];grind[aj8,bB,gm]
theorem aj_(l:aa)(hl:(l.length:Int)<=1048576):wW l=nZ (λs=>if 0<=Lib.indexByte s 10 then some ([],false) else some (s,true)) [] (dl l 0):=by
 unfold wW;simp only[a8];rw[aj7 l hl _ bB [] 0 (by omega) (by omega) (by simp) (by grind[gm]) (by simp[gm])];simp only[Jy,xI];cases aG:dl l 0 with
 |none=>rfl
 |some s=>simp[nZ,sV,Qa,au,oz]
def ax(S r:aa):Int:=(S.length:Int)-r.length
theorem eL{r S:aa}(h:r<:+S):r.length<=S.length:=h.length_le
theorem dZ{b:UInt8}{t S:aa}(h:b::t<:+S):t<:+S:=(ee b t).trans h
theorem jC{b:UInt8}{t S:aa}(h:b::t<:+S):at' S (ax S (b::t))=b:=by obtain⟨u,rfl⟩:=h;simp[ax,at']
theorem iP{b:UInt8}{t S:aa}(di:S.length<=1000000)(h:b::t<:+S):W (ax S (b::t)+1)=ax S t:=by grind[eL,List.length_cons,dV,ax]
theorem ku{w t S:aa}(di:S.length<=1000000)(h:w++t<:+S):W (ax S (w++t)+w.length)=ax S t:=by grind[eL,List.length_append,dV,ax]
theorem h4{b:UInt8}{t S:aa}(h:b::t<:+S):0<=ax S (b::t)/\ax S (b::t)<S.length:=by grind[eL,List.length_cons,ax]
theorem ng{b:UInt8}{t S:aa}(h:b::t<:+S):ax S (b::t)<S.length:=(h4 h).2
theorem iu(S:aa):ax S []=S.length:=by rfl
theorem IA(S:aa):ax S S=0:=by simp[ax]
theorem oV{r S:aa}:ax S r<=S.length:=by grind[ax]
theorem yN{r S:aa}:ax S r=S.length↔r=[]:=by
 unfold ax;constructor
 ·grind[List.length_eq_zero_iff]
 grind
theorem q2{b c:UInt8}:((b.toNat:Int)=(c.toNat:Int))↔b=c:=by
 constructor
 ·grind[UInt8.toNat_inj]
 grind
theorem IB(b:UInt8):((b.toNat:Int)=9)↔b=9:=q2 (c:=9)
theorem pK(b:UInt8):((b.toNat:Int)=10)↔b=10:=q2 (c:=10)
theorem RT(b:UInt8):((b.toNat:Int)=32)↔b=32:=q2 (c:=32)
theorem n1(b:UInt8):((b.toNat:Int)=34)↔b=34:=q2 (c:=34)
theorem Yh(b:UInt8):((b.toNat:Int)=35)↔b=35:=q2 (c:=35)
theorem qv(b:UInt8):((b.toNat:Int)=36)↔b=36:=q2 (c:=36)
theorem q1(b:UInt8):((b.toNat:Int)=39)↔b=39:=q2 (c:=39)
theorem CG(b:UInt8):((b.toNat:Int)=40)↔b=40:=q2 (c:=40)
theorem Yi(b:UInt8):((b.toNat:Int)=41)↔b=41:=q2 (c:=41)
theorem mN(b:UInt8):((b.toNat:Int)=92)↔b=92:=q2 (c:=92)
theorem n0(b:UInt8):((b.toNat:Int)=96)↔b=96:=q2 (c:=96)
theorem CH(b:UInt8):((b.toNat:Int)=123)↔b=123:=q2 (c:=123)
theorem bZ{α:Type}{c:Prop}[Decidable c]{k:Option α}(h:c):a4 c k=k:=bh h
structure cK where
 S:aa
 ne:Int
 op:bl
 iH:Int
def cK.st(e:cK)(r:aa)(pd:ao):an:=(e.S,ax e.S r,pd,e.ne,e.op,e.iH)
structure dS(e:cK)(r:aa)(pd:ao):Prop where
 b0:e.S.length<=1000000
 sfx:r<:+e.S
 jO:pd.length+r.length<=e.S.length
 ops:e.op.length+r.length<=e.S.length+1
theorem dS.mono{e:cK}{r r':aa}{pd:ao}(h:dS e r pd)(ad:r'<:+r):dS e r' pd:=
 ⟨h.b0,ad.trans h.sfx,by have:=h.jO;grind,by have:=h.ops;grind⟩
def aX{α β:Type}(e:cK)(r0:aa)(m:dD α)(cv:α->aa->ao->β)(y:Option (bp an β)):Prop:=match m with
 | .ok a r pd=>r<:+r0/\dS e r pd/\y=some (.inr (cv a r pd))
 | .more op _ _=>∃st:an,y=some (.inl (1,e.S.length,st))/\st.2.2.2.2.1=e.op++op
 | .bad r=>r<:+e.S/\∃st:an,y=some (.inl (2,ax e.S r,st))
 | .deep _=>True
theorem aX.mono{α β:Type}{e:cK}{r0 r1:aa}{m:dD α}{cv:α->aa->ao->β}{y:Option (bp an β)}(h:aX e r0 m cv y)(ad:r0<:+r1):aX e r1 m cv y:=by
 cases m with
 |ok a r pd=>exact⟨h.1.trans ad,h.2⟩
 |_=>exact h
structure c3{α β:Type}(C:dD α->dD β):Prop where
 more:∀op nd ds,C (.more op nd ds)= .more op nd ds
 bad:∀r,C (.bad r)= .bad r
 deep:∀r,C (.deep r)= .deep r
theorem c3.id{α:Type}:c3 (λx:dD α=>x):=⟨λ_ _ _=>rfl,λ_=>rfl,λ_=>rfl⟩
theorem c3.k{σ α:Type}{f:σ->ak (σ⊕α)}{r:aa}:c3 (cP f r):=⟨λ_ _ _=>rfl,λ_=>rfl,λ_=>rfl⟩
theorem aX.iC{α c d β g:Type}{C:dD c->dD d}(b:c3 C){e:cK}{r0 r:aa}{pd:ao}{m:ak α}{k:α->ak c}{cv:α->aa->ao->β}{cv':d->aa->ao->g}{y:Option (bp an β)}{k':β->Option (bp an g)}{f:an->an}
  (h:aX e r0 (m r pd) cv y) (hf:∀st,(f st).2.2.2.2.1=st.2.2.2.2.1) (hk:∀a r1 aD,m r pd= .ok a r1 aD->r1<:+r0->dS e r1 aD->aX e r0 (C (k a r1 aD)) cv' (k' (cv a r1 aD))):
  aX e r0 (C (Go.Eng.ae m k r pd)) cv' (a_ y f k'):=by
 unfold Go.Eng.ae;cases hm:m r pd with
 |ok a r1 aD=>rw[hm] at h;obtain⟨ad,i,rfl⟩:=h;exact hk a r1 aD hm ad i
 |more op nd ds=>rw[hm] at h;obtain⟨st,rfl,i⟩:=h;rw[b.more];exact⟨f st,rfl,by grind⟩
 |bad q=>rw[hm] at h;obtain⟨ad,st,rfl⟩:=h;rw[b.bad];exact⟨ad,f st,rfl⟩
 |deep q=>rw[b.deep];trivial
theorem aX.Yj{α a β:Type}{C:dD α->dD a}(b:c3 C){e:cK}{r0 r:aa}{pd:ao}{cv:a->aa->ao->β}{x:aa}{st:an}{f:an->an}{k:Empty->Option (bp an β)}(ad:st.1=e.S)(c:(f st).2.2.2.2.1=e.op):aX e r0 (C ((b3 x:ak α) r pd)) cv (a_ (rm st) f k):=by unfold b3;rw[b.more];exact⟨f st,by grind[rm,a_],by grind⟩
theorem aX.inl{σ α β:Type}{e:cK}{f:σ->ak (σ⊕α)}{r0 r r':aa}{a:ao}{s':σ}{cv:α->aa->ao->β}{y:Option (bp an β)}(hl:r'.length<r.length)(h:aX e r0 (b7 f s' r' a) cv y):aX e r0 (cP f r (aY (.inl s') r' a)) cv y:=by simp_all[aY,cP,bh]
theorem aX.inr{σ α β:Type}{e:cK}{f:σ->ak (σ⊕α)}{r0 r r':aa}{b:ao}{a:α}{cv:α->aa->ao->β}{y:Option (bp an β)}(ad:r'<:+r0)(c:dS e r' b)(h:y=some (.inr (cv a r' b))):aX e r0 (cP f r (aY (.inr a) r' b)) cv y:=⟨ad,c,h⟩
theorem aX.rep{σ α τ β:Type}{e:cK}{f:σ->ak (σ⊕α)}{cv:α->aa->ao->β}{en:σ->aa->ao->τ}{body:(τ->Option (bp an β))->τ->Option (bp an β)}
  (b:∀(k:τ->Option (bp an β))(s:σ)(r:aa)(pd:ao),dS e r pd->(∀s' r' a,r'<:+r->dS e r' a->r'.length<r.length->aX e r (b7 f s' r' a) cv (k (en s' r' a)))->aX e r (cP f r (f s r pd)) cv (body k (en s r pd))):
  ∀(n:Nat)(s:σ)(r:aa)(pd:ao),r.length<n->dS e r pd->aX e r (b7 f s r pd) cv (fixF body n (en s r pd)):=by
 intro n;induction n with
 |zero=>omega
 |succ n c=>grind[cq,aX,fixF,aX.mono]
theorem lq{n:Nat}(h:n<=1000000):n<bB:=by grind[gm]
theorem e4{σ α:Type}{f:(σ->Option α)->σ->Option α}{n:Nat}{s:σ}:fixF f (n+1) s=f (fixF f n) s:=rfl
theorem aka{e:cK}(x0:an)(c:x0.1=e.S){j:Int->Option (bp an an)}(di:e.S.length<=1000000):∀(n:Nat)(r:aa),r.length<n->r<:+e.S->fixF (GZ x0 j) n (ax e.S r)=j (ax e.S (lg r)):=by
 intro n;induction n with
 |zero=>omega
 |succ n d=>
  intro r aw a;rw[e4];generalize fixF (GZ x0 j) n=k at d;unfold GZ;rw[c];cases r with
  |nil=>simp[iu,a4,lg]
  |cons b t=>
   rw[bZ (λ_=>h4 a),jC a,iP di a];simp only[ng a,bz,aK,pK];unfold lg;by_cases f:b=10
   ·grind
   ·simp only[f,bF,e7,aK,cr];grind[List.length_cons,dZ]
def IC(e:cK)(r:aa)(pd:ao)(y:Option (bp an an)):Prop:=match bq r with
 |some r'=>y=some (.inr (e.st r' pd))
 |none=>∃st:an,y=some (.inl (1,e.S.length,st))/\st.2.2.2.2.1=e.op
theorem RU{c:UInt8}{u:aa}(aF:c≠10):bq (92::c::u)=some (92::c::u):=by rw[nC,aP (by decide),aP (by decide),bh rfl];grind
theorem RV{u:aa}:bq (92::10::u)=if u=[] then none else bq u:=by rw[nC,aP (by decide),aP (by decide),bh rfl];rfl
theorem Yk:bq [92]=some [92]:=by rw[nC,aP (by decide),aP (by decide),bh rfl]
theorem RW{t:aa}:bq (35::t)=bq (lg t):=by rw[nC,aP (by decide),bh rfl]
theorem RX{b:UInt8}{t:aa}(a:¬gb b=true)(c:b≠35)(d:b≠92):bq (b::t)=some (b::t):=by simp_all[nC,aP]
theorem Fg{b:UInt8}{t:aa}(a:gb b=true):bq (b::t)=bq t:=by rw[nC,bh a]
theorem akb{e:cK}{pd:ao}(di:e.S.length<=1000000)(x0:an)(ad:x0.1=e.S)(i:x0.2.2.1=pd)(j:x0.2.2.2.1=e.ne)(l:x0.2.2.2.2.1=e.op)(m:x0.2.2.2.2.2=e.iH):∀(n:Nat)(r:aa),r.length<n->r<:+e.S->
  IC e r pd (fixF (G0 x0 λo=>some (.inr (x0.1,o,x0.2.2.1,x0.2.2.2.1,x0.2.2.2.2.1,x0.2.2.2.2.2))) n (ax e.S r)):=by
 intro n;induction n with
 |zero=>omega
 |succ n d=>
  intro r aw a;rw[e4];generalize fixF (G0 x0 _) n=k at d;unfold G0 a8;simp only[ad,i,j,l,m];cases r with
  |nil=>simp only[iu,Int.lt_irrefl,bF,aU];simp[IC,lX,cK.st,iu]
  |cons b t=>
   have g:t.length<n:=by grind
   rw[bZ (h4 a),jC a,iP di a];simp only[ng a,bz,aK,RT,IB,mN,Yh];unfold IC;by_cases f:gb b=true
   ·rw[Fg f];have:(bif decide (b=32) then true else decide (b=9))=true:=by simp[gb] at f;rcases f with rfl|rfl<;>rfl
    rw[this];exact d t g (dZ a)
   ·have p:(bif decide (b=32) then true else decide (b=9))=false:=by grind[gb]
    rw[p];simp only[aU];by_cases q:b=92
    ·subst q;cases t with
     |nil=>simp[iu,a4,cK.st,Yk]
     |cons c u=>
      rw[bZ (λ_=>h4 (dZ a)),jC (dZ a)];simp only[bz,aK,ng (dZ a),pK];by_cases aF:c=10
      ·subst aF;have s:W (ax e.S (92::10::u)+2)=ax e.S u:=ku (w:=[92,10]) di a;rw[s];simp only[bz,aK,RV];by_cases hu:u=[]
       ·subst hu;rw[bh rfl];simp only[iu,bz,aK];exact⟨_,rfl,rfl⟩
       ·rw[aP hu];have:decide (ax e.S u=(e.S.length:Int))=false:=by grind[yN]
        rw[this];simp only[aU];exact d u (by grind) (dZ (dZ a))
      simp_all[bF,aU,RU,cK.st]
    ·have v:decide (b=92)=false:=by grind
     rw[v];simp only[aU];rw[bZ (λh=>by grind)];by_cases x:b=35
     ·subst x;rw[RW];simp only[decide_true,cond_true];rw[aka (e:=e) x0 ad di _ _ (lq (Nat.le_trans (eL a) di)) a];have:lg (35::t)=lg t:=by rfl
      rw[this];exact d _ (Nat.lt_of_le_of_lt (Aq t) g) ((EZ t).trans (dZ a))
     grind[RX,cK.st]
theorem akc{e:cK}{r:aa}{pd:ao}(h:dS e r pd):IC e r pd (Ky (e.st r pd)):=
 akb h.b0 (e.st r pd) rfl rfl rfl rfl rfl _ r (lq (lL (eL h.sfx) h.b0)) h.sfx
theorem RZ{r S:aa}(h:r<:+S):S.drop (ax S r).toNat=r:=by obtain⟨u,rfl⟩:=h;simp[ax,o5]
theorem ID{r t S:aa}(h:r<:+S)(a:t<:+r):ch S (ax S r) (ax S t)=r.take (r.length-t.length):=by grind[ch,RZ,eL,ax]
theorem R0{S r:aa}(di:S.length<=1000000)(b:r<:+S):zM S (ax S r)=some (bt r):=by
 have ad:¬ax S r<0:=by grind[eL,ax]
 unfold zM;by_cases c:(S.length:Int)<=ax S r
 ·have d:r=[]:=yN.1 (show ax S r=S.length by have:= @oV r S;omega);simp_all[bt,lh,xJ,List.isPrefixOf]
 ·simp only[ad,c,bF,aU];have e0:rI 32 [60,60,45,32,38,38,32,124,124,32,59,59,32,60,60,32,60,38,32,60,62,32,62,62,32,62,38,32,62,124,32,38,32,124,32,59,32,60,32,62,32,40,32,41]=lh:=by decide
  have a:=X_ [60,60,45,32,38,38,32,124,124,32,59,59,32,60,60,32,60,38,32,60,62,32,62,62,32,62,38,32,62,124,32,38,32,124,32,59,32,60,32,62,32,40,32,41] 32 (by decide);rw[e0] at a;rw[aO a];unfold a8;show fixF (G7 S (ax S r) lh λ_=>some []) bB 0=_;rw[(Ya S (ax S r) (by omega) (by omega) (by omega) lh (by decide) (by decide) (λ_=>some []) bB 0 (by omega) (by decide) (by rw[gm];decide) (by simp[gm])).2];rw[RZ b];grind[bt,Lib.hasPrefix,List.isPrefixOf,List.find?,lh]
theorem gf{α β:Type}{g:Prop}[Decidable g]{v d:α}{k:α->Option β}:cY g (some v) d k=k (if g then v else d):=by grind[cY,au]
theorem R1{S r:aa}(di:S.length<=1000000)(a:r<:+S):wL S (ax S r)=some (cW r):=by
 unfold wL;rw[R0 di a,gf];cases r with
 |nil=>simp[iu,a4,cW]
 |cons b t=>
  have hl:¬(S.length:Int)<=ax S (b::t):=by simp_all[ng]
  rw[bZ (λ_=>h4 a),bZ (λ_=>h4 a),bZ (λ_=>h4 a),jC a];simp only[hl,bF,aU,RT,IB,pK];grind[cW,gb,bt]
theorem Yl{S t:aa}{b:UInt8}(di:S.length<=1000000)(a:b::t<:+S):BA S (ax S (b::t))=some (fQ (b::t)):=by
 unfold BA;rw[bZ (h4 a),jC a,iP di a];simp only[qv,CG,CH];cases t with
 |nil=>simp[iu,a4,fQ]
 |cons c u=>
  rw[bZ (λ_=>h4 (dZ a)),bZ (λ_ _=>h4 (dZ a)),jC (dZ a)];simp only[ng (dZ a),bz];by_cases ad:b=36
  ·subst ad;by_cases d:c=40
   ·grind[fQ]
   by_cases e:c=123
   ·grind[fQ]
   simp_all[fQ]
  simp_all[fQ]
theorem akd:∀(r w:aa),c5 r=(w,false)->w=[]
 |[],w,h=>by grind[c5]
 |b::t,w,h=>by grind[c5]
def Fh(S:aa)(j:Int->Option (aa×Bool))(r:aa):aa×Bool->Option (aa×Bool)
 |(w,true)=>j (ax S (r.drop w.length))
 |(_,false)=>some ([],false)
theorem ake{S:aa}(di:S.length<=1000000)(j:Int->Option (aa×Bool)):∀(n:Nat)(r:aa),r.length<n->r<:+S->fixF (D0 S j) n (ax S r)=Fh S j r (c5 r):=by
 intro n;induction n with
 |zero=>omega
 |succ n d=>
  intro r aw a;rw[e4];generalize fixF (D0 S j) n=k at d;unfold D0;rw[R1 di a,aO rfl];cases r with
  |nil=>rfl
  |cons b t=>
   unfold c5;by_cases e:cW (b::t)=true
   ·rw[e,bh rfl];rfl
   ·have f:cW (b::t)=false:=by grind
    rw[f,aP (by simp)];simp only[e7,aK];rw[bZ (h4 a),Yl di a,gf,jC a,iP di a];simp only[mN,q1,n1,n0];by_cases g:b=92
    ·grind[Fh]
    by_cases h:b=39
    ·grind[Fh]
    by_cases i:b=34
    ·grind[Fh]
    by_cases l:b=96
    ·grind[Fh]
    by_cases m:fQ (b::t)=true
    ·grind[Fh]
    ·simp only[g,h,i,l,bF,aU,cH,m,cr,or_self];rw[d t (by grind) (dZ a)];cases aB:c5 t with
     |mk w c=>cases c<;>rfl
theorem akf{S r:aa}(di:S.length<=1000000)(a:r<:+S):G_ S (ax S r)=some (c5 r):=by
 unfold G_ a8;show fixF (D0 S _) bB (ax S r)=_;rw[ake di _ _ r (lq (Nat.le_trans (eL a) di)) a];cases aB:c5 r with
 |mk w c=>
  cases c with
  |false=>rw[akd _ _ aB];rfl
  |true=>have b:=(E4 _ _ aB).1;obtain⟨q,rfl⟩:=b;have d:q<:+S:=(List.suffix_append w q).trans a;show a4 _ _=_;rw[List.drop_left,bZ (by grind[eL,List.length_append,ax]),ID a (gP w q)];simp
def jj:Tok->Int×aa×Bool
 | .eof=>(0,[],false)
 | .line=>(1,[],false)
 | .op o=>(2,o,false)
 | .word w p=>(3,w,p)
theorem Ym{e:cK}{x r:aa}{pd:ao}(h:dS e r pd):aX e r (bN x r pd) (λt r pd=>(jj t,e.st r pd)) (l2 (e.st r pd)):=by
 have c:=akc h;unfold IC at c;unfold l2;cases hk:bq r with
 |none=>rw[hk] at c;obtain⟨st,ad,i⟩:=c;rw[iB hk,ad];exact⟨st,rfl,by grind⟩
 |some r'=>
  rw[hk] at c;rw[cb hk,c];have d:=dU hk;have a:=h.mono d;refine⟨d,a,?_⟩;unfold a_;simp only[cK.st];cases r' with
  |nil=>simp[iu,ar,jj]
  |cons b t=>
   have bc:¬ax e.S (b::t)=(e.S.length:Int):=by simp[yN]
   simp only[bc,bF,aU];refine(bZ (h4 a.sfx)).trans ?_;simp only[jC a.sfx,pK];unfold ar;by_cases f:b=10
   ·grind[jj]
   ·simp only[f,bF,aU,cr];rw[R0 a.b0 a.sfx,aO rfl];by_cases g:bt (b::t)=[]
    ·simp only[g,bz,g8,aU,ne_eq,not_true,cr];rw[akf a.b0 a.sfx,aO rfl];rfl
    grind[jj]
theorem e5{σ τ α β:Type}{m:Option (bp σ α)}{f:σ->τ}{k:α->Option (bp τ β)}{y:α}(h:m=some (.inr y)):a_ m f k=k y:=by rw[h];rfl
theorem hL{σ τ α β:Type}{m:Option (bp σ α)}{f:σ->τ}{k:α->Option (bp τ β)}{c p:Int}{s:σ}(h:m=some (.inl (c,p,s))):a_ m f k=some (.inl (c,p,f s)):=by rw[h];rfl
theorem yO{σ τ α β:Type}{g:Prop}[Decidable g]{m:Option (bp σ α)}{f:σ->τ}{d:α}{k:α->Option (bp τ β)}(h:g):nj g m f d k=a_ m f k:=bh h
theorem Yn{σ τ α β:Type}{g:Prop}[Decidable g]{m:Option (bp σ α)}{f:σ->τ}{d:α}{k:α->Option (bp τ β)}(h:¬g):nj g m f d k=k d:=aP h
def xf{β:Type}(e:cK)(y:Option (bp an β)):Prop:=∃st:an,y=some (.inl (1,e.S.length,st))/\st.2.2.2.2.1=e.op
theorem xf.bind{β a:Type}{e:cK}{y:Option (bp an β)}{f:an->an}{k:β->Option (bp an a)}(h:xf e y)(hf:∀st,(f st).2.2.2.2.1=st.2.2.2.2.1\/(f st).2.2.2.2.1=e.op):xf e (a_ y f k):=by obtain⟨st,ad,b⟩:=h;refine⟨f st,hL ad,?_⟩;grind
theorem xf.more{β:Type}{e:cK}{st:an}{f:an->an}{k:Empty->Option (bp an β)}(ad:st.1=e.S)(a:(f st).2.2.2.2.1=e.op):xf e (a_ (rm st) f k):=
 ⟨f st,by grind[rm,a_],a⟩
theorem xf.rJ{α β:Type}{e:cK}{r0:aa}{cv:α->aa->ao->β}{nd:aa}{ds:ao}{y:Option (bp an β)}(h:xf e y):aX e r0 (.more [] nd ds) cv y:=by obtain⟨st,ad,a⟩:=h;exact⟨st,ad,by grind⟩
structure ot{β:Type}(e:cK)(f:Tok->β)(F:an->Option (bp an (β×an))):Prop where
 some:∀{r r' pd},dS e r pd->bq r=some r'->F (e.st r pd)= .some (.inr (f (ar r'),e.st r' pd))
 none:∀{r pd},dS e r pd->bq r=none->xf e (F (e.st r pd))
theorem kW(e:cK):ot e jj l2:=by
 constructor
 ·intro r r' pd h a;have:=Ym (x:=[]) h;rw[cb a] at this;exact this.2.2
 ·intro r pd h a;have:=Ym (x:=[]) h;rw[iB a] at this;obtain⟨st,ad,b⟩:=this;exact⟨st,ad,by grind⟩
theorem q3(e:cK)(w:aa):ot e (λt=>cB t w) (λx=>pk x w):=by
 constructor
 ·intro r r' pd h a;refine(e5 ((kW e).some h a)).trans ?_;cases ar r' with
  |word t p=>cases p<;>by_cases b:t=w<;>simp[jj,cB,b]<;>rfl
  |_=>rfl
 ·intro r pd h a;exact((kW e).none h a).bind λ_=> .inl rfl
theorem rK(e:cK)(w:aa):ot e (λt=>t== .op w) (λx=>nr x w):=by
 constructor
 ·intro r r' pd h a;refine(e5 ((kW e).some h a)).trans ?_;cases ar r' with
  |op t=>by_cases b:t=w<;>simp[jj,b]<;>rfl
  |_=>rfl
 ·intro r pd h a;exact((kW e).none h a).bind λ_=> .inl rfl
def CI:Ctx->Int
 | .text=>0| .paren=>1| .qh=>2| .rG=>3| .qi=>4| .kh=>5| .pE=>6| .done=>7| .item=>8
theorem ot.or{e:cK}{f g:Tok->Bool}{F G:an->Option (bp an (Bool×an))}(hf:ot e f F)(bs:ot e g G):
  ot e (λt=>f t||g t) (λx0=>a_ (F x0) (λx=>x) λy=>nj (y.1=false) (G (y.2.1,y.2.2.1,x0.2.2.1,y.2.2.2.2.1,x0.2.2.2.2.1,y.2.2.2.2.2.2)) (λx=>x) (false,(y.2.1,y.2.2.1,x0.2.2.1,y.2.2.2.2.1,x0.2.2.2.2.1,y.2.2.2.2.2.2)) λz=>
   Option.some (.inr ((bif y.1 then true else z.1),(z.2.1,z.2.2.1,x0.2.2.1,z.2.2.2.2.1,x0.2.2.2.2.1,z.2.2.2.2.2.2)))):=by
 constructor
 ·intro r r' pd h a;refine(e5 (hf.some h a)).trans ?_;cases b:f (ar r') with
  |true=>rfl
  |false=>refine(yO rfl).trans ((e5 (bs.some (h.mono (dU a)) (kG _ _ _ (cX _) a))).trans ?_);rfl
 ·intro r pd h a;exact(hf.none h a).bind λ_=> .inl rfl
theorem ot.ret{β:Type}{e:cK}{f:Tok->β}{F:an->Option (bp an (β×an))}(hf:ot e f F):ot e f (λx0=>a_ (F x0) (λx=>x) λy=>Option.some (.inr (y.1,(y.2.1,y.2.2.1,x0.2.2.1,y.2.2.2.2.1,x0.2.2.2.2.1,y.2.2.2.2.2.2)))):=by
 constructor
 ·intro r r' pd h a;exact(e5 (hf.some h a)).trans rfl
 ·intro r pd h a;exact(hf.none h a).bind λ_=> .inl rfl
theorem akg(e:cK):ot e (λt=>t== .eof) (λx0=>a_ (l2 x0) (λx=>x) λy=>some (.inr (decide (y.1.1=0),(y.2.1,y.2.2.1,x0.2.2.1,y.2.2.2.2.1,x0.2.2.2.2.1,y.2.2.2.2.2.2)))):=by
 constructor
 ·intro r r' pd h a;refine(e5 ((kW e).some h a)).trans ?_;cases ar r'<;>simp[jj]<;>rfl
 ·intro r pd h a;exact((kW e).none h a).bind λ_=> .inl rfl
theorem ot.akh{e:cK}{f g i:Tok->Bool}{F G I:an->Option (bp an (Bool×an))}(hf:ot e f F)(bs:ot e g G)(bf:ot e i I):
  ot e (λt=>f t||g t||i t) (λx0=>a_ (F x0) (λx=>x) λy=>nj (y.1=false) (G (y.2.1,y.2.2.1,x0.2.2.1,y.2.2.2.2.1,x0.2.2.2.2.1,y.2.2.2.2.2.2)) (λx=>x) (false,(y.2.1,y.2.2.1,x0.2.2.1,y.2.2.2.2.1,x0.2.2.2.2.1,y.2.2.2.2.2.2)) λz=>
   nj ((bif y.1 then true else z.1)=false) (I (z.2.1,z.2.2.1,x0.2.2.1,z.2.2.2.2.1,x0.2.2.2.2.1,z.2.2.2.2.2.2)) (λx=>x) (false,(z.2.1,z.2.2.1,x0.2.2.1,z.2.2.2.2.1,x0.2.2.2.2.1,z.2.2.2.2.2.2)) λw=>
   Option.some (.inr ((bif(bif y.1 then true else z.1) then true else w.1),(w.2.1,w.2.2.1,x0.2.2.1,w.2.2.2.2.1,x0.2.2.2.2.1,w.2.2.2.2.2.2)))):=by
 constructor
 ·intro r r' pd h a;have b:=kG _ _ _ (cX _) a;have c:=h.mono (dU a);refine(e5 (hf.some h a)).trans ?_;cases d:f (ar r') with
  |true=>rfl
  |false=>
   refine(yO rfl).trans ((e5 (bs.some c b)).trans ?_);cases j:g (ar r') with
   |true=>rfl
   |false=>refine(yO rfl).trans ((e5 (bf.some c b)).trans ?_);rfl
 ·intro r pd h a;exact(hf.none h a).bind λ_=> .inl rfl
theorem R2(e:cK)(c:Ctx):ot e (dE c) (λx=>D3 x (CI c)):=by
 cases c with
 |text=>exact akg e
 |paren=>exact(rK e _).ret
 |qh=>exact(q3 e _).ret
 |rG=>exact(q3 e _).ret
 |kh=>exact(q3 e _).ret
 |pE=>exact(q3 e _).ret
 |done=>exact(q3 e _).ret
 |item=>exact(rK e _).or (q3 e _)
 |qi=>exact(q3 e _).akh (q3 e _) (q3 e _)
theorem tx{e:cK}{r r':aa}{pd:ao}(h:dS e r pd)(a:bq r=some r'):
  (ar r'= .eof->xf e (kD (e.st r pd)))/\(ar r'≠ .eof->kD (e.st r pd)=some (.inl (2,ax e.S r',e.st r' pd))):=by
 constructor
 ·intro b;have:kD (e.st r pd)=a_ (rm (e.st r' pd)) (λx=>x) λy=>Empty.elim y:=by unfold kD a8;refine(e5 ((kW e).some h a)).trans ?_;rw[b];rfl
  rw[this];exact xf.more rfl rfl
 ·intro b;unfold kD a8;refine(e5 ((kW e).some h a)).trans ?_;cases hk:ar r' with
  |eof=>grind
  |_=>rfl
theorem Yo{e:cK}{r:aa}{pd:ao}{w:aa}{t:Tok->Bool}{F:an->Option (bp an (Bool×an))}(c:ot e t F)(f:∀{r:aa},t (ar r)=true->ar r≠ .eof/\w<+:r)(h:dS e r pd):
  aX e r (nb t w.length r pd) (λ_=>e.st) (a_ (F (e.st r pd)) (λx=>x) λy=>bif !y.1 then a_ (kD (y.2.1,y.2.2.1,pd,y.2.2.2.2.1,e.op,y.2.2.2.2.2.2)) (λx=>x) (λy=>Empty.elim y) else some (.inr (y.2.1,W (y.2.2.1+(w.length:Int)),pd,y.2.2.2.2.1,e.op,y.2.2.2.2.2.2))):=by
 unfold nb;cases a:bq r with
 |none=>rw[db (iB a)];exact((c.none h a).bind λ_=> .inl rfl).rJ
 |some r'=>
  rw[aM (cb a),e5 (c.some h a)];have g:=dU a;have b:=h.mono g;have d:=kG _ _ _ (cX _) a;cases hk:t (ar r') with
  |true=>obtain⟨ad,q,rfl⟩:=f hk;rw[aP ad,bh rfl];refine⟨by grind[List.drop_left,List.suffix_append,trans],by rw[o5];exact b.mono (gP w q),?_⟩;rw[o5];show some (Sum.inr (e.S,W (ax e.S (w++q)+(w.length:Int)),pd,e.ne,e.op,e.iH))=_;rw[ku h.b0 b.sfx];rfl
  |false=>
   simp only[e7,aK];by_cases he:ar r'= .eof
   ·rw[bh he];exact(((tx b d).1 he).bind λ_=> .inl rfl).rJ
   ·rw[aP he,aP (by simp)];exact⟨b.sfx,_,hL ((tx b d).2 he)⟩
theorem IE{e:cK}{r:aa}{pd:ao}(w:aa)(h:dS e r pd):aX e r (cZ w r pd) (λ_=>e.st) (ns (e.st r pd) w):=by refine Yo (q3 e w) (λ{r} hk=>?_) h;grind[ar,cB,qp]
theorem L7{e:cK}{r:aa}{pd:ao}(o:aa)(h:dS e r pd):aX e r (jA o r pd) (λ_=>e.st) (sc (e.st r pd) o):=by
 refine Yo (rK e o) (λ{r} hk=>?_) h;have:ar r= .op o:=by grind
 simp_all[iq]
theorem R3:∀r:aa,(Lib.indexByte r 10= -1/\(iM r).1=r/\(iM r).2=[])\/(Lib.indexByte r 10=((iM r).1.length:Int)/\r=(iM r).1++10::(iM r).2)
 |[]=> .inl ⟨rfl,rfl,rfl⟩
 |b::t=>by have:=R3 t;unfold iM Lib.indexByte;grind
theorem L8{r S:aa}(h:r<:+S):ch S (ax S r) S.length=r:=by rw[<-iu S,ID h oA];simp
theorem aki{S d:aa}{tabs:Bool}{j:Unit->Option Int}(di:S.length<=1000000):∀(n:Nat)(r:aa),r.length<n->r<:+S->
  fixF (rq S d tabs j) n (ax S r)=match ny d tabs r with|some q=>some (ax S q)|none=>j ():=by
 intro n;induction n with
 |zero=>omega
 |succ n f=>
  intro r aw a;rw[e4];generalize fixF (rq S d tabs j) n=k at f;unfold rq a8;cases r with
  |nil=>simp[iu,ny]
  |cons b t=>
   have u:=eL a;simp only[ng a,bz,aK];rw[bZ (by have:=h4 a;omega),L8 a];have i:∀(l q:aa),q<:+S->q.length<(b::t).length->(iM (b::t)).1=l->(iM (b::t)).2=q->
     (bif tabs then au (BB l [9]) λm=>bif decide (m=d) then some (ax S q) else k (ax S q) else bif decide (l=d) then some (ax S q) else k (ax S q))=
     match ny d tabs (b::t) with|some q=>some (ax S q)|none=>j ():=by
    intro l q g hl ad e;rw[Cw,ad,e];have bf:=f q (by omega) g;have v:l.length<=(b::t).length:=by
     rcases R3 (b::t) with⟨_,h,_⟩|⟨_,h⟩
     ·grind
     grind
    cases tabs with
    |true=>rw[Yc l (by omega)];simp only[aK,cH];rw[aO rfl];grind
    |false=>grind
   show au (some (Lib.indexByte (b::t) 10)) _=_;rw[aO rfl];rcases R3 (b::t) with⟨ad,e,h⟩|⟨ad,e⟩
   ·grind[iu]
   ·have c:=ma List.length e;simp only[Dj,mv] at c;have o:decide ((0:Int)<=Lib.indexByte (b::t) 10)=true:=by grind
    have g:(iM (b::t)).2<:+S:=((ee 10 _).trans (by grind)).trans a
    have p:ch (b::t) 0 (Lib.indexByte (b::t) 10)=(iM (b::t)).1:=by grind[iM,ch]
    have w:(b::t).length=t.length+1:=rfl;have s:W (W (ax S (b::t)+Lib.indexByte (b::t) 10)+1)=ax S (iM (b::t)).2:=by grind[ax,dV]
    rw[o];simp only[aK];rw[bZ (by omega),p,s];grind
theorem Yq{S d:aa}{tabs:Bool}{r:aa}(di:S.length<=1000000)(a:r<:+S):BC S (ax S r) d tabs=some (match ny d tabs r with|some q=>ax S q|none=> -1):=by
 unfold BC wM;have ad:max (0:Int) (min (ax S r) S.length)=ax S r:=by grind[oV,eL,ax]
 rw[aO rfl,ad];unfold a8;show fixF (rq S d tabs _) bB (ax S r)=_;grind[aki,lq,Nat.le_trans,eL,ny]
def L_{β:Type}(e:cK)(op:bl)(y:Option (bp an β)):Prop:=∃st:an,y=some (.inl (1,e.S.length,st))/\st.2.2.2.2.1=e.op++op
theorem Ma{β:Type}{e:cK}{st:an}{x:aa}{f:an->an}{k:Empty->Option (bp an β)}(ad:st.1=e.S)(a:st.2.2.2.2.1=e.op)(b:e.op.length<=2000000)(hf:∀s,(f s).2.2.2.2.1=s.2.2.2.2.1):L_ e [x] (a_ (wP st x) f k):=by
 unfold wP;rw[bZ (by grind)];refine⟨f (st.1,st.2.1,st.2.2.1,st.2.2.2.1,st.2.2.2.2.1++[x],st.2.2.2.2.2),?_,?_⟩
 ·grind[rm,a_]
 grind
theorem akj{e:cK}{pd:ao}{x0 y23:an}{j:Int->Option (bp an (Bool×an))}(di:e.S.length<=1000000)(f:e.op.length<=2000000)(o:pd.length<=1000000)(g:x0.2.2.2.2.1=e.op)(h:y23.1=e.S):∀(n i:Nat)(q:aa),pd.length-i<n->i<=pd.length->q<:+e.S->
  match l6 (pd.drop i) q with
  | .inl r'=>fixF (BD x0 pd y23 j) n ((i:Int),ax e.S q)=j (ax e.S r')
  | .inr _=>L_ e [[60,60]] (fixF (BD x0 pd y23 j) n ((i:Int),ax e.S q)):=by
 intro n;induction n with
 |zero=>omega
 |succ n l=>
  intro i q aw bf d;rw[e4];generalize fixF (BD x0 pd y23 j) n=k at l;unfold BD a8;simp only[h,g];by_cases p:i<pd.length
  ·have a:(i:Int)<(pd.length:Int):=by omega
   have b:pd.drop i=at' pd (i:Int)::pd.drop (i+1):=by grind[List.drop_eq_getElem_cons,at',List.getElem?_eq_getElem]
   rw[b];simp only[a,bz,aK];rw[bZ (show 0<=(i:Int)/\True from⟨by omega,trivial⟩),Yq di d,aO rfl,dV (x:=(i:Int)+1) (by omega) (by omega)];unfold l6;cases m:ny (at' pd (i:Int)).1 (at' pd (i:Int)).2 q with
   |none=>simp only[show((-1:Int)<0) from by decide,bz,aK];exact Ma rfl rfl f λ_=>rfl
   |some c=>
    have r:c<:+e.S:=((Rm _ _ _ q [] c (cX _) m).1).trans d;have h0:¬ax e.S c<0:=by grind[eL,ax]
    grind
  ·have a:¬(i:Int)<(pd.length:Int):=by omega
   have b:pd.drop i=[]:=wm (by omega);rw[b];simp only[a,bF,aU];rfl
theorem dS.xg{e:cK}{r:aa}{pd:ao}(h:dS e r pd):e.op.length<=2000000:=by have:=h.ops;have:=h.b0;omega
theorem dS.R5{e:cK}{r:aa}{pd:ao}(h:dS e r pd):pd.length<=1000000:=by have:=h.jO;have:=h.b0;omega
theorem Yr{e:cK}{r:aa}{pd:ao}(h:dS e r pd):aX e r (cR r pd) (λb r pd=>(b,e.st r pd)) (k7 (e.st r pd)):=by
 unfold k7 a8;rw[qq];refine aX.rep (en:=λb r pd=>(b,e.S,ax e.S r,pd,e.ne,e.iH)) (λk b r1 aD ad hk=>?_) bB false r pd (lq (lL (eL h.sfx) h.b0)) h;unfold PF a8;cases c:bq r1 with
 |none=>have:gu b r1 aD= .more [] (cQ [] aD []).1 (cQ [] aD []).2:=db (iB c);rw[this];exact(((kW e).none ad c).bind λ_=> .inr rfl).rJ
 |some n=>
  have i:=dU c;have a:=ad.mono i;refine cast (ma _ (e5 ((kW e).some ad c)).symm) ?_;by_cases l:ar n= .line
  ·obtain⟨t,rfl⟩:=vT l;rw[ts c,l];have o:t<:+e.S:=dZ a.sfx;have f:=akj (e:=e) (pd:=aD) (x0:=e.st r pd) (y23:=e.st (10::t) aD) (j:=λm=>k (true,e.S,m,[],e.ne,e.iH)) h.b0 a.xg a.R5 rfl rfl bB 0 t (lq (by have:=a.R5;omega)) (by omega) o;have s:W (ax e.S (10::t)+1)=ax e.S t:=iP a.b0 a.sfx;simp only[xI] at f
   have u:∀y,y=fixF (BD (e.st r pd) aD (e.st (10::t) aD) λm=>k (true,e.S,m,[],e.ne,e.iH)) bB ((0:Nat),ax e.S t)->aX e r1 (cP gu r1 (ae iW (λ_=>aY (.inl true)) (10::t) aD)) (λb r pd=>(b,e.st r pd)) y:=by
    rintro y rfl;cases g:l6 aD t with
    |inr nd=>
     rw[g] at f;have:ae iW (λ_=>aY (.inl true)) (10::t) aD=(.more [[60,60]] nd []:dD (Bool⊕Bool)):=by grind[ae,tp]
     rw[this];exact f
    |inl d=>
     rw[g] at f;have v:ae iW (λ_=>aY (.inl true)) (10::t) aD=(.ok (.inl true) d []:dD (Bool⊕Bool)):=by unfold ae;rw[tp,g];rfl
     rw[v];have w:fixF _ _ _=_:=f;rw[w];have p:d<:+t:=(vO _ _ [] _ g).1;have x:d<:+r1:=p.trans ((ee 10 t).trans i);have q:d.length<r1.length:=by grind
     have z:dS e d []:=⟨a.b0,p.trans o,by grind,by have:=ad.ops;omega⟩;exact aX.inl q (hk true d [] x z q)
   refine u _ ?_;rw[<-s];rfl
  ·rw[pJ c l];refine⟨i,a,?_⟩;cases A:ar n with
   |line=>grind
   |_=>rfl
theorem akk(w:aa):Hj w=some (qg w):=by
 unfold Hj;have e0:rI 32 [105,102,32,119,104,105,108,101,32,117,110,116,105,108,32,102,111,114,32,99,97,115,101,32,123]=([lV,w9,Ij,nz,nA,[123]]:bl):=by decide
 rw[aO (RN w _ (by decide) (by simp_all)),e0];rfl
theorem akl(w:aa):HD w=some (rF w):=by unfold HD;rw[aO (RN w _ (by decide) (by decide))];rfl
theorem akm(w:aa):Ei w=some (eZ w):=by unfold Ei;rw[aO (RN w _ (by decide) (by decide))];rfl
theorem Ys(e:cK):ot e gX D4:=by
 constructor
 ·intro r r' pd h a;refine(e5 ((kW e).some h a)).trans ?_;simp only[akk,gf];cases ar r' with
  |word t p=>cases p<;>simp[jj,gX,cK.st]
  |op o=>grind[jj,gX,cK.st]
  |_=>rfl
 ·intro r pd h a;exact((kW e).none h a).bind λ_=> .inl rfl
def cK.fw(e:cK)(x:aa):cK:=⟨e.S,e.ne+1,e.op++[x],e.iH⟩
theorem Mb{e:cK}{r:aa}{pd:ao}{p:Int}{x:aa}(h:dS e r pd)(ad:0<=e.ne)(b:e.ne<30):ye (e.st r pd) p x=some (.inr ((e.fw x).st r pd)):=by
 unfold ye a8;have:¬(e.st r pd).2.2.2.1=30:=by show¬e.ne=30;omega
 simp only[this,bF,aU];have c:=h.xg;refine(bZ (show(e.st r pd).2.2.2.2.1.length+_<=536870912 by show e.op.length+1<=_;omega)).trans ?_;have a:W (e.ne+1)=e.ne+1:=dV (by omega) (by omega);show some (Sum.inr (e.S,ax e.S r,pd,W (e.ne+1),e.op++[x],e.iH))=_;rw[a];rfl
theorem Mc{e:cK}{r:aa}{pd:ao}{x:aa}(c:e.op.length<=2000000)(ad:0<=e.ne)(d:e.ne<30):uk ((e.fw x).st r pd)=some (e.st r pd):=by
 unfold uk;have hl:((e.fw x).st r pd).2.2.2.2.1=e.op++[x]:=rfl;have aw:((e.fw x).st r pd).2.2.2.1=e.ne+1:=rfl;have a:W (((e.op++[x]).length:Int)-1)=e.op.length:=by grind[dV,List.length_append,List.length_singleton]
 have b:W (e.ne+1-1)=e.ne:=by grind[dV]
 simp only[hl,aw,a,b];rw[bZ (by grind)];have:ch (e.op++[x]) 0 (e.op.length:Int)=e.op:=by simp[ch]
 rw[this];rfl
theorem aX.named{α β:Type}{e:cK}{r0 r:aa}{pd:ao}{m:ak α}{x:aa}{cv:α->aa->ao->β}{y:Option (bp an β)}(h:aX (e.fw x) r0 (m r pd) cv y):match(m.named x) r pd with
  | .ok a r pd=>r<:+r0/\dS (e.fw x) r pd/\y=some (.inr (cv a r pd))
  | .more op _ _=>L_ e op y
  | .bad r=>r<:+e.S/\∃st,y=some (.inl (2,ax e.S r,st))
  | .deep _=>True:=by
 unfold ak.named;cases hm:m r pd with
 |ok a r1 aD=>rw[hm] at h;exact h
 |more op nd ds=>rw[hm] at h;obtain⟨st,ad,b⟩:=h;exact⟨st,ad,by grind[cK.fw]⟩
 |bad q=>rw[hm] at h;exact h
 |deep q=>trivial
theorem IG{S r:aa}(a:r<:+S):wM (ax S r) S.length=some (ax S r):=by unfold wM;grind[max,min,ax,oV,eL]
def kX(S:aa):Option aa->Int
 |some q=>ax S q
 |none=> -1
theorem akn{S:aa}(di:S.length<=1000000):∀(n:Nat)(r:aa),r.length<n->r<:+S->fixF (wV S λ_=>some (-1)) n (ax S r)=some (kX S (gW r)):=by
 intro n;induction n with
 |zero=>omega
 |succ n e=>
  intro r aw a;rw[e4];cases r with
  |nil=>simp[wV,iu,gW,kX]
  |cons b t=>
   have i:=eL a;have g:t.length<n:=by grind
   have f:=e t g (dZ a);cases t with
   |nil=>
    obtain⟨m,rfl⟩:∃m,n=m+1:=⟨n-1,by omega⟩
    have h:fixF (wV S λ_=>some (-1)) (m+1) (W (ax S []+1))=some (-1):=by
     rw[e4];unfold wV;have:¬W (ax S []+1)<(S.length:Int):=by grind[iu,dV]
     grind
    generalize fixF (wV S _) (m+1)=k at f h;unfold wV a8;simp only[ng a,bz,aK];rw[bZ ⟨(h4 a).1,trivial⟩,jC a,iP di a];grind[mN,n0,gW,kX]
   |cons c u=>have d:=e u (by grind) (dZ (dZ a));generalize fixF (wV S _) n=k at f d;unfold wV a8;simp only[ng a,bz,aK];rw[bZ ⟨(h4 a).1,trivial⟩,jC a,iP di a,iP di (dZ a)];grind[mN,n0,gW,kX]
theorem akp{S r:aa}(di:S.length<=1000000)(a:r<:+S):BM S (ax S r)=some (kX S (gW r)):=by unfold BM;rw[IG a,aO rfl];grind[a8,akn,lq,Nat.le_trans,eL]
theorem Yt:∀r:aa,(Lib.indexByte r 39= -1/\gk r=none)\/∃q,gk r=some q/\q<:+r/\Lib.indexByte r 39=(r.length:Int)-q.length-1
 |[]=> .inl ⟨rfl,rfl⟩
 |b::t=>by
  unfold gk Lib.indexByte;by_cases a:b=39
  ·subst a;exact .inr ⟨t,by simp,ee 39 t,by simp;omega⟩
  ·rcases Yt t with⟨ad,c⟩|⟨q,ad,c,d⟩
   ·left;simp[a,ad,c]
   ·right;refine⟨q,by simp[a,ad],c.trans (ee b t),?_⟩;have e:=yI t q ad;have:¬Lib.indexByte t 39= -1:=by rw[d];omega
    simp[a,this,d];omega
theorem Yu{S r:aa}(di:S.length<=1000000)(a:r<:+S):vz S (ax S r)=some (kX S (gk r)):=by
 unfold vz;have hl:=eL a;have aB:ax S r=(S.length:Int)-r.length:=rfl;rw[IG a,aO rfl,bZ (by omega),L8 a];show au (some (Lib.indexByte r 39)) _=_;rw[aO rfl];rcases Yt r with⟨ad,b⟩|⟨q,ad,b,c⟩
 ·rw[ad,b];rfl
 ·have d:=yI r q ad;rw[ad,c];have h0:¬((r.length:Int)-q.length-1<0):=by omega
  simp only[h0,bF,aU];rw[dV (x:=ax S r+_) (by omega) (by omega),dV (by omega) (by omega)];unfold kX;simp only;congr 1;have:ax S q=(S.length:Int)-q.length:=rfl;omega
def qw(S:aa):Xl->Int×Int
 | .ok r=>(ax S r,0)
 | .more n=>(-1,n)
 | .bad r=>(-2,ax S r)
theorem sD(b:UInt8)(t:aa):fQ (b::t)=(decide (b=36)&&match t with|[]=>false|c::_=>decide (c=40)||decide (c=123)):=by
 cases t with
 |nil=>simp[fQ]
 |cons c u=>
  by_cases ad:b=36
  ·subst ad;by_cases a:c=40
   ·subst a;rfl
   ·by_cases d:c=123
    ·subst d;rfl
    simp_all[fQ]
  simp_all[fQ]
theorem akq{S:aa}(di:S.length<=1000000):∀(n:Nat)(d:Nat)(r:aa),r.length<n->r<:+S->d+r.length<=1000000->fixF (BI S λl=>some ((-1),(W (l+2)))) n ((d:Int),ax S r)=some (qw S (h1 d r)):=by
 intro n;induction n with
 |zero=>omega
 |succ n f=>
  intro d r aw a aG;rw[e4];generalize fixF (BI S _) n=k at f;unfold BI a8;cases r with
  |nil=>simp only[iu,Int.lt_irrefl,bF,aU];grind[dV,h1,qw]
  |cons b t=>
   have y:=eL a;have m:t.length<n:=by grind
   have z:(b::t).length=t.length+1:=rfl;simp only[ng a,bz,aK];rw[bZ ⟨(h4 a).1,trivial⟩];have o:=iP di a;simp only[jC a,o,CG,Yi,q1,n1,mN,n0,qv];have A:=λd h=>f d t m (dZ a) h;unfold h1;rw[sD];by_cases e:b=40
   ·subst e;have g:W ((d:Int)+1)=((d+1:Nat):Int):=by grind[dV]
    grind
   by_cases i:b=41
   ·subst i;simp only[e,bF,bz,aK,aU];cases d with
    |succ j=>
     have g:W (((j+1:Nat):Int)-1)=(j:Int):=by grind[dV]
     grind
    |zero=>
     simp only[show¬((0:Int)<((0:Nat):Int)) by decide,bF,aU];cases t with
     |nil=>simp[iu,qw]
     |cons c u=>
      have bc:¬ax S (c::u)=(S.length:Int):=by simp[yN]
      simp only[bc,bF,aU];rw[bZ (h4 (dZ a))];simp only[jC (dZ a),Yi];have g:W (ax S (41::c::u)+2)=ax S u:=ku (w:=[41,c]) di a;grind[qw]
   simp only[e,i,bF,aU,cr];by_cases p:b=39
   ·grind[qw]
   by_cases q:b=34
   ·grind[qw]
   by_cases s:b=92
   ·grind[qw]
   by_cases v:b=96
   ·grind[qw]
   simp only[p,q,s,v,bF,aU,false_or];by_cases x:b=36
   ·subst x;simp only[bz,aK,NC];cases t with
    |nil=>simp only[iu,Int.lt_irrefl,bF,aU];grind[bZ,iu]
    |cons c u=>rw[bZ (λ_=>h4 (dZ a)),bZ (λ_ _=>h4 (dZ a))];simp only[ng (dZ a),bz,aK,jC (dZ a),CG,CH];grind[qw]
   grind
theorem Yv{S r:aa}(di:S.length<=1000000)(a:r<:+S):BJ S (ax S r)=some (qw S (h1 0 r)):=by unfold BJ;rw[IG a,aO rfl];unfold a8;exact akq di _ 0 r (lq (lL (eL a) di)) a (by grind)
def qx{α β:Type}(e:cK)(m:ak α)(cv:α->aa->ao->β)(F:an->Option (bp an β)):Prop:=∀r pd,dS e r pd->aX e r (m r pd) cv (F (e.st r pd))
def a7(fr:Bool):Nat->ak Unit
 |0=>dw none
 |n+1=>dw (some (aS fr n))
theorem xh(fr:Bool)(n:Nat):(aS fr n).dl=a7 fr n:=by cases n<;>rfl
structure CJ(R:bg)(n:Nat):Prop where
 im:∀e:cK,e.ne=30- (n:Int)->qx e (iX 34 (cA (a7 false n) none)) (λ_=>e.st) (λx=>R.x7 x 34 false)
structure Md(R:bg)(n:Nat):Prop where
 im:∀e:cK,e.ne=30- (n:Int)->qx e (iX 125 (cA (a7 false n) (some (eF (a7 false n))))) (λ_=>e.st) (λx=>R.x7 x 125 true)
structure xi(R:bg)(n:Nat):Prop where
 im:∀(e:cK)(c:Ctx)(no:Bool),c≠ .text->e.ne=30- (n:Int)->qx e ((aS false n).ls c no) (λa r pd=>((a:Int),e.st r pd)) (λx=>R.kl x (CI c) no)
theorem aX.aJ{α β:Type}{e:cK}{r0 r:aa}{pd:ao}{m:ak α}{x:aa}{cv:α->aa->ao->β}{y:Option (bp an β)}(h:aX e r0 (m r pd) cv y):aX e r0 (m.aJ x r pd) cv y:=by
 unfold ak.aJ;cases hm:m r pd with
 |more op nd ds=>rw[hm] at h;exact h
 |ok a r1 aD=>grind
 |bad q=>grind
 |deep q=>trivial
def cK.nm(e:cK)(x:aa):cK:=⟨e.S,e.ne,e.op++[x],e.iH⟩
theorem akr{R:bg}{n:Nat}(gJ:CJ R n){e:cK}(bc:e.ne=30- (n:Int)){t:aa}{pd:ao}(h:dS e (34::t) pd):aX e t (eF (a7 false n) t pd) (λ_=>e.st) (Ho R (e.st (34::t) pd)):=by
 unfold Ho;have k:=h.xg;refine cast (ma _ (bZ (show(e.st (34::t) pd).2.2.2.2.1.length+_<=536870912 by show e.op.length+1<=_;omega)).symm) ?_
 have c:dS (e.nm [34]) t pd:=⟨h.b0,dZ h.sfx,by have:=h.jO;simp only[mv] at this;show _<=e.S.length;omega,by have:=h.ops;simp only[mv] at this;show(e.op++[[34]]).length+_<=_;simp only[Dj,NI];show _<=e.S.length+1;omega⟩
 have hu:=gJ.im (e.nm [34]) bc t pd c;have d:W (ax e.S (34::t)+1)=ax e.S t:=iP h.b0 h.sfx;have f:((e.st (34::t) pd).1,(W ((e.st (34::t) pd).2.1+1)),(e.st (34::t) pd).2.2.1,(e.st (34::t) pd).2.2.2.1,((e.st (34::t) pd).2.2.2.2.1++([([34]:aa)]:bl)),(e.st (34::t) pd).2.2.2.2.2)=(e.nm [34]).st t pd:=by show(e.S,W (ax e.S (34::t)+1),pd,e.ne,e.op++[[34]],e.iH)=_;rw[d];rfl
 rw[f];unfold eF ak.named ak.aJ;cases hm:iX 34 (cA (a7 false n) none) t pd with
 |ok a r1 aD=>
  rw[hm] at hu;obtain⟨ad,b,g⟩:=hu
  refine⟨ad,⟨h.b0,b.sfx,b.jO,by have:=b.ops;have i:(e.nm [34]).op.length=e.op.length+1:=by simp[cK.nm]
                                rw[i] at this;have l:(e.nm [34]).S=e.S:=rfl;grind⟩,?_⟩
  rw[e5 g];have j:W (((e.op++[[34]]).length:Int)-1)=e.op.length:=by grind[dV,List.length_append,List.length_singleton]
  have hl:((e.nm [34]).st r1 aD).2.2.2.2.1=e.op++[[34]]:=rfl;simp only[hl,j];refine(bZ (by grind)).trans ?_;have:ch (e.op++[[34]]) 0 (e.op.length:Int)=e.op:=by simp[ch]
  rw[this];rfl
 |more op nd ds=>rw[hm] at hu;obtain⟨st,ad,b⟩:=hu;exact⟨st,hL ad,by grind[cK.nm]⟩
 |bad q=>rw[hm] at hu;obtain⟨ad,st,b⟩:=hu;exact⟨ad,st,hL b⟩
 |deep q=>trivial
def Me(e:cK)(b:UInt8)(t:aa)(pd:ao)(m:dD Unit)(y:Option (bp an (Bool×an))):Prop:=match m with
 | .ok _ r' a=>r'<:+t/\dS e r' a/\(y=some (.inr (true,e.st r' a))\/(y=some (.inr (false,e.st (b::t) pd))/\r'=t/\a=pd))
 | .more op _ _=>L_ e op y
 | .bad r=>r<:+e.S/\∃st,y=some (.inl (2,ax e.S r,st))
 | .deep _=>True
theorem dS.fw{e:cK}{r t:aa}{pd:ao}{x:aa}(h:dS e r pd)(a:t<:+r)(hl:t.length<r.length):dS (e.fw x) t pd:=
 ⟨h.b0,a.trans h.sfx,by have:=h.jO;show _<=e.S.length;omega,by have:=h.ops;show(e.op++[x]).length+_<=e.S.length+1;grind⟩
theorem dS.out{e:cK}{r:aa}{pd:ao}{x:aa}(h:dS (e.fw x) r pd):dS e r pd:=
 ⟨h.b0,h.sfx,h.jO,by
  have:=h.ops;have a:(e.fw x).op.length=e.op.length+1:=by simp[cK.fw]
  have b:(e.fw x).S=e.S:=rfl;grind⟩
theorem aks{α β:Type}{R:bg}{e:cK}{r t:aa}{pd:ao}{x:aa}{p:Int}{m:ak α}{cv:α->aa->ao->β}{F:an->Option (bp an β)}{k:β->Option (bp an an)}{G:an->an}
  (ad:0<=e.ne) (d:e.ne<30) (h:dS e r pd) (g:t<:+r) (hl:t.length<r.length) (f:G ((e.fw x).st r pd)=(e.fw x).st t pd)
  (hm:aX (e.fw x) t (m t pd) cv (F ((e.fw x).st t pd)))
  (hk:∀a r1 aD,m t pd= .ok a r1 aD->dS (e.fw x) r1 aD->k (cv a r1 aD)=some (.inr (e.st r1 aD))):
  aX e t (ae (m.named x) (λ_=>aY ()) t pd) (λ_=>e.st) (a_ (ye (e.st r pd) p x) (λx=>x) λy=>a_ (F (G y)) (λx=>x) k):=by
 rw[e5 (Mb h ad d),f];have:=hm.named;unfold ae;cases aw:(m.named x) t pd with
 |ok a r1 aD=>rw[aw] at this;obtain⟨b,c,i⟩:=this;have j:=Cu.1 aw;exact⟨b,c.out,by grind[e5]⟩
 |more op nd ds=>rw[aw] at this;obtain⟨st,b,c⟩:=this;exact⟨st,hL b,c⟩
 |bad q=>rw[aw] at this;obtain⟨b,st,c⟩:=this;exact⟨b,st,hL c⟩
 |deep q=>trivial
theorem aX.dW{α β:Type}{e:cK}{r0:aa}{m:dD α}{cv:α->aa->ao->β}{y a:Option (bp an β)}(h:aX e r0 m cv y)(b:a=y):aX e r0 m cv a:=b▸h
theorem Fk(m:ak Unit)(r:aa)(pd:ao):ae m (λ_=>aY ()) r pd=m r pd:=by unfold ae;cases m r pd<;>rfl
theorem Yw(fr:Bool)(n:Nat):(aS fr n).pm=qV (a7 fr n):=by cases n<;>rfl
theorem akt{R:bg}{n:Nat}(gJ:∀m,n=m+1->Md R m){e:cK}(bc:e.ne=30- (n:Int))(aw:n<=30){u:aa}{pd:ao}(h:dS e (36::123::u) pd):
  aX e u (a7 false n (36::123::u) pd) (λ_=>e.st) (wU R (e.st (36::123::u) pd)):=by
 cases n with
 |zero=>show aX e u (dw none _ _) _ _;unfold dw;rw[aP (by simp),aP (by simp),bh (by simp)];trivial
 |succ m=>
  have hu:=(gJ m rfl).im (e.fw [36,123]) (by show e.ne+1=_;omega);have f:W (ax e.S (36::123::u)+2)=ax e.S u:=ku (w:=[36,123]) h.b0 h.sfx;have c:W (ax e.S (36::123::u)+1)=ax e.S (123::u):=iP h.b0 h.sfx;have d:u<:+36::123::u:=(ee 123 u).trans (ee 36 _);have hm:=aX.aJ (x:=[125]) (hu u pd (h.fw d (by grind)));have:=aks (R:=R) (p:=ax e.S (36::123::u)) (F:=λx=>R.x7 x 125 true) (G:=λy=>(y.1,(W (y.2.1+2)),y.2.2.1,y.2.2.2.1,y.2.2.2.2.1,y.2.2.2.2.2)) (k:=λg=>au (uk g) λb=>some (.inr (b.1,b.2.1,b.2.2.1,b.2.2.2.1,b.2.2.2.2.1,b.2.2.2.2.2)))
   (by omega) (by omega) h d (by grind) (by show(e.S,W (ax e.S (36::123::u)+2),pd,e.ne+1,e.op++[[36,123]],e.iH)=_;rw[f];rfl) hm
   (λa r1 aD _ _=>by rw[Mc h.xg (by omega) (by omega)];rfl)
  rw[Fk] at this;have aB:a7 false (m+1) (36::123::u) pd=((aS false m).pm.named [36,123]) u pd:=by rfl
  rw[aB,Yw];refine aX.dW this ?_
  ·unfold wU a8;refine(bZ (show 0<=W (ax e.S (36::123::u)+1)/\W (ax e.S (36::123::u)+1)<(e.S.length:Int) by rw[c];exact h4 (dZ h.sfx))).trans ?_;have:((at' (e.st (36::123::u) pd).1 (W ((e.st (36::123::u) pd).2.1+1))).toNat:Int)=123:=by show((at' e.S (W (ax e.S (36::123::u)+1))).toNat:Int)=123;rw[c,jC (dZ h.sfx)];rfl
   simp only[this,bz,aK];rfl
theorem Yx:∀(r:aa)(d:Nat)(q:aa),h1 d r= .bad q->q<:+r
 |[],d,q,h=>by grind[h1]
 |b::t,d,q,h=>by
  have a:=λd=>Yx t d;unfold h1 at h;split at h
  ·cases h;exact fT
  ·split at h
   ·exact((a _) q h).trans (ee b t)
   ·split at h
    ·split at h
     ·exact((a _) q h).trans (ee b t)
     ·split at h
      ·cases h
      ·split at h
       ·cases h
       ·cases h;exact fT
    ·exact((a _) q h).trans (ee b t)
theorem aku{R:bg}{n:Nat}{e:cK}{u:aa}{pd:ao}(h:dS e (36::40::40::u) pd):
  aX e u (a7 false n (36::40::40::u) pd) (λ_=>e.st) (wU R (e.st (36::40::40::u) pd)):=by
 have aB:a7 false n (36::40::40::u) pd=nB u pd:=by
  cases n with
  |zero=>rfl
  |succ m=>rfl
 rw[aB];have c:W (ax e.S (36::40::40::u)+1)=ax e.S (40::40::u):=iP h.b0 h.sfx;have d:W (ax e.S (36::40::40::u)+2)=ax e.S (40::u):=ku (w:=[36,40]) h.b0 h.sfx;have f:W (ax e.S (36::40::40::u)+3)=ax e.S u:=ku (w:=[36,40,40]) h.b0 h.sfx;have hu:u<:+e.S:=dZ (dZ (dZ h.sfx));have g:u<:+36::40::40::u:=(gP [36,40,40] u);unfold wU a8;simp only[cK.st,c,d,f,jC (dZ h.sfx),jC (dZ (dZ h.sfx)),CH,CG];refine aX.dW ?_ (bZ (h4 (dZ h.sfx)));simp only[show¬((40:UInt8)=123) by decide,bF,aU];refine aX.dW ?_ (bZ (λ_=>h4 (dZ (dZ h.sfx))));simp only[ng (dZ (dZ h.sfx)),bz,aK,Yv h.b0 hu];refine aX.dW ?_ (aO rfl);unfold nB;cases b:h1 0 u with
 |ok q=>
  have a:=At 0 u q b;have h0:¬ax e.S q= -1:=by grind[eL,ax]
  have ad:¬ax e.S q= -2:=by grind[eL,ax]
  refine⟨a,h.mono (a.trans g),?_⟩;simp[qw,h0,ad];rfl
 |more k=>simp only[qw,bz,aK];exact Ma rfl rfl h.xg λ_=>rfl
 |bad q=>have a:=Yx u 0 q b;refine⟨a.trans hu,?_⟩;simp only[qw,show¬((-2:Int)= -1) by decide,bF,aU,bz,aK];exact⟨_,rfl⟩
theorem Yy{σ α:Type}{f:σ->ak (σ⊕α)}{Q:aa->Prop}(hf:∀s r pd a r' b,f s r pd= .ok (.inr a) r' b->Q r'):∀(N:Nat)(s:σ)(r:aa)(pd:ao)(a:α)(r':aa)(b:ao),r.length<=N->b7 f s r pd= .ok a r' b->Q r':=by
 intro N;induction N with
 |zero=>intro s r pd a r' b c h;rw[cq] at h;unfold cP at h;grind
 |succ N d=>intro s r pd a r' b c h;rw[cq] at h;unfold cP at h;grind
theorem IH{x r:aa}{pd:ao}{t:Tok}{r':aa}{a:ao}(h:bN x r pd= .ok t r' a):bq r=some r'/\t=ar r'/\a=pd:=by
 unfold bN at h;split at h
 ·grind[b3]
 grind
theorem yQ{cV:ak Unit}{c:Ctx}{no:Bool}(aF:c≠ .text){r:aa}{pd:ao}{a:Nat}{r':aa}{d:ao}(h:om cV c no r pd= .ok a r' d):bq r'=some r'/\dE c (ar r')=true:=by
 rw[pI] at h;obtain⟨_,r1,aD,_,h⟩:=b4 h;refine Yy (Q:=λr'=>bq r'=some r'/\dE c (ar r')=true) (λs r pd a r' d h=>?_) _ _ _ _ _ _ _ (cX _) h;unfold eK at h;generalize (if(no||decide (s>0))=true then([]:aa) else [120])=k at h;obtain⟨t,e,v,ad,g⟩:=b4 h;clear h;obtain⟨l,rfl,rfl⟩:=IH ad;have x:=kG _ _ _ (cX _) l;by_cases he:ar e= .eof
 ·simp_all[bh,aP,b3]
 rw[aP he] at g;by_cases f:((no||decide (s>0))&&dE c (ar e))=true
 ·rw[bh f] at g;cases g;grind
 rw[aP f] at g;obtain⟨_,y,z,_,g⟩:=b4 g;obtain⟨t,m,A,n,b⟩:=b4 g;clear g;obtain⟨q,rfl,rfl⟩:=IH n;have u:=kG _ _ _ (cX _) q;cases hk:ar m with
 |eof=>rw[hk] at b;cases b
 |line=>rw[hk] at b;obtain⟨_,_,_,_,b⟩:=b4 b;cases b
 |word w p=>rw[hk] at b;cases b
 |op o=>
  rw[hk] at b;unfold il at b;simp only at b;by_cases i:o=[59]\/o=[38]
  ·rw[bh i] at b;obtain⟨_,_,_,_,b⟩:=b4 b;obtain⟨_,_,_,_,b⟩:=b4 b;cases b
  ·rw[aP i] at b;by_cases j:dE c (.op o)=true
   ·rw[bh j] at b;cases b;grind
   ·rw[aP j] at b;cases b
theorem Fl{o v:aa}{pd:ao}(a:bq v=some v)(b:ar v= .op o):jA o v pd= .ok () (v.drop o.length) pd:=by unfold jA nb;rw[aM (cb a),b,aP (by simp)];simp[bV]
theorem Yz{e:cK}{v:aa}{pd:ao}{o:aa}(h:dS e v pd)(a:bq v=some v)(b:ar v= .op o):v.drop o.length<:+v/\sc (e.st v pd) o=some (.inr (e.st (v.drop o.length) pd)):=by have:=L7 o h;rw[Fl a b] at this;exact⟨this.1,this.2.2⟩
theorem YA{R:bg}{n:Nat}(bn:∀m,n=m+1->xi R m){e:cK}(bc:e.ne=30- (n:Int))(aw:n<=30){u:aa}{pd:ao}(hu:u.head?≠some 40)(h:dS e (36::40::u) pd):
  aX e u (a7 false n (36::40::u) pd) (λ_=>e.st) (wU R (e.st (36::40::u) pd)):=by
 have g:¬([36,40,40]:aa).isPrefixOf (36::40::u)=true:=by
  cases u with
  |nil=>simp
  |cons c v=>grind
 cases n with
 |zero=>show aX e u (dw none _ _) _ _;unfold dw;rw[aP g,bh (by simp)];trivial
 |succ m=>
  have hl:=(bn m rfl).im (e.fw [36,40]) .paren true (by simp) (by show e.ne+1=_;omega);have i:W (ax e.S (36::40::u)+2)=ax e.S u:=ku (w:=[36,40]) h.b0 h.sfx;have j:W (ax e.S (36::40::u)+1)=ax e.S (40::u):=iP h.b0 h.sfx;have t:u<:+36::40::u:=(ee 40 u).trans (ee 36 _);have y:=h.fw (x:=[36,40]) t (by grind);have hm:=aX.aJ (x:=[41]) (hl u pd y);have aB:a7 false (m+1) (36::40::u) pd=sv (aS false m) u pd:=by show dw (some (aS false m)) _ _=_;unfold dw;rw[aP g,bh (by simp)];rfl
  rw[aB];unfold wU a8;refine aX.dW ?_ (bZ (show 0<=W (ax e.S (36::40::u)+1)/\W (ax e.S (36::40::u)+1)<(e.S.length:Int) by rw[j];exact h4 (dZ h.sfx)));simp only[cK.st,j,i,jC (dZ h.sfx),CH,CG];simp only[show¬((40:UInt8)=123) by decide,bF,aU];have bs:decide (ax e.S u<(e.S.length:Int))=true->0<=ax e.S u/\ax e.S u<(e.S.length:Int):=by
   intro z;cases u with
   |nil=>grind[iu]
   |cons c v=>exact h4 (dZ (dZ h.sfx))
  refine aX.dW ?_ (bZ bs);have hf:(bif decide (ax e.S u<(e.S.length:Int)) then decide (at' e.S (ax e.S u)=40) else false)=false:=by
   cases u with
   |nil=>simp[iu]
   |cons c v=>have:¬c=40:=λz=>hu (by grind);simp[jC (dZ (dZ h.sfx)),this]
  simp only[hf,aU];have A:=Mb (p:=ax e.S (36::40::u)) (x:=[36,40]) h (by omega) (by omega);refine aX.dW ?_ (e5 A);have B:(((e.fw [36,40]).st (36::40::u) pd).1,(W (((e.fw [36,40]).st (36::40::u) pd).2.1+2)),((e.fw [36,40]).st (36::40::u) pd).2.2.1,((e.fw [36,40]).st (36::40::u) pd).2.2.2.1,((e.fw [36,40]).st (36::40::u) pd).2.2.2.2.1,((e.fw [36,40]).st (36::40::u) pd).2.2.2.2.2)=(e.fw [36,40]).st u pd:=by show(e.S,W (ax e.S (36::40::u)+2),pd,e.ne+1,e.op++[[36,40]],e.iH)=_;rw[i];rfl
  rw[B];unfold sv;have b:=hm.named;unfold ae;cases hk:(((aS false m).ls .paren true).aJ [41]).named [36,40] u pd with
  |ok a r1 aD=>
   rw[hk] at b;obtain⟨f,d,C⟩:=b;have k:=hJ.1 (Cu.1 hk);rw[uM] at k;obtain⟨l,G⟩:=yQ (by simp) k;have o:ar r1= .op [41]:=by grind[dE]
   obtain⟨s,D⟩:=Yz d l o;simp only;rw[Fl l o];have E:=(d.mono s);refine⟨s.trans f,E.out,?_⟩;refine(e5 C).trans ((e5 D).trans ?_);have F:=Mc (r:=r1.drop 1) (pd:=aD) (x:=[36,40]) h.xg (show 0<=e.ne by omega) (by omega);exact(aO F).trans rfl
  |more op nd ds=>rw[hk] at b;obtain⟨st,f,d⟩:=b;exact⟨st,hL f,d⟩
  |bad q=>rw[hk] at b;obtain⟨f,st,d⟩:=b;exact⟨f,st,hL d⟩
  |deep q=>trivial
structure Below(R:bg)(n:Nat):Prop where
 le:n<=30
 u1:∀m,n=m+1->Md R m
 ls:∀m,n=m+1->xi R m
theorem YB{R:bg}{n:Nat}(a:Below R n){e:cK}(bc:e.ne=30- (n:Int)){b:UInt8}{t:aa}{pd:ao}(f:fQ (b::t)=true)(h:dS e (b::t) pd):
  aX e t (a7 false n (b::t) pd) (λ_=>e.st) (wU R (e.st (b::t) pd)):=by
 rw[sD] at f;cases t with
 |nil=>grind
 |cons c u=>
  simp only[g7,A3,Ud] at f;obtain⟨rfl,rfl|rfl⟩:=f
  ·cases u with
   |nil=>exact(YA a.ls bc a.le (by simp) h).mono (ee _ _)
   |cons d v=>
    by_cases aG:d=40
    ·subst aG;exact(aku (n:=n) h).mono ((ee _ _).trans (ee _ _))
    ·exact(YA a.ls bc a.le (by grind) h).mono (List.suffix_cons _ _)
  ·exact(akt a.u1 bc a.le h).mono (ee _ _)
theorem YC{R:bg}{n:Nat}(M:Below R n)(i:Bool)(gJ:i=true->CJ R n){e:cK}(bc:e.ne=30- (n:Int)){b:UInt8}{t:aa}{pd:ao}(h:dS e (b::t) pd):
  Me e b t pd (cA (a7 false n) (if i then some (eF (a7 false n)) else none) (b::t) pd) (zQ R (e.st (b::t) pd) i):=by
 have j:t<:+b::t:=ee b t;have D:=iP h.b0 h.sfx;have v:W (ax e.S (b::t)+1)=ax e.S t:=D;unfold zQ a8;have bs:0<=(e.st (b::t) pd).2.1/\(e.st (b::t) pd).2.1<((e.st (b::t) pd).1.length:Int):=h4 h.sfx;rw[bZ bs];have E:at' (e.st (b::t) pd).1 (e.st (b::t) pd).2.1=b:=jC h.sfx;simp only[E,mN,q1,n0,n1];unfold cA;simp only;by_cases k:b=92
 ·subst k;simp only[bz,aK,cH];have F:min (W (ax e.S (92::t)+2)) (e.S.length:Int)=ax e.S (t.drop 1):=by
   have hl:=eL h.sfx;have N:=h.b0;cases t with
   |nil=>
    have:W (ax e.S [92]+2)=(e.S.length:Int)+1:=by grind[ax,dV,List.length_singleton]
    grind[iu]
   |cons c u=>have O:W (ax e.S (92::c::u)+2)=ax e.S u:=ku (w:=[92,c]) h.b0 h.sfx;grind[oV]
  refine⟨lK 1 t,h.mono ((lK 1 t).trans j),.inl ?_⟩;show some (Sum.inr (true,e.S,min (W (ax e.S (92::t)+2)) (e.S.length:Int),pd,e.ne,e.op,e.iH))=_;rw[F];rfl
 rw[aP k];simp only[k,bF,aU];have z:∀(o:Option aa)(x:aa),(∀q,o=some q->q<:+t)->Me e b t pd (match o with|some r'=>dD.ok () r' pd|none=> .more [x] x pd)
   (bif decide (kX e.S o<0) then a_ (wP ((e.st (b::t) pd).1,kX e.S o,(e.st (b::t) pd).2.2.1,(e.st (b::t) pd).2.2.2.1,(e.st (b::t) pd).2.2.2.2.1,(e.st (b::t) pd).2.2.2.2.2) x) (λx=>x) (λy=>Empty.elim y)
    else some (.inr (true,(e.st (b::t) pd).1,kX e.S o,(e.st (b::t) pd).2.2.1,(e.st (b::t) pd).2.2.2.1,(e.st (b::t) pd).2.2.2.2.1,(e.st (b::t) pd).2.2.2.2.2))):=by
  intro o x l;cases o with
  |none=>simp only[kX,show((-1:Int)<0) from by decide,bz,aK];exact Ma rfl rfl h.xg λ_=>rfl
  |some q=>
   have d:=l q rfl;have h0:¬ax e.S q<0:=by have:=eL (d.trans (j.trans h.sfx));grind[ax]
   simp only[kX,h0,bF,aU];exact⟨d,h.mono (d.trans j),.inl rfl⟩
 have G:BM (e.st (b::t) pd).1 (W ((e.st (b::t) pd).2.1+1))=some (kX e.S (gW t)):=by show BM e.S (W (ax e.S (b::t)+1))=_;rw[v];exact akp h.b0 (dZ h.sfx)
 have H:vz (e.st (b::t) pd).1 (W ((e.st (b::t) pd).2.1+1))=some (kX e.S (gk t)):=by show vz e.S (W (ax e.S (b::t)+1))=_;rw[v];exact Yu h.b0 (dZ h.sfx)
 have A:BA (e.st (b::t) pd).1 (e.st (b::t) pd).2.1=some (fQ (b::t)):=Yl h.b0 h.sfx
 have I:∀(m:dD Unit)(y:Option (bp an an)),aX e t m (λ_=>e.st) y->Me e b t pd m (a_ y (λx=>x) λy=>some (.inr (true,y.1,y.2.1,y.2.2.1,y.2.2.2.1,y.2.2.2.2.1,y.2.2.2.2.2))):=by
  intro m y hm;cases m with
  |ok a r1 aD=>obtain⟨f,g,J⟩:=hm;exact⟨f,g,.inl (by rw[e5 J])⟩
  |more op nd ds=>obtain⟨st,f,g⟩:=hm;exact⟨st,hL f,g⟩
  |bad q=>obtain⟨f,st,g⟩:=hm;exact⟨f,st,hL g⟩
  |deep q=>trivial
 have K:Me e b t pd (dD.ok () t pd) (some (.inr (false,e.st (b::t) pd))):=⟨fT,h.mono j,.inr ⟨rfl,rfl,rfl⟩⟩;by_cases r:b=96
 ·subst r;simp only[bz,aK,cH,show¬((96:UInt8)=39) by decide,bF,aU];rw[G,aO rfl];unfold jr;exact z (gW t) [96] λq d=>E9 _ _ q (cX _) d
 rw[aP r];simp only[r,bF,aU];cases i with
 |true=>
  by_cases B:b=39
  ·subst B;simp only[bz,aK,cH];have s:fQ (39::t)=false:=by rfl
   rw[s,H,aO rfl];unfold jr;exact z (gk t) [39] λq d=>Av _ q d
  simp only[B,bF,aU];by_cases C:b=34
  ·subst C;have s:fQ (34::t)=false:=by rfl
   rw[s];simp only[bz,aK,cH,eB,cr,show¬((34:UInt8)=39) by decide];exact I _ _ (akr (gJ rfl) bc h)
  simp only[C,bF,aU];rw[A,aO rfl];cases l:fQ (b::t) with
  |true=>simp_all[aK,cH,YB]
  |false=>grind
 |false=>
  have L:∀p:Prop,∀[Decidable p],(bif decide p then false else false)=false:=by simp
  simp only[L,aU];rw[A,aO rfl];cases l:fQ (b::t) with
  |true=>simp_all[aK,cH,YB]
  |false=>grind
theorem YD{R:bg}{n:Nat}(v:Below R n)(d:Bool)(gJ:d=true->CJ R n){e:cK}(bc:e.ne=30- (n:Int))(c:UInt8):
  qx e (iX c (cA (a7 false n) (if d then some (eF (a7 false n)) else none))) (λ_=>e.st) (λx=>HI R x c d):=by
 intro r pd h;unfold iX HI;refine aX.rep (en:=λ_ r pd=>e.st r pd) (λk s r1 aD ad hk=>?_) bB () r pd (lq (lL (eL h.sfx) h.b0)) h;unfold Qu a8;cases r1 with
 |nil=>
  have hl:decide (((e.st [] aD).1.length:Int)<=(e.st [] aD).2.1)=true:=by simp[cK.st,iu]
  show aX e [] (cP _ [] (b3 [] [] aD)) _ (bif decide (((e.st [] aD).1.length:Int)<=(e.st [] aD).2.1) then _ else _);rw[hl];exact aX.Yj (k:=λy=>Empty.elim y) (f:=λx=>(x.1,x.2.1,aD,x.2.2.2.1,e.op,x.2.2.2.2.2)) c3.k rfl rfl
 |cons b t=>
  have hl:decide (((e.st (b::t) aD).1.length:Int)<=(e.st (b::t) aD).2.1)=false:=by grind[ng,ax,cK.st]
  show aX e (b::t) (cP _ (b::t) (if b=c then _ else _)) _ (bif decide (((e.st (b::t) aD).1.length:Int)<=(e.st (b::t) aD).2.1) then _ else _);rw[hl];simp only[aU];refine aX.dW ?_ (bZ (h4 ad.sfx));have w:at' (e.st (b::t) aD).1 (e.st (b::t) aD).2.1=b:=jC ad.sfx;have l:t<:+b::t:=ee b t;by_cases aF:b=c
  ·subst aF;rw[bh rfl];refine aX.dW ?_ (show(bif decide (((at' (e.st (b::t) aD).1 (e.st (b::t) aD).2.1).toNat:Int)=(b.toNat:Int)) then _ else _)=some (.inr (e.S,W (ax e.S (b::t)+1),aD,e.ne,e.op,e.iH)) by grind);rw[iP ad.b0 ad.sfx];exact aX.inr l (ad.mono l) rfl
  ·rw[aP aF];have aG:decide (((at' (e.st (b::t) aD).1 (e.st (b::t) aD).2.1).toNat:Int)=(c.toNat:Int))=false:=by grind[q2]
   refine aX.dW (y:=a_ (zQ R (e.st (b::t) aD) d) (λx=>x) λz=>bif !z.1 then k (z.2.1,W (z.2.2.1+1),z.2.2.2.1,z.2.2.2.2.1,z.2.2.2.2.2.1,z.2.2.2.2.2.2) else k z.2) ?_ (by show(bif decide (((at' (e.st (b::t) aD).1 (e.st (b::t) aD).2.1).toNat:Int)=(c.toNat:Int)) then _ else _)=_;rw[aG];rfl)
   have aB:=YC v d gJ bc ad;unfold ae;cases hm:cA (a7 false n) (if d=true then some (eF (a7 false n)) else none) (b::t) aD with
   |ok a m o=>
    rw[hm] at aB;obtain⟨g,i,j⟩:=aB;have p:m.length<(b::t).length:=by grind
    refine aX.inl p ?_;have u:=hk () m o (g.trans l) i p;rcases j with j|⟨j,rfl,rfl⟩
    ·rw[e5 j];exact u
    ·rw[e5 j];show aX e _ _ _ (k (e.S,W (ax e.S (b::m)+1),o,e.ne,e.op,e.iH));rw[iP ad.b0 ad.sfx];exact u
   |more op nd ds=>rw[hm] at aB;obtain⟨st,g,i⟩:=aB;exact⟨st,hL g,i⟩
   |bad q=>rw[hm] at aB;obtain⟨g,st,i⟩:=aB;exact⟨g,st,hL i⟩
   |deep q=>trivial
theorem akv{k n:Nat}(a:Below (kF k) n):CJ (kF (k+1)) n:=⟨λe bc=>YD a false (λh=>by cases h) bc 34⟩
theorem akw{k n:Nat}(a:Below (kF k) n)(gJ:CJ (kF k) n):Md (kF (k+1)) n:=⟨λe bc=>YD a true (λ_=>gJ) bc 125⟩
structure tB(R:bg)(n:Nat):Prop extends Below R n where
 u0:CJ R n
theorem Mf{t:Tok}:(jj t).1=3↔ ∃w p,t= .word w p:=by cases t<;>simp[jj]
def akx:an->Option (bp an an):=λx=>bif decide (x.2.1=(x.1.length:Int)) then a_ (rm x) (λy=>(y.1,y.2.1,x.2.2.1,y.2.2.2.1,x.2.2.2.2.1,y.2.2.2.2.2)) λy=>Empty.elim y else some (.inr x)
theorem Mg{R:bg}{n:Nat}(hA:tB R n){e:cK}(bc:e.ne=30- (n:Int)){r:aa}{pd:ao}(h:dS e r pd)(v:bq r=some r){w:aa}{p:Bool}(i:ar r= .word w p):
  aX e r (cI (a7 false n) r pd) (λ_=>e.st) (k9 R (e.st r pd)):=by
 have e0:k9 R (e.st r pd)=fixF (KN R akx) bB (e.st r pd):=by
  unfold k9 a8;refine(e5 ((kW e).some h v)).trans ?_;have:(jj (ar r)).1=3:=by rw[i];rfl
  simp only[this,bz,g8,aU];rfl
 rw[e0];unfold cI;refine aX.rep (en:=λ_ r pd=>e.st r pd) (λk s r1 aD ad hk=>?_) bB () r pd (lq (lL (eL h.sfx) h.b0)) h;unfold KN a8;have A:wL (e.st r1 aD).1 (e.st r1 aD).2.1=some (cW r1):=R1 ad.b0 ad.sfx;refine aX.dW ?_ (aO A);cases r1 with
 |nil=>
  have hl:decide ((e.st [] aD).2.1=((e.st [] aD).1.length:Int))=true:=by simp[cK.st,iu]
  show aX e [] (cP _ [] (b3 [] [] aD)) _ (bif decide ((e.st [] aD).2.1=((e.st [] aD).1.length:Int)) then _ else _);rw[hl];exact aX.Yj (k:=λy=>Empty.elim y) (f:=λx=>(x.1,x.2.1,aD,x.2.2.2.1,e.op,x.2.2.2.2.2)) c3.k rfl rfl
 |cons b t=>
  have i:t<:+b::t:=ee b t;simp only;by_cases j:cW (b::t)=true
  ·rw[bh j,j];have hl:decide ((e.st (b::t) aD).2.1=((e.st (b::t) aD).1.length:Int))=false:=by simp[cK.st,yN]
   show aX e (b::t) (cP _ (b::t) (aY (.inr ()) (b::t) aD)) _ (bif decide ((e.st (b::t) aD).2.1=((e.st (b::t) aD).1.length:Int)) then _ else _);rw[hl];exact aX.inr fT ad rfl
  ·have B:cW (b::t)=false:=by grind
   rw[aP j,B];refine aX.dW (y:=a_ (zQ R (e.st (b::t) aD) true) (λx=>x) λz=>bif !z.1 then k (z.2.1,W (z.2.2.1+1),z.2.2.2.1,z.2.2.2.2.1,z.2.2.2.2.2.1,z.2.2.2.2.2.2) else k z.2) ?_ rfl;have aB:=YC hA.toBelow true (λ_=>hA.u0) bc ad;unfold ae;simp only[cH] at aB;cases hm:cA (a7 false n) (some (eF (a7 false n))) (b::t) aD with
   |ok a l m=>
    rw[hm] at aB;obtain⟨c,d,g⟩:=aB;have o:l.length<(b::t).length:=by grind
    refine aX.inl o ?_;have u:=hk () l m (c.trans i) d o;rcases g with g|⟨g,rfl,rfl⟩
    ·rw[e5 g];exact u
    ·rw[e5 g];show aX e _ _ _ (k (e.S,W (ax e.S (b::l)+1),m,e.ne,e.op,e.iH));rw[iP ad.b0 ad.sfx];exact u
   |more op nd ds=>rw[hm] at aB;obtain⟨st,c,d⟩:=aB;exact⟨st,hL c,d⟩
   |bad q=>rw[hm] at aB;obtain⟨c,st,d⟩:=aB;exact⟨c,st,hL d⟩
   |deep q=>trivial
theorem aky{α β:Type}{e:cK}{r0 r:aa}{pd:ao}{x:aa}{cv:α->aa->ao->β}{f:an->an}{k:Empty->Option (bp an β)}(h:dS e r pd)(b:bq r=some r)(hf:∀st,(f st).2.2.2.2.1=st.2.2.2.2.1\/(f st).2.2.2.2.1=e.op):
  aX e r0 ((if ar r= .eof then b3 x else bK:ak α) r pd) cv (a_ (kD (e.st r pd)) f k):=by
 by_cases a:ar r= .eof
 ·rw[bh a];exact(((tx h b).1 a).bind hf).rJ
 ·rw[aP a];exact⟨h.sfx,_,hL ((tx h b).2 a)⟩
theorem Mh{α β:Type}{m:ak α}{e:cK}{r0 r:aa}{pd:ao}{x:aa}{cv:α->aa->ao->β}{f:an->an}{k:Empty->Option (bp an β)}(h:dS e r pd)(a:bq r=some r)(ad:ar r= .eof->m=b3 x)(b:ar r≠ .eof->m=bK)(hf:∀st,(f st).2.2.2.2.1=st.2.2.2.2.1\/(f st).2.2.2.2.1=e.op):
  aX e r0 (m r pd) cv (a_ (kD (e.st r pd)) f k):=by
 have:=aky (α:=α) (r0:=r0) (x:=x) (cv:=cv) (f:=f) (k:=k) h a hf;by_cases c:ar r= .eof
 ·simp_all
 simp_all
theorem R8{R:bg}{n:Nat}(hA:tB R n){e:cK}(bc:e.ne=30- (n:Int))(x:aa):qx e (jM (a7 false n) x) (λ_=>e.st) (k9 R):=by
 intro r pd h;unfold jM;cases a:bq r with
 |none=>rw[db (iB a)];unfold k9 a8;exact(((kW e).none h a).bind λ_=> .inr rfl).rJ
 |some r'=>
  rw[aM (cb a)];have g:=dU a;have c:=h.mono g;have d:=kG _ _ _ (cX _) a;by_cases b:∃w p,ar r'= .word w p
  ·obtain⟨w,p,b⟩:=b;rw[b];have f:k9 R (e.st r pd)=k9 R (e.st r' pd):=by unfold k9 a8;refine(e5 ((kW e).some h a)).trans (Eq.symm ((e5 ((kW e).some c d)).trans ?_));rfl
   rw[f];exact(Mg hA bc c d b).mono g
  ·have i:decide ((jj (ar r')).1=3)=false:=by grind[decide_eq_false_iff_not,Mf]
   have f:k9 R (e.st r pd)=a_ (kD (e.st r' pd)) (λx=>(x.1,x.2.1,pd,x.2.2.2.1,e.op,x.2.2.2.2.2)) λy=>Empty.elim y:=by unfold k9 a8;refine(e5 ((kW e).some h a)).trans ?_;simp only[i,e7,aK];rfl
   rw[f];refine Mh (x:=x) c d (λhk=>by rw[hk]) (λhk=>?_) λ_=> .inr rfl;grind
theorem Fm:dl [] 0=some []:=by simp[dl]
theorem R9(q:UInt8)(a:q=0\/q=34)(c:UInt8)(u:aa):dl (92::c::u) q=if c=10 then dl u q else if q=0\/c=36\/c=34\/c=92\/c=96 then(dl u q).map (c::·) else(dl (c::u) q).map (92::·):=by rw[dl];grind
theorem akz(q:UInt8)(a:q=0\/q=34):dl [92] q=none:=by rw[dl];rcases a with rfl|rfl<;>simp
theorem Mi(q:UInt8)(a:q=0\/q=34)(b:UInt8)(c:b=36\/b=96)(u:aa):dl (b::u) q=none:=by rw[dl.eq_def];grind
theorem YE(u:aa):dl (34::u) 34=dl u 0:=by grind[dl.eq_def]
theorem CL(u:aa):dl (34::u) 0=dl u 34:=by grind[dl.eq_def]
theorem R_(u:aa):dl (39::u) 0=dl u 39:=by grind[dl.eq_def]
theorem II(q:UInt8)(a:q=0\/q=34)(b:UInt8)(ad:b≠92)(c:b≠36)(d:b≠96)(e:b≠34)(f:q=0->b≠39)(u:aa):dl (b::u) q=(dl u q).map (b::·):=by rw[dl.eq_def];grind
theorem Sa(c:UInt8)(u:aa):dl (92::c::u) 34=(dl u 34).map (Ar c++·):=by
 rw[R9 34 (.inr rfl)];unfold Ar;by_cases h:c=36\/c=34\/c=92\/c=96
 ·grind
 ·rw[aP h];by_cases a:c=10
  ·simp_all
  ·rw[aP a,aP a,aP (by grind)];simp only[not_or] at h;rw[II 34 (.inr rfl) c h.2.2.1 h.1 h.2.2.2 h.2.1 (λb=>absurd b (by decide))];cases dl u 34<;>rfl
theorem Mj(t:aa):eG (34::t)= .closed [] t:=by simp[eG.eq_def]
theorem Sb(b:UInt8)(a:b=36\/b=96)(t:aa):eG (b::t)= .part:=by rw[eG.eq_def];grind
theorem Sc:eG [92]= .part:=by rfl
theorem Mk(c:UInt8)(u:aa):eG (92::c::u)=(eG u).add (Ar c):=by rfl
theorem Ml(b:UInt8)(ad:b≠34)(a:¬(b=36\/b=96))(c:b≠92)(t:aa):eG (b::t)=(eG t).add [b]:=by grind[eG.eq_def]
theorem YF:∀(n:Nat)(t:aa),t.length<=n->match eG t with
  | .closed o r=>∃a,t=a++r/\∀v,dl (a++v) 34=(dl v 0).map (o++·)
  | .open_ o=>dl (t++[34]) 34=some o
  | .part=>dl (t++[34]) 34=none:=by
 intro n;induction n with
 |zero=>intro t h;have:t=[]:=n7.1 (by omega);subst this;show dl [34] 34=some [];rw[YE,Fm]
 |succ n i=>
  intro t aw;cases t with
  |nil=>grind
  |cons b t=>
   have j:t.length<=n:=by grind
   have d:∀(x u p:aa),u.length<=n->b::t=p++u->eG (b::t)=(eG u).add x->(∀v,dl (p++v) 34=(dl v 34).map (x++·))->match eG (b::t) with
     | .closed o r=>∃a,b::t=a++r/\∀v,dl (a++v) 34=(dl v 0).map (o++·)
     | .open_ o=>dl (b::t++[34]) 34=some o
     | .part=>dl (b::t++[34]) 34=none:=by
    intro x u p hu he k aG;have:=i u hu;rw[k];cases hk:eG u with
    |closed o r=>rw[hk] at this;obtain⟨a,rfl,l⟩:=this;refine⟨p++a,by grind,λv=>?_⟩;rw[tS,aG,l];cases dl v 0<;>simp
    |part=>grind[jh.add,List.append_assoc]
    |open_ o=>grind[jh.add,List.append_assoc]
   by_cases e:b=34
   ·subst e;rw[Mj];exact⟨[34],rfl,λv=>by simp[YE]⟩
   by_cases aB:b=36\/b=96
   ·rw[Sb b aB];exact Mi 34 (.inr rfl) b aB _
   by_cases f:b=92
   ·subst f;cases t with
    |nil=>simp[Sc,dl,Sa]
    |cons c u=>exact d (Ar c) u [92,c] (by grind) rfl (Mk c u) λv=>Sa c v
   ·have g:b≠36/\b≠96:=by grind
    refine d [b] t [b] j rfl (Ml b e aB f t) λv=>?_;show dl (b::v) 34=_;rw[II 34 (.inr rfl) b f g.1 g.2 e (λm=>absurd m (by decide))];rfl
theorem IJ:∀(t:aa),match gk t with
  |some r=>∃a,t=a++39::r/\a=t.take (t.length-r.length-1)/\∀v,dl (a++39::v) 39=(dl v 0).map (a++·)
  |none=>dl t 39=none
 |[]=>by show dl [] 39=none;simp[dl]
 |b::t=>by
  have c:=IJ t;unfold gk;by_cases d:b=39
  ·subst d;rw[bh rfl];refine⟨[],rfl,by simp,λv=>?_⟩;show dl (39::v) 39=_;rw[dl.eq_def];simp
  ·rw[aP d]
   have aG:∀v,dl (b::v) 39=(dl v 39).map (b::·):=by grind[dl.eq_def]
   cases e:gk t with
   |none=>grind
   |some r=>
    rw[e] at c;obtain⟨a,ad,g,f⟩:=c;have hl:t.length=a.length+1+r.length:=by grind
    refine⟨b::a,by grind,?_,λv=>?_⟩
    ·have h:(b::t).length-r.length-1=(t.length-r.length-1)+1:=by grind
     grind
    ·show dl (b::(a++39::v)) 39=_;rw[aG,f];cases dl v 0<;>rfl
def gl:aa->Option (aa×aa)
 |[]=>some ([],[])
 |b::t=>if cW (b::t) then some (b::t,[]) else
  if b=92 then match t with
   |[]=>some ([],[])
   |c::u=>gl u
  else if b=39 then match h:gk t with
   |none=>none
   |some r=>gl r
  else if b=36\/b=96 then none else
  if b=34 then match h:eG t with
   | .part=>some ([],[34])
   | .open_ o=>some ([],[34])
   | .closed o r=>gl r
  else gl t
termination_by r=>r.length
decreasing_by
 all_goals simp_wf
 ·omega
 ·have:=yI t r h;omega
 ·have:=EX t o r h;omega
theorem YG:∀(n:Nat)(r:aa),r.length<=n->match gl r with
  |none=>du r=none
  |some (q,a)=>∃w,r=w++q/\du r=(dl (w++a) 0).map λd=>(d,q,a):=by
 intro n;induction n with
 |zero=>intro r h;have:r=[]:=n7.1 (by omega);subst this;rw[gl,du];exact⟨[],rfl,by simp[Fm]⟩
 |succ n C=>
  intro r aw;cases r with
  |nil=>grind
  |cons b t=>
   have D:t.length<=n:=by grind
   have go:∀(u p x:aa),u.length<=n->b::t=p++u->gl (b::t)=gl u->du (b::t)=(du u).map (λq=>(x++q.1,q.2))->(∀v,dl (p++v) 0=(dl v 0).map (x++·))->match gl (b::t) with
     |none=>du (b::t)=none
     |some (q,a)=>∃w,b::t=w++q/\du (b::t)=(dl (w++a) 0).map λd=>(d,q,a):=by
    intro u p x hu he ad k l;have:=C u hu;rw[ad,k];cases e:gl u with
    |none=>grind
    |some y=>obtain⟨q,a⟩:=y;rw[e] at this;obtain⟨w,rfl,E⟩:=this;refine⟨p++w,by grind,?_⟩;rw[E,tS,l];cases dl (w++a) 0<;>rfl
   by_cases F:cW (b::t)=true
   ·have f:gl (b::t)=some (b::t,[]):=by rw[gl.eq_def];grind
    have g:du (b::t)=some ([],b::t,[]):=by rw[du.eq_def];grind
    rw[f,g];exact⟨[],rfl,by simp[Fm]⟩
   by_cases m:b=92
   ·subst m;cases t with
    |nil=>
     have f:gl [92]=some ([],[]):=by rw[gl.eq_def];grind
     have g:du [92]=none:=by rw[du.eq_def];grind
     rw[f,g];exact⟨[92],rfl,by rw[rS,akz 0 (.inl rfl)];rfl⟩
    |cons c u=>
     refine go u [92,c] (if c=10 then [] else [c]) (by grind) rfl (by rw[gl.eq_def];grind) (by rw[du.eq_def];grind) λv=>?_;show dl (92::c::v) 0=_;rw[R9 0 (.inl rfl)];by_cases aF:c=10
     ·simp[aF]
     grind
   by_cases s:b=39
   ·subst s;have z:=IJ t;cases e:gk t with
    |none=>
     have f:gl (39::t)=none:=by rw[gl.eq_def];grind
     have g:du (39::t)=none:=by rw[du.eq_def];grind
     grind
    |some r=>
     rw[e] at z;obtain⟨i,ad,k,l⟩:=z
     refine go r (39::i++[39]) i (by grind) (by grind) (by
      rw[gl.eq_def];grind) (by
      rw[du.eq_def];grind) λv=>?_
     grind[R_]
   by_cases aB:b=36\/b=96
   ·have f:gl (b::t)=none:=by rw[gl.eq_def];grind
    have g:du (b::t)=none:=by rw[du.eq_def];grind
    grind
   by_cases A:b=34
   ·subst A;have j:=YF _ t (cX _);cases e:eG t with
    |closed o r=>
     rw[e] at j;obtain⟨i,ad,k⟩:=j
     refine go r (34::i) o (by grind) (by grind) (by
      rw[gl.eq_def];grind) (by
      rw[du.eq_def];grind) λv=>?_
     grind[dl,CL]
    |part=>
     rw[e] at j;have f:gl (34::t)=some ([],[34]):=by rw[gl.eq_def];grind
     have g:du (34::t)=none:=by rw[du.eq_def];grind
     grind[dl,CL]
    |open_ o=>
     rw[e] at j;have f:gl (34::t)=some ([],[34]):=by rw[gl.eq_def];grind
     have g:du (34::t)=some (o,[],[34]):=by rw[du.eq_def];grind
     grind[dl,CL]
   ·have B:b≠36/\b≠96:=by grind
    refine go t [b] [b] D rfl (by rw[gl.eq_def];grind) (by rw[du.eq_def];grind) λv=>?_;show dl (b::v) 0=_;rw[II 0 (.inl rfl) b m B.1 B.2 A (λ_=>s)];rfl
def tC(S a:aa):jh->aa×Int
 | .closed o r=>(a++o,ax S r)
 |_=>([], -1)
theorem YH(S a x:aa)(q:jh):tC S a (q.add x)=tC S (a++x) q:=by cases q<;>simp[jh.add,tC]
theorem akA{S:aa}(di:S.length<=1000000):∀(n:Nat)(r a:aa),r.length<n->r<:+S->a.length+r.length<=2000000->fixF (si S λ_=>some ([],(-1))) n (a,ax S r)=some (tC S a (eG r)):=by
 intro n;induction n with
 |zero=>omega
 |succ n f=>
  intro r a aw d p;rw[e4];generalize fixF (si S _) n=k at f;unfold si a8;cases r with
  |nil=>simp[iu,eG,tC]
  |cons b t=>
   have q:t.length<n:=by grind
   have s:(b::t).length=t.length+1:=rfl;have i:=iP di d;simp only[ng d,bz,aK];rw[bZ ⟨(h4 d).1,trivial⟩];simp only[jC d,i,n1,qv,n0,mN];by_cases g:b=34
   ·grind[Mj,tC]
   simp only[g,bF,aU];by_cases aB:b=36\/b=96
   ·rw[Sb b aB];rcases aB with rfl|rfl<;>simp[tC]
   have h:b≠36/\b≠96:=by grind
   simp only[h.1,h.2,bF,aU];by_cases e:b=92
   ·subst e;simp only[bz,aK];cases t with
    |nil=>simp[iu,Sc,tC]
    |cons c u=>
     have bc:¬ax S (c::u)=(S.length:Int):=by simp[yN]
     have j:=iP di (dZ d);have l:(c::u).length=u.length+1:=rfl;have m:u.length<n:=by omega
     simp only[bc,bF,aU];rw[bZ (h4 (dZ d))];simp only[jC (dZ d),j,pK];rw[Mk,YH];have v:=λx (w:x.length<=2)=>f u (a++x) m (dZ (dZ d)) (by grind);unfold Ar;by_cases aF:c=36\/c=34\/c=92\/c=96
     ·rw[bh aF];have:(bif bif bif decide (c=36) then true else decide (c=34) then true else decide (c=92) then true else decide (c=96))=true:=by grind
      rw[this];simp only[aK];grind[bZ,List.length_singleton]
     ·rw[aP aF];have:(bif bif bif decide (c=36) then true else decide (c=34) then true else decide (c=92) then true else decide (c=96))=false:=by grind
      rw[this];by_cases o:c=10
      ·grind
      ·simp only[o,bF,e7,aK,aU,cr];grind[bZ,List.length_cons,List.length_nil]
   ·simp only[e,bF,aU];rw[bZ ⟨(h4 d).1,trivial⟩,bZ (by grind),Ml b g aB e,YH];grind[dZ,List.length_append,List.length_singleton]
theorem akB{S r:aa}(di:S.length<=1000000)(a:r<:+S):BW S (ax S r) []=some (tC S [] (eG r)):=by unfold BW a8;grind[eL,akA,lq,Nat.le_trans,List.length_nil]
def YI(S:aa)(st:Int)(pd:ao)(op:bl)(j:aa×Int->Option (bp an an))(y:Option (bp an an)):Option (aa×aa)->Prop
 |none=>∃s:an,y=some (.inl (2,st,s))
 |some (q,b)=>q<:+S/\∃a,(a=ax S q\/q=[]/\a=(S.length:Int)+1)/\y=j (b,a)
theorem akC{x0:an}{S:aa}{st a2 a3:Int}{j:aa×Int->Option (bp an an)}(di:S.length<=1000000):∀(n:Nat)(r:aa),r.length+1<n->r<:+S->
  YI S st x0.2.2.1 x0.2.2.2.2.1 j (fixF (yj x0 S st a2 a3 j) n ([],ax S r)) (gl r):=by
 intro n;induction n with
 |zero=>omega
 |succ n h=>
  intro r aw d
  have i:∀(l:aa)(p:Int),n≠0->((S.length:Int)<=p/\p<=(S.length:Int)+1)->fixF (yj x0 S st a2 a3 j) n (l,p)=j (l,p):=by
   intro l p D aB
   obtain⟨m,rfl⟩:∃m,n=m+1:=⟨n-1,by omega⟩
   rw[e4];unfold yj;dsimp only;have:wL S p=some true:=by simp_all[wL,bz,aK,cY,a4]
   rw[this,aO rfl];rfl
  rw[e4];generalize fixF (yj x0 S st a2 a3 j) n=k at h i;unfold yj a8;dsimp only;rw[R1 di d,aO rfl];have E:=eL d;cases r with
  |nil=>rw[gl];exact⟨d,_,.inl rfl,by rfl⟩
  |cons b t=>
   have F:(b::t).length=t.length+1:=rfl;have G:t.length+1<n:=by omega
   have A:=iP di d;by_cases B:cW (b::t)=true
   ·rw[B];have a:gl (b::t)=some (b::t,[]):=by rw[gl.eq_def];grind
    rw[a];exact⟨d,_,.inl rfl,by simp⟩
   have C:cW (b::t)=false:=by grind
   rw[C];simp only[e7,aK,bz];rw[bZ (h4 d)];simp only[jC d,mN,q1,qv,n0,n1,A];by_cases s:b=92
   ·subst s;simp only[bz,aK];cases t with
    |nil=>
     have a:gl [92]=some ([],[]):=by rw[gl.eq_def];grind
     rw[a];have:W (ax S [92]+2)=(S.length:Int)+1:=by grind[ax,dV,List.length_singleton]
     rw[this];exact⟨oA,_,.inr ⟨rfl,rfl⟩,i _ _ (by omega) (by omega)⟩
    |cons c u=>
     have a:gl (92::c::u)=gl u:=by rw[gl.eq_def];grind
     have v:W (ax S (92::c::u)+2)=ax S u:=ku (w:=[92,c]) di d;grind[List.length_cons,dZ]
   simp only[s,bF,aU];by_cases x:b=39
   ·subst x;simp only[bz,aK];rw[Yu di (dZ d),aO rfl];cases f:gk t with
    |none=>
     have a:gl (39::t)=none:=by rw[gl.eq_def];grind
     rw[a];simp only[kX,show((-1:Int)<0) from by decide,bz,aK];exact⟨_,rfl⟩
    |some e=>
     have a:gl (39::t)=gl e:=by rw[gl.eq_def];grind
     rw[a];have g:=(Av _ _ f).trans (dZ d);have h0:¬ax S e<0:=by grind[eL,ax]
     simp only[kX,h0,bF,aU];exact h e (by have:=yI t e f;omega) g
   simp only[x,bF,aU];by_cases aB:b=36\/b=96
   ·have a:gl (b::t)=none:=by rw[gl.eq_def];grind
    rw[a];rcases aB with rfl|rfl
    ·simp only[bz,aK];exact⟨_,rfl⟩
    ·simp only[show¬((96:UInt8)=36) by decide,bz,bF,aK,aU];exact⟨_,rfl⟩
   have y:b≠36/\b≠96:=by grind
   simp only[y.1,y.2,bF,aU];by_cases z:b=34
   ·subst z;simp only[bz,aK];rw[akB di (dZ d),aO rfl]
    have H:∀q,eG t=q->(∀o r,q≠ .closed o r)->YI S st x0.2.2.1 x0.2.2.2.2.1 j (bif decide ((tC S [] q).2<0) then k ([34],(S.length:Int)) else k ([],(tC S [] q).2)) (gl (34::t)):=by
     intro q g aF;have a:gl (34::t)=some ([],[34]):=by rw[gl.eq_def];grind
     rw[a];have v:(tC S [] q).2= -1:=by cases q with
      |closed o r=>grind
      |_=>rfl
     rw[v];simp only[show((-1:Int)<0) from by decide,bz,aK];exact⟨oA,_,.inl (iu S).symm,i _ _ (by omega) (by omega)⟩
    cases f:eG t with
    |closed o e=>
     have a:gl (34::t)=gl e:=by rw[gl.eq_def];grind
     rw[a];have g:=(Rq _ _ _ _ (cX _) f).trans (dZ d);have h0:¬ax S e<0:=by grind[eL,ax]
     simp only[tC,h0,bF,aU];exact h e (by have:=EX t o e f;omega) g
    |part=>grind
    |open_ o=>grind
   ·have a:gl (b::t)=gl t:=by rw[gl.eq_def];grind
    rw[a];simp only[z,bF,aU];grind[dZ]
theorem Mm(s:aa)(b:UInt8):(0<=Lib.indexByte s b)↔s.contains b=true:=by
 induction s with
 |nil=>simp[Lib.indexByte]
 |cons c t a=>unfold Lib.indexByte;grind
def AA(m:Option aa):aa×Bool:=match m with
 |some d=>if d.contains 10 then([],false) else(d,true)
 |none=>([],false)
theorem Sd(l:aa)(hl:(l.length:Int)<=1048576):wW l=some (AA (dl l 0)):=by
 rw[aj_ l hl];unfold nZ AA;cases dl l 0 with
 |none=>rfl
 |some s=>
  simp only[sV];by_cases h:s.contains 10=true
  ·simp_all[bh,Mm]
  simp_all[aP,Mm]
theorem akD(l:aa)(hl:(l.length:Int)<=200000000):ED l=some (AA (dl l 0)):=by
 rw[aj9 l hl];unfold nZ AA;cases dl l 0 with
 |none=>rfl
 |some s=>
  simp only[sV];by_cases h:s.contains 10=true
  ·simp_all[bh,Mm]
  simp_all[aP,Mm]
theorem YJ(r q a:aa)(h:gl r=some (q,a)):a.length<=1:=by
 fun_induction gl r<;>simp_all
 all_goals grind
theorem YK{e:cK}{r:aa}{pd:ao}(tabs:Bool)(h:dS e r pd)(T:pd.length+r.length<e.S.length):aX e r (hB tabs r pd) (λ_=>e.st) (yk (e.st r pd) tabs):=by
 unfold hB;cases f:bq r with
 |none=>unfold yk a8;exact(((kW e).none h f).bind λ_=> .inr rfl).rJ
 |some r'=>
  have v:=dU f;have a:=h.mono v;have z:=kG _ _ _ (cX _) f;simp only;by_cases m:∃w p,ar r'= .word w p
  ·obtain⟨w,p,m⟩:=m;rw[m];simp only;unfold yk a8;refine aX.dW ?_ (e5 ((kW e).some h f));have A:(jj (ar r')).1=3:=by rw[m];rfl
   simp only[A,bz,g8,aU];generalize K:(λx:aa×Int=>_)=j;have g:=akC (x0:=e.st r pd) (S:=e.S) (st:=ax e.S r') (a2:=e.ne) (a3:=e.iH) (j:=j) h.b0 bB r' (by have:=eL a.sfx;have:=h.b0;grind[gm]) a.sfx;have i:=YG _ r' (cX _);show aX e r _ _ (fixF (yj (e.st r pd) e.S (ax e.S r') e.ne e.iH j) bB ([],ax e.S r'));generalize fixF (yj (e.st r pd) e.S (ax e.S r') e.ne e.iH j) bB ([],ax e.S r')=y at g;cases B:gl r' with
   |none=>rw[B] at g i;obtain⟨s,rfl⟩:=g;simp only at i;rw[i];exact⟨a.sfx,s,rfl⟩
   |some x=>
    obtain⟨q,b⟩:=x;rw[B] at g i;obtain⟨c,G,aG⟩:=i;obtain⟨L,k,aB,rfl⟩:=g;have C:q<:+r':=⟨c,G.symm⟩;have M:min k (e.S.length:Int)=ax e.S q:=by
     have:= @oV q e.S;rcases aB with rfl|⟨rfl,rfl⟩
     ·omega
     grind[iu]
    have N:ch e.S (ax e.S r') (ax e.S q)=c:=by rw[ID a.sfx C,G];simp
    have U:=eL a.sfx;have H:r'.length=c.length+q.length:=by grind
    have O:=v.length_le;have V:=h.b0;have W:b.length<=1:=YJ _ _ _ B;have D:((c++b).length:Int)<=1048576:=by grind
    rw[<-K];have E:min k ((e.st r' pd).1.length:Int)=ax e.S q:=M;simp only[E];have I:ax e.S r'<=ax e.S q/\0<=ax e.S r':=by grind[ax]
    refine aX.dW ?_ (bZ ⟨I.2,I.1,oV⟩);show aX e r _ _ (a4 ((((ch e.S (ax e.S r') (ax e.S q)).length+b.length:Nat):Int)<=9223372036854775807) (au (wW (ch e.S (ax e.S r') (ax e.S q)++b)) _));rw[N];refine aX.dW ?_ (bZ (by omega));rw[aG];cases F:dl (c++b) 0 with
    |none=>
     have l:wW (c++b)=some ([],false):=by rw[Sd _ D,F];rfl
     refine aX.dW ?_ (aO l);simp only[Option.map_none,e7,aK];refine aX.dW ?_ (bZ (λ_ n=>absurd n (by simp)));exact⟨a.sfx,_,rfl⟩
    |some d=>
     simp only[A8];by_cases t:d.contains 10=true
     ·have l:wW (c++b)=some ([],false):=by rw[Sd _ D,F];exact ma some (bh t)
      refine aX.dW ?_ (aO l);rw[bh t];simp only[e7,aK];refine aX.dW ?_ (bZ (λ_ n=>absurd n (by simp)));exact⟨a.sfx,_,rfl⟩
     have l:wW (c++b)=some (d,true):=by rw[Sd _ D,F];exact ma some (aP t)
     refine aX.dW ?_ (aO l);rw[aP t];simp only[g8,aU];have bs:(bif tabs then !decide (d=[]) else false)=true->(true:Bool)=true->(0:Int)<=0/\(0:Int)<(d.length:Int):=by
      intro n _;cases d with
      |nil=>grind
      |cons x y=>simp
     refine aX.dW ?_ (bZ (by grind))
     have P:(bif bif tabs then !decide (d=[]) else false then decide (((at' d 0).toNat:Int)=9) else false)=decide (tabs=true/\d.head?=some 9):=by
      cases tabs with
      |false=>simp
      |true=>
       cases d with
       |nil=>simp
       |cons x y=>simp[at',IB]
     rw[P];by_cases u:tabs=true/\d.head?=some 9
     ·rw[bh u];simp only[u,nJ,bz,aK];exact⟨a.sfx,_,rfl⟩
     rw[aP u];simp only[u,bF,aU];by_cases kf:b=[]
     ·subst kf;simp only[ne_eq,not_true,cr,bz,g8,aU];by_cases J:q=[]
      ·subst J;rw[bh rfl];have hle:decide ((e.S.length:Int)<=k)=true:=by
        rcases aB with rfl|⟨_,rfl⟩
        ·simp[iu]
        grind
       refine aX.dW ?_ (show(bif decide ((e.S.length:Int)<=k) then _ else _)=_ by rw[hle]);exact⟨_,rfl,by simp[cK.st]⟩
      ·rw[aP J];have Q:k=ax e.S q:=by grind
       subst Q;have hle:decide ((e.S.length:Int)<=ax e.S q)=false:=by grind[ax,yN,oV]
       refine aX.dW ?_ (show(bif decide ((e.S.length:Int)<=ax e.S q) then _ else _)=_ by rw[hle]);have X:=h.R5;have Y:=C.length_le;refine aX.dW ?_ (bZ (show pd.length+[(d,tabs)].length<=536870912 by grind));exact⟨C.trans v,⟨h.b0,L,by grind,by have:=h.ops;omega⟩,rfl⟩
     ·rw[bh kf];simp only[kf,bF,e7,aK];exact Ma rfl rfl h.xg λ_=>rfl
  ·have A:decide ((jj (ar r')).1=3)=false:=by grind[decide_eq_false_iff_not,Mf]
   have R:yk (e.st r pd) tabs=a_ (kD (e.st r' pd)) (λx=>(x.1,x.2.1,pd,x.2.2.2.1,e.op,x.2.2.2.2.2)) λy=>Empty.elim y:=by unfold yk a8;refine(e5 ((kW e).some h f)).trans ?_;simp only[A,e7,aK];rfl
   rw[R];cases hk:ar r' with
   |word w p=>grind
   |eof=>exact(((tx a z).1 hk).bind λ_=> .inr rfl).rJ
   |line=>exact⟨a.sfx,_,hL ((tx a z).2 (by grind))⟩
   |op o=>exact⟨a.sfx,_,hL ((tx a z).2 (by grind))⟩
theorem YN(b:UInt8):Ec (b.toNat:Int)=some (ca b):=by
 unfold Ec zV ca;have ad:((48:Int)<=(b.toNat:Int))=((48:UInt8)<=b):=by apply propext;rw[Dm];grind
 have a:((b.toNat:Int)<=(57:Int))=(b<=(57:UInt8)):=by apply propext;rw[Dm];grind
 grind[au]
theorem akF(w:aa)(d:w.length<=1000000):Eh w=some (!decide (w=[])&&w.all ca):=by
 have a:∀(n:Nat)(r:aa),r.length<n->r<:+w->fixF (Hz w λ_=>some (!(decide (w=[])))) n (ax w r)=some (!decide (w=[])&&r.all ca):=by
  intro n;induction n with
  |zero=>omega
  |succ n e=>
   intro r aw c;rw[e4];generalize fixF (Hz w _) n=k at e;unfold Hz;cases r with
   |nil=>simp[iu]
   |cons b t=>
    have f:=iP d c;simp only[ng c,bz,aK];rw[bZ ⟨(h4 c).1,trivial⟩,jC c,YN,aO rfl,f];cases g:ca b with
    |false=>grind
    |true=>simp only[g8,aU];grind[List.length_cons,dZ]
 unfold Eh a8;have:=a bB w (lq d) fT;grind[IA]
theorem AB{b:UInt8}(h:ca b=true):gb b=false/\b≠10/\b≠92/\b≠39/\b≠34/\b≠96/\b≠36/\b≠35/\oR b=false:=by
 have ad:(48:UInt8)<=b/\b<=(57:UInt8):=by grind[ca]
 rw[Dm,Dm] at ad;have a:(48:UInt8).toNat=48:=rfl;have c:(57:UInt8).toNat=57:=rfl;rw[a,c] at ad;have d:b=UInt8.ofNat b.toNat:=by simp
 generalize b.toNat=n at*;subst d;have:n=48\/n=49\/n=50\/n=51\/n=52\/n=53\/n=54\/n=55\/n=56\/n=57:=by omega
 rcases this with rfl|rfl|rfl|rfl|rfl|rfl|rfl|rfl|rfl|rfl<;>decide
theorem YO{b:UInt8}{t:aa}(h:ca b=true):cW (b::t)=false:=by obtain⟨ad,a,_,_,_,_,_,_,c⟩:=AB h;show(gb b||b==10||bt (b::t)!=[])=false;grind[nY]
theorem akG{b:UInt8}{t:aa}(h:ca b=true):fQ (b::t)=false:=by simp_all[AB,sD]
theorem YP:∀(r:aa),cW (r.dropWhile ca)=true->c5 r=(r.takeWhile ca,true)
 |[],_=>by decide
 |b::t,h=>by
  cases a:ca b with
  |true=>rw[T8 a] at h;obtain⟨ad,c,d,e,f,g,i,j,k⟩:=AB a;unfold c5;simp_all[YO,aP,akG,YP,List.takeWhile_cons_of_pos]
  |false=>simp_all[JB,c5,bh,Uc]
theorem Sg:∀(r w:aa),c5 r=(w,true)->cW (r.drop w.length)=true
 |[],w,h=>by simp[c5] at h;subst h;rfl
 |b::t,w,h=>by
  unfold c5 at h;split at h
  ·rename_i a;cases h;exact a
  ·split at h
   ·cases h
   ·split at h
    ·rename_i w' c;cases h;exact Sg t w' c
    ·cases h
def uR(r:aa):aa:=match ar r with
 | .word w true=>if(!decide (w=[])&&w.all ca) then r.drop w.length else r
 |_=>r
theorem akH{r:aa}(d:bq r=some r):(eZ (bt (r.dropWhile ca))=true->uR r=r.dropWhile ca)/\eZ (bt (uR r))=eZ (bt (r.dropWhile ca)):=by
 have g:eZ []=false:=by decide
 by_cases i:cW (r.dropWhile ca)=true
 ·have:uR r=r.dropWhile ca:=by
   cases r with
   |nil=>decide
   |cons b t=>
    cases e:ca b with
    |true=>
     obtain⟨ad,y,_,_,_,_,_,_,z⟩:=AB e;have a:ar (b::t)= .word ((b::t).takeWhile ca) true:=by show(if b=10 then Tok.line else if bt (b::t)≠[] then .op (bt (b::t)) else .word (c5 (b::t)).1 (c5 (b::t)).2)=_;simp_all[aP,nY,YP]
     unfold uR;rw[a];simp only;have j:¬(b::t).takeWhile ca=[]:=by simp_all
     have k:((b::t).takeWhile ca).all ca=true:=List.all_takeWhile;rw[k];simp only[j,bF,e7,Bool.and_self,cH];have:=Ub (p:=ca) (l:=b::t);grind
    |false=>
     rw[JB (by grind)] at i⊢;unfold uR;cases a:ar (b::t) with
     |word w p=>
      have m:gb b=false:=by
       cases n:gb b with
       |false=>rfl
       |true=>rw[Fg n] at d;have:=(dU d).length_le;grind
      grind[Io]
     |_=>rfl
  grind
 ·have o:cW (r.dropWhile ca)=false:=by grind
  have q:bt (r.dropWhile ca)=[]:=by
   cases A:r.dropWhile ca with
   |nil=>decide
   |cons c u=>grind[cW,Bool.or_eq_false_iff]
  rw[q,g];refine⟨λh=>absurd h (by decide),?_⟩;have s:uR r=r:=by
   unfold uR;cases a:ar r with
   |word w p=>
    cases p with
    |true=>
     simp only;by_cases x:(!decide (w=[])&&w.all ca)=true
     ·exfalso;simp only[g7] at x;cases r with
      |nil=>grind[ar]
      |cons b t=>
       have aB:c5 (b::t)=(w,true):=by have B:(if b=10 then Tok.line else if bt (b::t)≠[] then .op (bt (b::t)) else .word (c5 (b::t)).1 (c5 (b::t)).2)= .word w true:=a;grind
       obtain⟨v,f⟩:=(E4 _ _ aB).1;have he:=Sg _ _ aB;rw[<-f,o5] at he;rw[<-f,List.dropWhile_append_of_pos (by grind)] at o;cases v with
       |nil=>simp_all
       |cons c u=>grind[ca,YO,List.dropWhile_cons_of_neg]
     grind
    |false=>rfl
   |_=>rfl
  rw[s];cases r with
  |nil=>simp_all
  |cons b t=>
   cases e:ca b with
   |true=>simp_all[nY,AB]
   |false=>simp_all
theorem Sh{o:aa}(h:eZ o=true):1<=o.length:=by
 cases o with
 |nil=>exact absurd h (by decide)
 |cons a b=>simp
theorem IM{R:bg}{n:Nat}(hA:tB R n){e:cK}(bc:e.ne=30- (n:Int)):qx e (dv (a7 false n)) (λb r pd=>(b,e.st r pd)) (yl R):=by
 intro r pd h;unfold dv;cases d:bq r with
 |none=>
  have:fN r pd=Go.Eng.b3 [] r pd:=by grind[fN]
  rw[db (nd:=(cQ [] pd []).1) (ds:=(cQ [] pd []).2) this];unfold yl;exact(((kW e).none h d).bind λ_=> .inr rfl).rJ
 |some r'=>
  have g:=dU d;have f:=h.mono g;have I:=kG _ _ _ (cX _) d;obtain⟨i,xl⟩:=akH I;have J:r'.dropWhile ca<:+r':=Cx;have K:uR r'<:+r':=by grind[uR,List.drop_suffix]
  have Y:=eL f.sfx;have j:=h.b0;unfold yl a8;refine aX.dW ?_ (e5 ((kW e).some h d));have L:∀(k:Int->Option (bp an (Bool×an)))(y:Option (bp an (Bool×an))),y=(cY ((bif(decide ((jj (ar r')).1=3)) then(jj (ar r')).2.2 else false)=true) (Eh (jj (ar r')).2.1) false λ(M:Bool)=>
    (bif(bif(bif(decide ((jj (ar r')).1=3)) then(jj (ar r')).2.2 else false) then M else false) then
    k (W (ax e.S r'+((jj (ar r')).2.1.length:Int)))
    else k (ax e.S r')))->y=k (ax e.S (uR r')):=by
   intro k y N;rw[N];unfold uR;cases O:ar r' with
   |word w p=>
    cases p with
    |false=>rfl
    |true=>
     have l:=(qp O).1;have P:w.length<=1000000:=by grind
     simp only[jj,bz,aK];rw[akF w P,gf,bh trivial];cases aF:(!decide (w=[])&&w.all ca) with
     |false=>simp
     |true=>obtain⟨q,rfl⟩:=l;simp only[aK,cH,o5];rw[ku j f.sfx]
   |_=>rfl
  refine aX.dW ?_ (L (λs=>au (zM e.S s) λ(c:aa)=>
   (au (Ei c) λ(Q:Bool)=>
   (bif(!Q) then
   some (.inr (false,e.st r' pd))
   else
   (bif(bif(decide (c=([60,60]:aa))) then true else(decide (c=([60,60,45]:aa)))) then
   (a_ (yk (e.S,(W (s+(c.length:Int))),pd,e.ne,e.op,e.iH) (decide (c=([60,60,45]:aa)))) (λx=>x) λ(t:an)=>
   some (.inr (true,t)))
   else
   (a_ (k9 R (e.S,(W (s+(c.length:Int))),pd,e.ne,e.op,e.iH)) (λx=>x) λ(S:an)=>
   some (.inr (true,S))))))) _ rfl)
  refine aX.dW ?_ (aO (R0 j (K.trans f.sfx)));refine aX.dW ?_ (aO (akm _));by_cases u:eZ (bt (r'.dropWhile ca))=true
  ·have z:fN r pd= .ok (some (bt (r'.dropWhile ca))) ((r'.dropWhile ca).drop (bt (r'.dropWhile ca)).length) pd:=by simp_all[fN,bh]
   rw[aM z,i u];rw[u];simp only[g8,aU];have D:=J.trans g;have A:=h.mono D;generalize r'.dropWhile ca=q at*;have l:bt q<+:q:=Ro;have ad:=Sh u;generalize Z:bt q=o at*;obtain⟨v,rfl⟩:=l;rw[o5];have E:v<:+o++v:=gP o v;have B:=A.mono E;have T:W (ax e.S (o++v)+(o.length:Int))=ax e.S v:=ku j A.sfx;simp only[T]
   have C:∀(m:ak Unit)(y:Option (bp an an)),aX e v (m v pd) (λ_=>e.st) y->aX e r (ae m (λ_=>aY true) v pd) (λb r pd=>(b,e.st r pd)) (a_ y (λx=>x) λt=>some (.inr (true,t))):=by intro m y hm;exact aX.iC c3.id (hm.mono (E.trans D)) (λ_=>rfl) λa r1 aD _ U V=>⟨U,V,rfl⟩
   have F:pd.length+v.length<e.S.length:=by have:=A.jO;grind
   by_cases G:o=[60,60]
   ·subst G;simp only[bz,aK,cH,show¬(([60,60]:aa)=[60,60,45]) by decide,bF];exact C _ _ (YK false B F)
   ·by_cases H:o=[60,60,45]
    ·subst H;simp only[bz,aK,cH,show¬(([60,60,45]:aa)=[60,60]) by decide,bF,aU,cr];exact C _ _ (YK true B F)
    ·simp only[G,H,bF,aU,cr];exact C _ _ (R8 hA bc _ v pd B)
  ·have z:fN r pd= .ok none r' pd:=by simp_all[fN,aP]
   have X:eZ (bt (uR r'))=false:=by grind
   rw[aM z,X];exact⟨g,f,rfl⟩
theorem YR{R:bg}{n:Nat}(hA:tB R n){e:cK}(bc:e.ne=30- (n:Int)):qx e (gI (a7 false n)) (λ_=>e.st) (Ej R):=by
 intro r pd h;unfold gI Ej a8;refine aX.rep (en:=λ_ r pd=>e.st r pd) (λk s r1 aD ad hk=>?_) bB () r pd (lq (lL (eL h.sfx) h.b0)) h;unfold Qj;refine aX.iC c3.k (IM hA bc r1 aD ad) (λ_=>rfl) λb a g c d f=>?_;cases b with
 |false=>exact aX.inr d f rfl
 |true=>
  rw[bh rfl];by_cases hl:a.length<r1.length
  ·grind[aX.inl]
  ·exact absurd (sz (xh false n▸(qX false n).dl) c) hl
theorem l_(fr:Bool)(n:Nat):h3 (a7 fr n):=xh fr n▸(qX fr n).dl
theorem aX.tst{α b β c:Type}{C:dD α->dD b}(i:c3 C){e:cK}{r0 r:aa}{pd:ao}{x:aa}{k:Tok->ak α}{f:Tok->β}{F:an->Option (bp an (β×an))}{cv:b->aa->ao->c}{g:an->an}{K:β×an->Option (bp an c)}
  (d:ot e f F) (h:dS e r pd)
  (hk:∀r',bq r=some r'->r'<:+r->dS e r' pd->bq r'=some r'->aX e r0 (C (k (ar r') r' pd)) cv (K (f (ar r'),e.st r' pd))) (bs:∀st,(g st).2.2.2.2.1=st.2.2.2.2.1\/(g st).2.2.2.2.1=e.op:=by intro _;first|exact .inl rfl|exact .inr rfl):
  aX e r0 (C (Go.Eng.ae (bN x) k r pd)) cv (a_ (F (e.st r pd)) g K):=by
 cases a:bq r with
 |none=>rw[db (iB a),i.more];exact((d.none h a).bind bs).rJ
 |some r'=>rw[aM (cb a),e5 (d.some h a)];exact hk r' a (dU a) (h.mono (dU a)) (kG _ _ _ (cX _) a)
theorem Sl{b:Tok->Bool}{n:Nat}{r:aa}{pd:ao}{a:Unit}{r':aa}{d:ao}(h:nb b n r pd= .ok a r' d):d=pd:=by
 unfold nb at h;obtain⟨t,r1,aD,ad,c⟩:=b4 h;obtain⟨_,_,rfl⟩:=IH ad;split at c
 ·grind[b3]
 ·split at c
  ·cases c;rfl
  ·cases c
theorem Sm{b:Tok->Bool}{n:Nat}{r:aa}{pd:ao}{op:bl}{nd:aa}{ds:ao}(h:nb b n r pd= .more op nd ds):op=[]:=by
 unfold nb at h;cases a:bq r with
 |none=>rw[db (nd:=(cQ [] pd []).1) (ds:=(cQ [] pd []).2) (op:=[]) (by rw[iB a];rfl)] at h;grind
 |some r'=>
  rw[aM (cb a)] at h;split at h
  ·grind[b3]
  ·split at h<;>cases h
theorem aX.Sn{α d g β i:Type}{C:dD d->dD g}(c:c3 C){e:cK}{r0 r:aa}{pd:ao}{m:ak α}{k:α->ak d}{cv:α->aa->ao->β}{cv':g->aa->ao->i}{y:Option (bp an β)}{k':β->Option (bp an i)}{f:an->an}
  (h:aX e r0 (m r pd) cv y) (hm:∀op nd ds,m r pd= .more op nd ds->op=[]) (hf:∀st,(f st).2.2.2.2.1=st.2.2.2.2.1\/(f st).2.2.2.2.1=e.op) (hk:∀a r1 aD,m r pd= .ok a r1 aD->r1<:+r0->dS e r1 aD->aX e r0 (C (k a r1 aD)) cv' (k' (cv a r1 aD))):
  aX e r0 (C (Go.Eng.ae m k r pd)) cv' (a_ y f k'):=by
 unfold Go.Eng.ae;cases b:m r pd with
 |ok a r1 aD=>rw[b] at h;obtain⟨ad,j,rfl⟩:=h;exact hk a r1 aD b ad j
 |more op nd ds=>rw[b] at h;obtain⟨st,rfl,j⟩:=h;rw[c.more];have:=hm op nd ds b;subst this;refine⟨f st,rfl,?_⟩;grind
 |bad q=>rw[b] at h;obtain⟨ad,st,rfl⟩:=h;rw[c.bad];exact⟨ad,f st,rfl⟩
 |deep q=>rw[c.deep];trivial
theorem akJ{α:Type}{m:ak α}{x r:aa}{pd:ao}{op:bl}{nd:aa}{ds:ao}(h:m.aJ x r pd= .more op nd ds):∃a b,m r pd= .more op a b:=by unfold ak.aJ at h;grind
theorem aX.res{α d f:Type}{C:dD α->dD d}(i:c3 C){e:cK}{r0 r:aa}{pd:ao}{w x:aa}{k:Unit->ak α}{cv:d->aa->ao->f}{g:an->an}{K:an->Option (bp an f)}
  (j:0<w.length) (h:dS e r pd) (h0:r<:+r0) (hk:∀r1,r1<:+r->dS e r1 pd->r1.length<r.length->aX e r0 (C (k () r1 pd)) cv (K (e.st r1 pd))) (bs:∀st,(g st).2.2.2.2.1=st.2.2.2.2.1\/(g st).2.2.2.2.1=e.op:=by intro _;first|exact .inl rfl|exact .inr rfl):
  aX e r0 (C (Go.Eng.ae ((cZ w).aJ x) k r pd)) cv (a_ (ns (e.st r pd) w) g K):=by
 refine aX.Sn i ((aX.aJ (x:=x) (IE w h)).mono h0) (λop nd ds b=>by obtain⟨_,_,b⟩:=akJ b;exact Sm b) bs λa r1 aD c ad l=>?_;have:=Sl (hJ.1 c);subst this;exact hk r1 ((aq.res _).sfx (hJ.1 c)) l (Rt j (hJ.1 c))
theorem YS{α:Type}(m:ak α):m.aJ []=m:=by
 funext r pd
 unfold ak.aJ;cases m r pd<;>rfl
theorem aX.Mo{α a b:Type}{C:dD α->dD a}(c:c3 C){e:cK}{r0 r:aa}{pd:ao}{w:aa}{k:Unit->ak α}{cv:a->aa->ao->b}{g:an->an}{K:an->Option (bp an b)}
  (d:0<w.length) (h:dS e r pd) (h0:r<:+r0) (hk:∀r1,r1<:+r->dS e r1 pd->r1.length<r.length->aX e r0 (C (k () r1 pd)) cv (K (e.st r1 pd))) (bs:∀st,(g st).2.2.2.2.1=st.2.2.2.2.1\/(g st).2.2.2.2.1=e.op:=by intro _;first|exact .inl rfl|exact .inr rfl):
  aX e r0 (C (Go.Eng.ae (cZ w) k r pd)) cv (a_ (ns (e.st r pd) w) g K):=by
 have:=aX.res (x:=[]) c d h h0 hk bs;grind[YS]
theorem aX.YT{e:cK}{r0 r:aa}{pd:ao}{w:aa}{g:an->an}{K:an->Option (bp an an)}(h:dS e r pd)(h0:r<:+r0)(i:∀r1,K (e.st r1 pd)=some (.inr (e.st r1 pd)))(bs:∀st,(g st).2.2.2.2.1=st.2.2.2.2.1\/(g st).2.2.2.2.1=e.op:=by intro _;first|exact .inl rfl|exact .inr rfl):
  aX e r0 (cZ w r pd) (λ_=>e.st) (a_ (ns (e.st r pd) w) g K):=by
 have:=aX.Sn (C:=λx=>x) (k:=λ_=>aY ()) (cv':=λ_=>e.st) (f:=g) (k':=K) c3.id ((IE w h).mono h0) (λop nd ds b=>Sm b) bs λa r1 aD c ad d=>⟨ad,d,by rw[Sl c];grind⟩;grind[Fk]
theorem aX.akK{e:cK}{r0 r:aa}{pd:ao}{w:aa}{g:an->an}{K:an->Option (bp an an)}(h:dS e r pd)(h0:r<:+r0)(i:∀r1,K (e.st r1 pd)=some (.inr (e.st r1 pd)))(bs:∀st,(g st).2.2.2.2.1=st.2.2.2.2.1\/(g st).2.2.2.2.1=e.op:=by intro _;first|exact .inl rfl|exact .inr rfl):
  aX e r0 (jA w r pd) (λ_=>e.st) (a_ (sc (e.st r pd) w) g K):=by
 have:=aX.Sn (C:=λx=>x) (k:=λ_=>aY ()) (cv':=λ_=>e.st) (f:=g) (k':=K) c3.id ((L7 w h).mono h0) (λop nd ds b=>Sm b) bs λa r1 aD c ad d=>⟨ad,d,by rw[Sl c];grind⟩;grind[Fk]
theorem aX.ls{α b d:Type}{C:dD α->dD b}(f:c3 C){R:bg}{n:Nat}(bn:xi R n){e:cK}(bc:e.ne=30- (n:Int)){r0 r:aa}{pd:ao}{c:Ctx}{no:Bool}{x:aa}{k:Nat->ak α}{cv:b->aa->ao->d}{g:an->an}{K:Int×an->Option (bp an d)}
  (h:dS e r pd) (h0:r<:+r0) (hk:∀a r1 aD,r1<:+r->dS e r1 aD->aX e r0 (C (k a r1 aD)) cv (K ((a:Int),e.st r1 aD))) (bs:∀st,(g st).2.2.2.2.1=st.2.2.2.2.1:=by intro _;rfl) (i:c≠ .text:=by simp):
  aX e r0 (C (Go.Eng.ae (((aS false n).ls c no).aJ x) k r pd)) cv (a_ (R.kl (e.st r pd) (CI c) no) g K):=
 aX.iC f ((aX.aJ (x:=x) (bn.im e c no i bc r pd h)).mono h0) bs λa r1 aD j ad l=>hk a r1 aD (((qX false n).ls c no).sfx (hJ.1 j)) l
theorem aX.lines{α b c:Type}{C:dD α->dD b}(f:c3 C){e:cK}{r0 r:aa}{pd:ao}{x:aa}{k:Bool->ak α}{cv:b->aa->ao->c}{g:an->an}{K:Bool×an->Option (bp an c)}
  (h:dS e r pd) (h0:r<:+r0) (hk:∀a r1 aD,cR r pd= .ok a r1 aD->r1<:+r->dS e r1 aD->aX e r0 (C (k a r1 aD)) cv (K (a,e.st r1 aD))) (bs:∀st,(g st).2.2.2.2.1=st.2.2.2.2.1:=by intro _;rfl):
  aX e r0 (C (Go.Eng.ae (cR.aJ x) k r pd)) cv (a_ (k7 (e.st r pd)) g K):=
 aX.iC f ((aX.aJ (x:=x) (Yr h)).mono h0) bs λa r1 aD d ad i=>hk a r1 aD (hJ.1 d) (aq.lines.sfx (hJ.1 d)) i
theorem aX.AD{α b c:Type}{C:dD α->dD b}(d:c3 C){e:cK}{r0 r:aa}{pd:ao}{k:Bool->ak α}{cv:b->aa->ao->c}{g:an->an}{K:Bool×an->Option (bp an c)}
  (h:dS e r pd) (h0:r<:+r0) (hk:∀a r1 aD,cR r pd= .ok a r1 aD->r1<:+r->dS e r1 aD->aX e r0 (C (k a r1 aD)) cv (K (a,e.st r1 aD))) (bs:∀st,(g st).2.2.2.2.1=st.2.2.2.2.1:=by intro _;rfl):
  aX e r0 (C (Go.Eng.ae cR k r pd)) cv (a_ (k7 (e.st r pd)) g K):=by
 have:=aX.lines (x:=[]) d h h0 hk bs;grind[YS]
theorem Mp{R:bg}{n:Nat}(hA:tB R n){e:cK}(bc:e.ne=30- (n:Int)):qx e (hg false (a7 false n)) (λ_=>e.st) (z5 R):=by
 intro r pd h;unfold hg z5;refine aX.rep (en:=λ_ r pd=>e.st r pd) (λk s r1 aD ad hk=>?_) bB () r pd (lq (lL (eL h.sfx) h.b0)) h;unfold Ql a8;refine aX.iC c3.k (IM hA bc r1 aD ad) (λ_=>rfl) λb q l u d m=>?_;cases b with
 |true=>have hl:=sz (l_ false n) u;rw[bh rfl];exact aX.inl hl (hk () q l d m hl)
 |false=>
  rw[aP (by simp)];dsimp only[cond_false];refine aX.tst c3.k (kW e) m λa B f g i=>?_;by_cases c:∃w p,ar a= .word w p
  ·obtain⟨w,p,c⟩:=c;rw[c];refine aX.iC c3.k ((Mg hA bc g i c).mono (f.trans d)) (λ_=>rfl) λ_ C D v E F=>?_;have j:a≠[]:=by rintro rfl;grind[ar]
   have x:cW a=false:=by
    cases a with
    |nil=>grind
    |cons b t=>
     refine Io ⟨w,p,c⟩ ?_;cases z:gb b with
     |false=>rfl
     |true=>rw[Fg z] at i;have:=(dU i).length_le;grind
   have hl:=vP (l_ false n) j x v;grind[aX.inl]
  ·have A:decide ((jj (ar a)).1=3)=false:=by grind[decide_eq_false_iff_not,Mf]
   refine aX.dW (y:=some (.inr (e.st a l))) ?_ (by simp only[A,e7,aK];rfl);cases G:ar a with
   |word w p=>grind
   |op o=>simp only[eB,false_and,cr];exact aX.inr (f.trans d) g rfl
   |_=>exact aX.inr (f.trans d) g rfl
theorem Fp(a b:UInt8):((a.toNat:Int)<=(b.toNat:Int))↔a<=b:=by simp[Dm]
theorem So(b:UInt8):((97:Int)<=(b.toNat:Int))↔97<=b:=Fp 97 b
theorem Sp(b:UInt8):((b.toNat:Int)<=122)↔b<=122:=Fp b 122
theorem YU(b:UInt8):((65:Int)<=(b.toNat:Int))↔65<=b:=Fp 65 b
theorem YV(b:UInt8):((b.toNat:Int)<=90)↔b<=90:=Fp b 90
theorem Sq(b:UInt8):((48:Int)<=(b.toNat:Int))↔48<=b:=Fp 48 b
theorem Sr(b:UInt8):((b.toNat:Int)<=57)↔b<=57:=Fp b 57
theorem YW(b:UInt8):((b.toNat:Int)=95)↔b=95:=q2 (c:=95)
theorem akM(b:UInt8):Hv (b.toNat:Int)=some (decide (97<=b)&&decide (b<=122)):=by simp[Hv,zV,au,So,Sp]
theorem akN(b:UInt8):Hw (b.toNat:Int)=some (decide (65<=b)&&decide (b<=90)):=by simp[Hw,zV,au,YU,YV]
def Fq(first:Bool)(b:UInt8):Bool:=yH b||(!first&&ca b)
theorem Mq{w:aa}(d:w.length<=1000000){j:Unit->Option Bool}{k:Int->Option Bool}{b:UInt8}{t:aa}(a:b::t<:+w):
  zW w j k (ax w (b::t))=(bif Fq (decide (b::t=w)) b then k (ax w t) else some false)/\Ah w j k (ax w (b::t))=(bif Fq (decide (b::t=w)) b then k (ax w t) else some false):=by
 have h0:decide (ax w (b::t)=0)=decide (b::t=w):=by
  by_cases h:b::t=w
  ·grind[IA]
  ·have:ax w (b::t)≠0:=by intro e;refine h (a.eq_of_length ?_);grind[ax]
   grind
 have c:=iP d a;constructor
 ·unfold zW;simp only[ng a,bz,aK];rw[bZ ⟨(h4 a).1,trivial⟩];simp only[jC a,akM,akN,YN,gf,h0,c,YW];rw[aO rfl];unfold Fq yH;grind
 ·unfold Ah;have bs:=h4 a;have f:0<=ax w (b::t)/\ax w (b::t)<(w.length:Int):=bs;simp only[ng a,bz,aK,bs.1,nJ,implies_true];simp only[a4,cH,jC a,h0,c,YW,So,Sp,YU,YV,Sq,Sr];unfold Fq yH ca;grind
theorem akO{w:aa}(d:w.length<=1000000){j:Unit->Option Bool}(i:j ()=some (!decide (w=[]))):∀(n:Nat)(r:aa),r.length<n->r<:+w->r≠w->fixF (zW w j) n (ax w r)=some (r.all λc=>yH c||ca c)/\fixF (Ah w j) n (ax w r)=some (r.all λc=>yH c||ca c):=by
 intro n;induction n with
 |zero=>omega
 |succ n e=>
  intro r aw a bc;rw[e4,e4];cases r with
  |nil=>grind[zW,iu,Ah]
  |cons b t=>
   have f:t≠w:=by grind
   obtain⟨g,h⟩:=e t (by grind) (dZ a) f;rw[(Mq d a).1,(Mq d a).2,g,h];grind[decide,Fq,yH,ca]
theorem yT(w:aa)(a:w.length<=1000000):zX w=some (l7 w)/\Ai w=some (l7 w):=by
 have e:=IA w
 have d:∀j:Unit->Option Bool,j ()=some (!decide (w=[]))->fixF (zW w j) bB 0=some (l7 w)/\fixF (Ah w j) bB 0=some (l7 w):=by
  intro j f
  obtain⟨n,aw⟩:∃n,bB=n+1:=⟨bB-1,by rw[gm]⟩
  rw[aw,e4,e4];cases w with
  |nil=>grind[zW,l7,Ah]
  |cons b t=>
   have bc:t≠b::t:=by simp
   have c:t.length<n:=by grind[lq,List.length_cons,gm]
   obtain⟨g,h⟩:=akO a f n t c (ee b t) bc;rw[<-e,(Mq a fT).1,(Mq a fT).2,g,h];grind[Fq,l7,yH]
 constructor
 ·unfold zX a8;exact(d (λ_=>some (!(decide (w=[])))) rfl).1
 ·unfold Ai a8;refine(d (λ_=>some (decide (0<(w.length:Int)))) ?_).2;cases w<;>simp
section
variable{R:bg}{n:Nat}(bn:xi R n){e:cK}(bc:e.ne=30- (n:Int))
include bn bc
theorem Ss(x:aa):qx e (iO (aS false n) x) (λ_=>e.st) (tf R):=by intro r pd h;unfold iO tf;refine aX.res (C:=λx=>x) c3.id (by decide) h fT λr1 s1 b _=>?_;refine aX.ls (c:= .done) (C:=λx=>x) c3.id bn bc b s1 λa f g s2 d=>?_;exact aX.YT d (s2.trans s1) λi=>rfl
theorem akQ:qx e (qj (aS false n)) (λ_=>e.st) (Ef R):=by
 intro r pd h;unfold qj Ef a8;refine aX.rep (en:=λ_ r pd=>e.st r pd) (λk s r1 aD ad hk=>?_) bB () r pd (lq (lL (eL h.sfx) h.b0)) h;unfold P4;refine aX.ls (c:= .rG) c3.k bn bc ad fT λa M N s2 F=>?_;refine aX.Mo c3.k (by decide) F s2 λO C G P=>?_;refine aX.ls (c:= .qi) c3.k bn bc G (C.trans s2) λa Q D H I=>?_;dsimp only;refine aX.tst c3.k (q3 e _) I λd S J j K=>?_;have i:=J.trans (H.trans (C.trans s2));dsimp only;by_cases he:cB (ar d) ij=true
 ·rw[bh he];have t:cB (ar d) [101,108,105,102]=true:=he;rw[t];simp only[aU,g8];refine aX.Mo c3.k (by decide) j i λu l v w=>?_;have hl:u.length<r1.length:=by grind
  exact aX.inl hl (hk () u D (l.trans i) v hl)
 ·rw[aP he];have t:cB (ar d) [101,108,105,102]=false:=Ge.2 he;rw[t];simp only[aK,e7];have E:∀(f:Unit->ak (Unit⊕Unit))(g:aa)(b:ao),g<:+r1->dS e g b->aX e r1 (cP f r1 (ae (cZ fa) (λ_=>aY (.inr ())) g b)) (λ_=>e.st)
    (a_ (ns (e.st g b) [102,105]) (λx=>(x.1,x.2.1,b,x.2.2.2.1,e.op,x.2.2.2.2.2)) λm=>some (.inr (m.1,m.2.1,b,m.2.2.2.1,e.op,m.2.2.2.2.2))):=by
   intro f g b o y;refine aX.Mo c3.k (by decide) y o λT z A L=>?_;exact aX.inr (z.trans o) A rfl
  have p:=(q3 e [101,108,115,101]).some j K;by_cases q:cB (ar d) h2=true
  ·rw[bh q];have B:cB (ar d) [101,108,115,101]=true:=q;rw[B] at p;refine aX.dW ?_ (e5 p);dsimp only[cond_true];refine aX.Mo c3.k (by decide) j i λu l v w=>?_;refine aX.ls (c:= .kh) c3.k bn bc v (l.trans i) λa g b o y=>?_;exact E _ g b (o.trans (l.trans i)) y
  ·rw[aP q];have B:cB (ar d) [101,108,115,101]=false:=Ge.2 q;rw[B] at p;refine aX.dW ?_ (e5 p);dsimp only[cond_false];exact E _ d D i j
end
theorem yU{r:aa}(a:bq r=some r){w:aa}{p:Bool}(c:ar r= .word w p):r≠[]/\cW r=false:=by
 cases r with
 |nil=>grind[ar]
 |cons b t=>
  refine⟨by simp,Io ⟨w,p,c⟩ ?_⟩;cases d:gb b with
  |false=>rfl
  |true=>rw[Fg d] at a;have:=(dU a).length_le;grind
theorem akU{α j l:Type}{C:dD α->dD j}(i:c3 C){e:cK}{r0 r:aa}{pd:ao}{x:aa}{k:ak α}{cv:j->aa->ao->l}{g:an->an}{K:an->Option (bp an l)}(h:dS e r pd)
  (hk:∀r1,r1<:+r->dS e r1 pd->aX e r0 (C (k r1 pd)) cv (K (e.st r1 pd))) (bs:∀st,(g st).2.2.2.2.1=st.2.2.2.2.1\/(g st).2.2.2.2.1=e.op:=by intro _;first|exact .inl rfl|exact .inr rfl):
  aX e r0 (C (Go.Eng.ae (bN x) (λt=>match t with
   | .eof=>b3 x
   | .word w true=>if l7 w then Go.Eng.ae (bV w.length) λ_=>k else bK
   |_=>bK) r pd)) cv (a_ (sh (e.st r pd)) g K):=by
 cases b:bq r with
 |none=>rw[db (iB b),i.more];unfold sh;exact((((kW e).none h b).bind λ_=> .inl rfl).bind bs).rJ
 |some r'=>
  rw[aM (cb b)];have n:=dU b;have c:=h.mono n;have s:=kG _ _ _ (cX _) b;have hm:=(kW e).some h b
  have d:∀(m:ak α),(ar r'= .eof->m=b3 x)->(ar r'≠ .eof->m=bK)->sh (e.st r pd)=a_ (kD (e.st r' pd)) (λx=>x) (λy=>Empty.elim y)->aX e r0 (C (m r' pd)) cv (a_ (sh (e.st r pd)) g K):=by
   intro m ad v z;rw[z];by_cases a:ar r'= .eof
   ·rw[ad a];unfold b3;rw[i.more];exact((((tx c s).1 a).bind λ_=> .inl rfl).bind bs).rJ
   ·rw[v a];unfold bK;rw[i.bad];exact⟨c.sfx,_,hL (hL ((tx c s).2 a))⟩
  cases a:ar r' with
  |word w p=>
   cases p with
   |true=>
    have u:w.length<=1000000:=by have:=(qp a).1.length_le;have:=eL c.sfx;have:=h.b0;omega
    have A:=(qp a).1;by_cases aw:l7 w=true
    ·simp only;rw[bh aw];have B:sh (e.st r pd)=some (.inr (e.st (r'.drop w.length) pd)):=by unfold sh a8;refine(e5 hm).trans ?_;rw[a];simp only[jj,bz,g8,aU];rw[(yT w u).1,gf,bh trivial,aw];show some (Sum.inr (e.S,W (ax e.S r'+(w.length:Int)),pd,e.ne,e.op,e.iH))=_;obtain⟨q,rfl⟩:=A;rw[o5,ku h.b0 c.sfx];rfl
     rw[B,e5 rfl];exact hk _ ((lK _ _).trans n) (c.mono (lK _ _))
    ·simp only;rw[aP aw];refine d bK (λf=>by grind) (λ_=>rfl) ?_;unfold sh a8;refine(e5 hm).trans ?_;rw[a];simp only[jj,bz,g8,aU];have D:l7 w=false:=by grind
     rw[(yT w u).1,gf,bh trivial,D];rfl
   |false=>refine d bK (λf=>by grind) (λ_=>rfl) ?_;unfold sh a8;refine(e5 hm).trans ?_;rw[a];rfl
  |eof=>refine d (b3 x) (λ_=>rfl) (λf=>absurd a f) ?_;unfold sh a8;refine(e5 hm).trans ?_;rw[a];rfl
  |line=>refine d bK (λf=>by grind) (λ_=>rfl) ?_;unfold sh a8;refine(e5 hm).trans ?_;rw[a];rfl
  |op o=>refine d bK (λf=>by grind) (λ_=>rfl) ?_;unfold sh a8;refine(e5 hm).trans ?_;rw[a];rfl
noncomputable def CO:an->Option (bp an an):=λy=>a_ (nr y [59]) (λx=>(x.1,x.2.1,y.2.2.1,x.2.2.2.1,y.2.2.2.2.1,x.2.2.2.2.2)) λz=>bif z.1 then some (.inr (z.2.1,W (z.2.2.1+1),y.2.2.1,z.2.2.2.2.1,y.2.2.2.2.1,z.2.2.2.2.2.2)) else
 a_ (l2 (z.2.1,z.2.2.1,y.2.2.1,z.2.2.2.2.1,y.2.2.2.2.1,z.2.2.2.2.2.2)) (λx=>(x.1,x.2.1,y.2.2.1,x.2.2.2.1,y.2.2.2.2.1,x.2.2.2.2.2)) λu=>bif !(decide (u.1.1=1)) then a_ (kD (u.2.1,u.2.2.1,y.2.2.1,u.2.2.2.2.1,y.2.2.2.2.1,u.2.2.2.2.2.2)) (λx=>(x.1,x.2.1,y.2.2.1,x.2.2.2.1,y.2.2.2.2.1,x.2.2.2.2.2)) (λy=>Empty.elim y)
  else some (.inr (u.2.1,u.2.2.1,y.2.2.1,u.2.2.2.2.1,y.2.2.2.2.1,u.2.2.2.2.2.2))
section
variable{R:bg}{n:Nat}(hA:tB R n){e:cK}(bc:e.ne=30- (n:Int))
include hA bc
theorem akV:
  ∀(r:aa)(pd:ao),dS e r pd->aX e r (pF (a7 false n) r pd) (λ_=>e.st) (fixF (vC R CO) bB (e.st r pd)):=by
 intro r pd h;unfold pF;refine aX.rep (en:=λ_ r pd=>e.st r pd) (λk s r1 aD ad hk=>?_) bB () r pd (lq (lL (eL h.sfx) h.b0)) h;unfold vC CO;refine aX.tst c3.k (kW e) ad λa H s2 b d=>?_;dsimp only;by_cases g:∃w p,ar a= .word w p
 ·obtain⟨w,p,g⟩:=g;rw[g];simp only[jj,bz,aK];refine aX.iC c3.k ((Mg hA bc b d g).mono s2) (λ_=>rfl) λ_ A I B J K=>?_;obtain⟨C,D⟩:=yU d g;have hl:A.length<r1.length:=by have:=vP (l_ false n) C D B;grind
  grind[aX.inl]
 ·have E:decide ((jj (ar a)).1=3)=false:=by grind[decide_eq_false_iff_not,Mf]
  simp only[E,aU];refine aX.dW ?_ (e5 ((rK e [59]).some b d));dsimp only;have aB:=(kW e).some b d;have j:∀(m:ak (Unit⊕Unit))(f:Unit->ak (Unit⊕Unit)),ar a≠ .line->ar a≠ .op [59]->(ar a= .eof->m=b3 [])->(ar a≠ .eof->m=bK)->aX e r1 (cP f r1 (m a aD)) (λ_=>e.st)
    (a_ (l2 (e.st a aD)) (λx=>(x.1,x.2.1,aD,x.2.2.2.1,e.op,x.2.2.2.2.2)) λu=>bif !(decide (u.1.1=1)) then a_ (kD (u.2.1,u.2.2.1,aD,u.2.2.2.2.1,e.op,u.2.2.2.2.2.2)) (λx=>(x.1,x.2.1,aD,x.2.2.2.1,e.op,x.2.2.2.2.2)) (λy=>Empty.elim y) else some (.inr (u.2.1,u.2.2.1,aD,u.2.2.2.2.1,e.op,u.2.2.2.2.2.2))):=by
   intro m f L M F G;refine aX.dW ?_ (e5 aB);have:decide ((jj (ar a)).1=1)=false:=by
    rw[Gj];cases c:ar a with
    |line=>grind
    |_=>simp[jj]
   simp only[this,e7,aK];by_cases c:ar a= .eof
   ·rw[F c];exact(((tx b d).1 c).bind λ_=> .inr rfl).rJ
   ·rw[G c];exact⟨b.sfx,_,hL ((tx b d).2 c)⟩
  cases c:ar a with
  |word w p=>grind
  |eof=>
   have:=j (b3 []) (λ_=>ae (bN []) λt=>match t with
    | .eof=>b3 []
    | .word _ _=>ae (cI (a7 false n)) λ_=>aY (.inl ())
    | .line=>aY (.inr ())
    | .op o=>if o=[59] then ae (bV 1) λ_=>aY (.inr ()) else bK) (by grind) (by grind) (λ_=>rfl) (λl=>absurd c l)
   exact this
  |line=>
   refine aX.dW (y:=some (.inr (e.st a aD))) ?_ ?_
   ·exact aX.inr s2 b rfl
   ·have i:((Tok.line==Tok.op [59]):Bool)=false:=by simp
    rw[i];simp only[aU];refine(e5 aB).trans ?_;rw[c];rfl
  |op o=>
   by_cases v:o=[59]
   ·subst v;simp only[beq_self_eq_true,aK,cH];obtain⟨q,rfl⟩:=(iq c).2.1;have z:q<:+[59]++q:=gP [59] q;refine aX.dW (y:=some (.inr (e.st q aD))) ?_ ?_
    ·exact aX.inr (z.trans s2) (b.mono z) rfl
    ·show some (Sum.inr (e.S,W (ax e.S ([59]++q)+1),aD,e.ne,e.op,e.iH))=_;have:=ku (w:=[59]) (t:=q) b.b0 b.sfx;rw[show(([59]:aa).length:Int)=1 from rfl] at this;rw[this];rfl
   ·have i:((Tok.op o==Tok.op [59]):Bool)=false:=by grind
    rw[i];simp only[aU,aP v];exact j bK _ (by grind) (by grind) (λl=>by grind) (λ_=>rfl)
end
theorem ou{σ τ α β b:Type}{m:Option (bp σ α)}{f:σ->τ}{k:α->Option (bp τ β)}{K:β->Option (bp τ b)}:a_ (a_ m f k) (λx=>x) K=a_ m f (λa=>a_ (k a) (λx=>x) K):=by unfold a_;grind
theorem YY{R:bg}{J:an->Option (bp an an)}{K:an->Option (bp an an)}:∀(n:Nat)(x:an),fixF (vC R λy=>a_ (J y) (λx=>x) K) n x=a_ (fixF (vC R J) n x) (λx=>x) K
 |0,x=>rfl
 |n+1,x=>by
  rw[e4,e4];have a:=YY (R:=R) (J:=J) (K:=K) n;generalize fixF (vC R λy=>a_ (J y) (λx=>x) K) n=cm at a;generalize fixF (vC R J) n=b at a;unfold vC;dsimp only;rw[ou];congr 1
  funext y
  cases decide (y.1.1=3) with
  |true=>simp_all[aK,ou]
  |false=>rfl
theorem aX.YZ{α β b:Type}{m:ak α}{x:aa}{k:α->ak β}{e:cK}{r0 r:aa}{pd:ao}{cv:β->aa->ao->b}{y:Option (bp an b)}(h:aX e r0 (Go.Eng.ae m k r pd) cv y):aX e r0 (Go.Eng.ae (m.aJ x) k r pd) cv y:=by
 unfold Go.Eng.ae ak.aJ at*;cases hm:m r pd with
 |ok a r1 aD=>grind
 |more op nd ds=>rw[hm] at h;exact h
 |bad q=>grind
 |deep q=>trivial
theorem akW(K:an->Option (bp an an))(y:an):a_ (CO y) (λx=>x) K=a_ (nr y [59]) (λx=>(x.1,x.2.1,y.2.2.1,x.2.2.2.1,y.2.2.2.2.1,x.2.2.2.2.2)) λz=>bif z.1 then K (z.2.1,W (z.2.2.1+1),y.2.2.1,z.2.2.2.2.1,y.2.2.2.2.1,z.2.2.2.2.2.2) else
   a_ (l2 (z.2.1,z.2.2.1,y.2.2.1,z.2.2.2.2.1,y.2.2.2.2.1,z.2.2.2.2.2.2)) (λx=>(x.1,x.2.1,y.2.2.1,x.2.2.2.1,y.2.2.2.2.1,x.2.2.2.2.2)) λu=>bif !(decide (u.1.1=1)) then a_ (kD (u.2.1,u.2.2.1,y.2.2.1,u.2.2.2.2.1,y.2.2.2.2.1,u.2.2.2.2.2.2)) (λx=>(x.1,x.2.1,y.2.2.1,x.2.2.2.1,y.2.2.2.2.1,x.2.2.2.2.2)) (λy=>Empty.elim y)
    else K (u.2.1,u.2.2.1,y.2.2.1,u.2.2.2.2.1,y.2.2.2.2.1,u.2.2.2.2.2.2):=by
 unfold CO;rw[ou];congr 1
 funext z
 cases z.1 with
 |true=>rfl
 |false=>
  simp only[aU];rw[ou];congr 1
  funext u
  cases decide (u.1.1=1) with
  |true=>rfl
  |false=>simp only[e7,aK];grind[ou,Empty.elim]
theorem akX{R:bg}{n:Nat}(hA:tB R n)(bn:xi R n){e:cK}(bc:e.ne=30- (n:Int)):qx e (pG (aS false n) (a7 false n)) (λ_=>e.st) (Ed R):=by
 intro r pd h;unfold Ed;refine akU (C:=λx=>x) c3.id h λr1 s1 E=>?_;refine aX.YZ ?_;rw[ks];refine aX.tst (C:=λx=>x) c3.id (rK e [59]) E λk U s2 g V=>?_;dsimp only;rw[yL];by_cases l:ar k= .op [59]
 ·rw[bh l];have m:((ar k==Tok.op [59]):Bool)=true:=by grind
  rw[m];simp only[aK];obtain⟨q,rfl⟩:=(iq l).2.1;have o:q<:+[59]++q:=gP [59] q;have F:W (ax e.S ([59]++q)+1)=ax e.S q:=ku (w:=[59]) g.b0 g.sfx;rw[ks];show aX e r (ae (ae cR λ_=>aY ()) (λ_=>iO (aS false n) eo) q pd) _ (a_ (k7 (e.S,W (ax e.S ([59]++q)+1),pd,e.ne,e.op,e.iH)) _ _);rw[F,ks];refine aX.AD (C:=λx=>x) c3.id (g.mono o) (o.trans (s2.trans s1)) λb p c _ s t=>?_;dsimp only;refine aX.dW ((Ss bn bc _ p c t).mono (s.trans (o.trans (s2.trans s1)))) ?_;generalize tf R (e.st p c)=y;unfold a_;grind
 ·rw[aP l];have m:((ar k==Tok.op [59]):Bool)=false:=by grind
  rw[m];simp only[aU];rw[ks];refine aX.AD (C:=λx=>x) c3.id g (s2.trans s1) λb p c _ s t=>?_;dsimp only;unfold a8
  have A:∀a d,a<:+r->dS e a d->aX e r (iO (aS false n) eo a d) (λ_=>e.st) (a_ (tf R (e.st a d)) (λx=>x) λy=>some (.inr y)):=by intro a d i f;refine aX.dW ((Ss bn bc _ a d f).mono i) ?_;generalize tf R (e.st a d)=y;unfold a_;grind
  have B:=s.trans (s2.trans s1);rw[ks];refine aX.tst (C:=λx=>x) c3.id (q3 e _) t λa X i f G=>?_;dsimp only;rw[yL];by_cases j:cB (ar a) fb=true
  ·rw[bh j];have u:cB (ar a) [105,110]=true:=j;rw[u];simp only[aK];have v:ar a= .word [105,110] true:=by grind[cB]
   have H:ns (e.st a c) [105,110]=some (.inr (e.st (a.drop 2) c)):=by
    have:=IE [105,110] f;have I:cZ [105,110] a c= .ok () (a.drop 2) c:=by unfold cZ nb;rw[aM (cb G),v];rfl
    rw[I] at this;exact this.2.2
   refine aX.dW ?_ (e5 H);have aG:a.drop 2<:+a:=lK _ _;rw[ks];show aX e r (ae (ae (pF (a7 false n)) λ_=>ae cR λ_=>aY ()) (λ_=>iO (aS false n) eo) (a.drop 2) c) _ _;rw[ks]
   have L:∀(J K:an->Option (bp an an))(x:an),(∀y,J y=a_ (CO y) (λx=>x) K)->fixF (vC R J) bB x=a_ (fixF (vC R CO) bB x) (λx=>x) K:=by intro J K x M;have:J=λy=>a_ (CO y) (λx=>x) K:=funext M;grind[YY]
   refine aX.dW ?_ (L _ (λz=>a_ (k7 z) (λx=>x) λy=>a_ (tf R y.2) (λx=>x) λy=>some (.inr y)) _ (λy=>(akW (λz=>a_ (k7 z) (λx=>x) λy=>a_ (tf R y.2) (λx=>x) λy=>some (.inr y)) y).symm));have N:=aG.trans (i.trans B);refine aX.iC (C:=λx=>x) c3.id ((akV hA bc (a.drop 2) c (f.mono aG)).mono N) (λ_=>rfl) λ_ Y Z _ D O=>?_;rw[ks];refine aX.AD (C:=λx=>x) c3.id O D λb P Q _ S T=>?_;exact A P Q (S.trans D) T
  ·rw[aP j];have u:cB (ar a) [105,110]=false:=Ge.2 j;rw[u];simp only[aU];exact A a c (i.trans B) f
theorem Y0{J K:an->Option (bp an an)}{L:(an->Option (bp an an))->(an->Option (bp an an))->an->Option (bp an an)}
  (bn:∀(cm a:an->Option (bp an an)),(∀x,cm x=a_ (a x) (λx=>x) K)->∀x,L (λy=>a_ (J y) (λx=>x) K) cm x=a_ (L J a x) (λx=>x) K):
  ∀(n:Nat)(x:an),fixF (L λy=>a_ (J y) (λx=>x) K) n x=a_ (fixF (L J) n x) (λx=>x) K
 |0,x=>rfl
 |n+1,x=>by rw[e4,e4];exact bn _ _ (Y0 bn n) x
noncomputable def yV:an->Option (bp an an):=λy=>a_ (sc y [41]) (λx=>(x.1,x.2.1,y.2.2.1,x.2.2.2.1,y.2.2.2.2.1,x.2.2.2.2.2)) λz=>some (.inr (z.1,z.2.1,y.2.2.1,z.2.2.2.1,y.2.2.2.2.1,z.2.2.2.2.2))
section
variable{R:bg}{n:Nat}(hA:tB R n){e:cK}(bc:e.ne=30- (n:Int))
include hA bc
theorem akZ{α m s:Type}{C:dD α->dD m}(d:c3 C){r0 r:aa}{pd:ao}{x y:aa}{k:Unit->ak α}{cv:m->aa->ao->s}{K:an->Option (bp an s)}(h:dS e r pd)(h0:r<:+r0)
  (hk:∀r1 aD,r1<:+r->r1.length<r.length->dS e r1 aD->aX e r0 (C (k () r1 aD)) cv (K (e.st r1 aD))):
  aX e r0 (C (Go.Eng.ae (bN x) (λt=>match t with
   | .eof=>b3 x
   | .word _ _=>Go.Eng.ae ((cI (a7 false n)).aJ y) k
   |_=>bK) r pd)) cv (a_ (k9 R (e.st r pd)) (λx=>x) K):=by
 have b:=(R8 hA bc x r pd h).mono h0;unfold jM at b;unfold Go.Eng.ae at b⊢;cases aB:bN x r pd with
 |ok t r1 aD=>
  rw[aB] at b;simp only at b⊢;obtain⟨l,rfl,rfl⟩:=IH aB;have u:=kG _ _ _ (cX _) l;cases i:ar r1 with
  |word w p=>
   rw[i] at b;simp only at b⊢;unfold ak.aJ;cases j:cI (a7 false n) r1 aD with
   |ok a v z=>rw[j] at b;obtain⟨c,f,A⟩:=b;rw[e5 A];obtain⟨B,D⟩:=yU u i;have E:=vP (l_ false n) B D j;have F:=(dU l).length_le;exact hk v z (((aq.word (l_ false n)).sfx j).trans (dU l)) (by omega) f
   |more op nd ds=>rw[j] at b;obtain⟨st,c,f⟩:=b;simp only;rw[d.more];exact⟨st,hL c,f⟩
   |bad q=>rw[j] at b;obtain⟨g,st,c⟩:=b;simp only;rw[d.bad];exact⟨g,st,hL c⟩
   |deep q=>simp only;rw[d.deep];trivial
  |eof=>rw[i] at b;unfold b3 at b⊢;simp only at b⊢;obtain⟨st,c,f⟩:=b;rw[d.more];exact⟨st,hL c,f⟩
  |line=>rw[i] at b;unfold bK at b⊢;obtain⟨g,st,c⟩:=b;simp only;rw[d.bad];exact⟨g,st,hL c⟩
  |op o=>rw[i] at b;unfold bK at b⊢;obtain⟨g,st,c⟩:=b;simp only;rw[d.bad];exact⟨g,st,hL c⟩
 |more op nd ds=>rw[aB] at b;obtain⟨st,c,f⟩:=b;simp only;rw[d.more];exact⟨st,hL c,f⟩
 |bad q=>rw[aB] at b;obtain⟨g,st,c⟩:=b;simp only;rw[d.bad];exact⟨g,st,hL c⟩
 |deep q=>simp only;rw[d.deep];trivial
theorem ak0:qx e (kq (a7 false n)) (λ_=>e.st) (λx=>a_ (k9 R x) (λx=>x) λy=>fixF (vB R yV) bB y):=by
 have i:∀(N:Nat)(r:aa)(pd:ao),r.length<N->dS e r pd->aX e r (kq (a7 false n) r pd) (λ_=>e.st) (a_ (k9 R (e.st r pd)) (λx=>x) λy=>fixF (vB R yV) N y):=by
  intro N;induction N with
  |zero=>omega
  |succ N u=>
   intro r pd M h;unfold kq;rw[cq];refine akZ hA bc c3.k h fT λr1 aD s1 O D=>?_;rw[e4];generalize hk:fixF (vB R yV) N=k at u;unfold vB yV;refine aX.tst c3.k (rK e [124]) D λa P s2 d v=>?_;dsimp only;have A:=s2.trans s1;have j:∀(m:ak (Unit⊕Unit))(f:Unit->ak (Unit⊕Unit))(c:Bool),ar a≠ .op [41]->c=false->(ar a= .eof->m=b3 [41])->(ar a≠ .eof->m=bK)->aX e r (cP f r (m a aD)) (λ_=>e.st)
     (bif c then a_ (k9 R (e.S,W (ax e.S a+1),aD,e.ne,e.op,e.iH)) (λx=>x) (λy=>k y) else a_ (sc (e.st a aD) [41]) (λx=>(x.1,x.2.1,aD,x.2.2.2.1,e.op,x.2.2.2.2.2)) λz=>some (.inr (z.1,z.2.1,aD,z.2.2.2.1,e.op,z.2.2.2.2.2))):=by
    intro m f c E F G H;subst F;simp only[aU];have g:=L7 [41] d;have bc:∀q,ar a=q->q≠ .op [41]:=λq l=>l▸E
    unfold jA nb at g;rw[aM (cb v)] at g;by_cases b:ar a= .eof
    ·rw[G b];rw[bh b] at g;obtain⟨st,t,Q⟩:=g;exact⟨_,hL t,by simp⟩
    ·rw[H b];rw[aP b,aP (by grind)] at g;obtain⟨I,st,t⟩:=g;exact⟨I,_,hL t⟩
   cases b:ar a with
   |word w p=>exact j bK _ _ (by grind) (by simp) (λs=>by grind) (λ_=>rfl)
   |eof=>exact j (b3 [41]) _ _ (by grind) (by simp) (λ_=>rfl) (λs=>absurd b s)
   |line=>exact j bK _ _ (by grind) (by simp) (λs=>by grind) (λ_=>rfl)
   |op o=>
    by_cases ad:o=[124]
    ·subst ad;simp only[beq_self_eq_true,aK,cH];obtain⟨q,rfl⟩:=(iq b).2.1;have l:q<:+[124]++q:=gP [124] q;have J:W (ax e.S ([124]++q)+1)=ax e.S q:=ku (w:=[124]) d.b0 d.sfx;have hl:q.length<r.length:=by grind
     have bf:=u q aD (by omega) (d.mono l);show aX e r (cP _ r (ae (bV 1) (λ_=>aY (.inl ())) ([124]++q) aD)) _ (a_ (k9 R (e.S,W (ax e.S ([124]++q)+1),aD,e.ne,e.op,e.iH)) _ _);rw[J];exact aX.inl hl (bf.mono (l.trans A))
    ·by_cases B:o=[41]
     ·subst B;have K:((Tok.op [41]==Tok.op [124]):Bool)=false:=by simp
      rw[K];simp only[aU,cH,show¬(([41]:aa)=[124]) by decide,cr];obtain⟨C,L⟩:=Yz d v b;refine aX.dW (y:=some (.inr (e.st (a.drop 1) aD))) ?_ ?_
      ·exact aX.inr (C.trans A) (d.mono C) rfl
      ·exact(e5 L).trans rfl
     ·simp only[aP ad,aP B];exact j bK _ _ (by grind) (by grind) (λs=>by grind) (λ_=>rfl)
 intro r pd h;exact i bB r pd (lq (lL (eL h.sfx) h.b0)) h
end
def IQ(l:dT)(D:ak Unit):ak (Unit⊕Unit):=ae (bN []) λt=>if t= .eof then b3 [] else if cB t ew then ae (bV 4) λ_=>aY (.inr ()) else
 ae ((if t= .op [40] then bV 1 else aY ())) λ_=>ae (kq D) λ_=>ae (l.ls .item true) λ_=>ae (bN []) λt=>if t= .op [59,59] then ae (bV 2) λ_=>aY (.inl ()) else aY (.inl ())
def uT(l:dT)(D:ak Unit):Unit->ak (Unit⊕Unit):=λ_=>ae cR λ_=>IQ l D
theorem ak1(l:dT)(D:ak Unit):nc l D=b7 (uT l D) ():=rfl
noncomputable def IS:an->Option (bp an an):=λy=>a_ (ns y ew) (λx=>(x.1,x.2.1,y.2.2.1,x.2.2.2.1,y.2.2.2.2.1,x.2.2.2.2.2)) λz=>some (.inr (z.1,z.2.1,y.2.2.1,z.2.2.2.1,y.2.2.2.2.1,z.2.2.2.2.2))
theorem Mr{r:aa}{pd:ao}(a:bq r=some r)(b:ar r≠ .line):cR r pd= .ok false r pd:=by rw[qq,cq,pJ a b];rfl
theorem AF(fr:Bool)(n:Nat):∃cV,(aS fr n).ls=λc no=>om cV c no:=by
 cases n with
 |zero=>exact⟨_,rfl⟩
 |succ n=>exact⟨_,rfl⟩
theorem ak2{e:cK}{v:aa}{pd:ao}{w:aa}(h:dS e v pd)(b:bq v=some v)(c:ar v= .word w true):cZ w v pd= .ok () (v.drop w.length) pd/\v.drop w.length<:+v/\ns (e.st v pd) w=some (.inr (e.st (v.drop w.length) pd)):=by
 have a:cZ w v pd= .ok () (v.drop w.length) pd:=by unfold cZ nb;rw[aM (cb b),c];simp[cB,bV]
 have:=IE w h;rw[a] at this;exact⟨a,this.1,this.2.2⟩
theorem CP{σ α:Type}(y:Option (bp σ α)):a_ y (λx=>x) (λa=>some (.inr a))=y:=by unfold a_;grind
section
variable{R:bg}{n:Nat}(hA:tB R n)(bn:xi R n){e:cK}(bc:e.ne=30- (n:Int))
include hA bn bc
theorem ak3:∀(N:Nat)(r0 r:aa)(pd:ao),r<:+r0->r.length<N->dS e r pd->aX e r0 (cP (uT (aS false n) (a7 false n)) r0 (IQ (aS false n) (a7 false n) r pd)) (λ_=>e.st) (fixF (Hq R IS) N (e.st r pd)):=by
 intro N;induction N with
 |zero=>omega
 |succ N O=>
  intro r0 r pd C nn h;rw[e4];generalize fixF (Hq R IS) N=k at O;unfold Hq a8;unfold IQ;refine aX.tst c3.k (q3 e _) h λr1 qm s1 l D=>?_;dsimp only;have P:=s1.trans C
  have Q:∀(c:aa)(v:ao),c<:+r0->dS e c v->bq c=some c->cB (ar c) ew=true->aX e r0 (cP (uT (aS false n) (a7 false n)) r0 (ae (bV 4) (λ_=>aY (.inr ())) c v)) (λ_=>e.st) (IS (e.st c v)):=by
   intro c v s2 A Z ht;have uQ:ar c= .word ew true:=by grind[cB]
   obtain⟨_,S,aW⟩:=ak2 A Z uQ;unfold IS;rw[e5 aW];exact aX.inr (S.trans s2) (A.mono S) rfl
  by_cases he:cB (ar r1) ew=true
  ·have aw:ar r1≠ .eof:=by intro o;rw[o] at he;cases he
   have E:cB (ar r1) [101,115,97,99]=true:=he;rw[aP aw,bh he,E];simp only[g8,aU];exact Q r1 pd P l D he
  have E:cB (ar r1) [101,115,97,99]=false:=Ge.2 he;rw[E,aP he];simp only[e7,aK];refine aX.dW ?_ (e5 ((rK e [40]).some l D));dsimp only;have T:∀c,c<:+r1->dS e c pd->aX e r0 (cP (uT (aS false n) (a7 false n)) r0 (ae (kq (a7 false n)) (λ_=>ae ((aS false n).ls .item true) λ_=>ae (bN []) λt=>if t= .op [59,59] then ae (bV 2) λ_=>aY (.inl ()) else aY (.inl ())) c pd)) (λ_=>e.st)
    (a_ (k9 R (e.st c pd)) (λx=>x) λy=>fixF (vB R (λy=>a_ (yV y) (λx=>x) λBP=>(a_ (R.kl BP 8 true) (λx=>x) λ(V4,i)=>(a_ (nr i ([59,59]:aa)) (λx=>(x.1,x.2.1,i.2.2.1,x.2.2.2.1,i.2.2.2.2.1,x.2.2.2.2.2)) λ(BQ,f)=>(bif(!BQ) then IS (f.1,f.2.1,i.2.2.1,f.2.2.2.1,i.2.2.2.2.1,f.2.2.2.2.2) else(a_ (k7 (f.1,(W (f.2.1+2)),i.2.2.1,f.2.2.2.1,i.2.2.2.2.1,f.2.2.2.2.2)) (λx=>x) λ(V5,m)=>k (m.1,m.2.1,m.2.2.1,m.2.2.2.1,m.2.2.2.2.1,m.2.2.2.2.2))))))) bB y):=by
   intro c s2 A
   have aZ:∀(K:an->Option (bp an an)),(a_ (k9 R (e.st c pd)) (λx=>x) λy=>fixF (vB R (λy=>a_ (yV y) (λx=>x) K)) bB y)=a_ (a_ (k9 R (e.st c pd)) (λx=>x) λy=>fixF (vB R yV) bB y) (λx=>x) K:=by
    intro K;rw[ou];congr 1
    funext y
    refine Y0 (L:=vB R) (λcm cE hk x=>?_) bB y;unfold vB;dsimp only;rw[ou];congr 1
    funext z
    cases z.1 with
    |true=>simp_all[aK,ou]
    |false=>rfl
   rw[aZ];refine aX.iC c3.k ((ak0 hA bc c pd A).mono (s2.trans P)) (λ_=>rfl) λ_ B b5 Ms iZ eX=>?_;have E6:=Rw (l_ false n) Ms;have ar4:B.length<r.length:=by grind
   have ar5:B.length<r0.length:=by grind
   obtain⟨cV,e6⟩:=AF false n;have UW:=bn.im e .item true (by simp) bc B b5 eX;refine aX.iC c3.k (UW.mono iZ) (λ_=>rfl) λa d g F U p=>?_;dsimp only;have ar6:=((qX false n).ls .item true).sfx F;rw[e6] at F;obtain⟨s,t4⟩:=yQ (by simp) F;rw[aM (cb s)];refine aX.dW ?_ (e5 ((rK e [59,59]).some p s));dsimp only;by_cases G:ar d= .op [59,59]
   ·rw[bh G];have j:((ar d==Tok.op [59,59]):Bool)=true:=by grind
    rw[j];simp only[g8,aU];obtain⟨q,rfl⟩:=(iq G).2.1;have u:q<:+[59,59]++q:=gP [59,59] q;have H:W (ax e.S ([59,59]++q)+2)=ax e.S q:=ku (w:=[59,59]) p.b0 p.sfx;have ar7:q.length<B.length:=by grind
    show aX e r0 (cP _ r0 (.ok (.inl ()) q g)) _ (a_ (k7 (e.S,W (ax e.S ([59,59]++q)+2),g,e.ne,e.op,e.iH)) _ _);rw[H];have I:=p.mono u;have J:cP (uT (aS false n) (a7 false n)) r0 (.ok (.inl ()) q g)=b7 (uT (aS false n) (a7 false n)) () q g:=by show(if q.length<r0.length then _ else _)=_;grind
    rw[J,cq];refine aX.mono ?_ ((u.trans U));unfold uT;refine aX.AD c3.k I fT λb eQ lk _ mQ mo=>?_;exact O q eQ lk mQ (by grind) mo
   ·rw[aP G];have j:((ar d==Tok.op [59,59]):Bool)=false:=by grind
    rw[j];simp only[e7,aK];have V:cB (ar d) ew=true:=by grind[dE]
    have X:ar d≠ .line/\ar d≠ .eof:=by grind[ar,ew,cB]
    have nG:d.length<r0.length:=by grind
    have J:cP (uT (aS false n) (a7 false n)) r0 (aY (.inl ()) d g)=cP (uT (aS false n) (a7 false n)) d (ae (bV 4) (λ_=>aY (.inr ())) d g):=by show(if d.length<r0.length then _ else _)=_;rw[bh nG,cq];congr 1;show ae cR (λ_=>IQ (aS false n) (a7 false n)) d g=_;rw[aM (Mr s X.1)];unfold IQ;rw[aM (cb s),aP X.2,bh V]
    rw[J];have:=Q d g U p s V;exact this
  by_cases aB:ar r1= .op [40]
  ·have j:((ar r1==Tok.op [40]):Bool)=true:=by grind
   rw[bh aB,aP (by grind),j];simp only[cond_true];obtain⟨q,rfl⟩:=(iq aB).2.1;have u:q<:+[40]++q:=List.suffix_append [40] q;have H:W (ax e.S ([40]++q)+1)=ax e.S q:=ku (w:=[40]) l.b0 l.sfx;have:=T q u (l.mono u);show aX e r0 (cP _ r0 (ae (kq (a7 false n)) _ q pd)) _ (a_ (k9 R (e.S,W (ax e.S ([40]++q)+1),pd,e.ne,e.op,e.iH)) _ _);rw[H];refine aX.dW this ?_;congr 1
   funext y
   congr 2
   funext z
   unfold yV;rw[ou];rfl
  ·have j:((ar r1==Tok.op [40]):Bool)=false:=by grind
   rw[j];simp only[aU];have M:=T r1 fT l;have bx:∀(y Y:Option (bp an an)),Y=y->aX e r0 (cP (uT (aS false n) (a7 false n)) r0 (ae (kq (a7 false n)) (λ_=>ae ((aS false n).ls .item true) λ_=>ae (bN []) λt=>if t= .op [59,59] then ae (bV 2) λ_=>aY (.inl ()) else aY (.inl ())) r1 pd)) (λ_=>e.st) y->
     aX e r0 (cP (uT (aS false n) (a7 false n)) r0 ((if ar r1= .eof then b3 [] else ae (if ar r1= .op [40] then bV 1 else aY ()) λ_=>ae (kq (a7 false n)) λ_=>ae ((aS false n).ls .item true) λ_=>ae (bN []) λt=>if t= .op [59,59] then ae (bV 2) λ_=>aY (.inl ()) else aY (.inl ()):ak (Unit⊕Unit)) r1 pd)) (λ_=>e.st) Y:=by
    rintro y _ rfl o;by_cases hf:ar r1= .eof
    ·rw[bh hf]
     have aB:∃nd ds,kq (a7 false n) r1 pd= .more [] nd ds:=by unfold kq;rw[cq,aM (cb D),hf];exact⟨_,_,rfl⟩
     obtain⟨nd,ds,aB⟩:=aB;rw[db aB] at o;exact o
    ·rw[aP hf,aP aB];exact o
   refine bx _ _ ?_ M;congr 1
   funext y
   congr 2
   funext z
   unfold yV;rw[ou];rfl
theorem ak7:qx e (qk (aS false n) (a7 false n)) (λ_=>e.st) (Ea R):=by
 intro r pd h;unfold Ea;have a:=R8 hA bc ([120,32]++fb++[10]++ew) r pd h;unfold qk;unfold jM at a;cases aB:bN ([120,32]++fb++[10]++ew) r pd with
 |more op nd ds=>rw[db aB] at a⊢;obtain⟨st,c,i⟩:=a;exact⟨st,hL c,i⟩
 |bad q=>rw[gZ aB] at a⊢;obtain⟨g,st,c⟩:=a;exact⟨g,st,hL c⟩
 |deep q=>
  have:ae (bN ([120,32]++fb++[10]++ew)) (λt=>match t with
   | .eof=>b3 ([120,32]++fb++[10]++ew)
   | .word _ _=>cI (a7 false n)
   |_=>bK) r pd= .deep q:=by grind[ae]
  unfold ae;rw[aB];trivial
 |ok t r1 aD=>
  rw[aM aB] at a⊢;obtain⟨A,rfl,rfl⟩:=IH aB;have s1:=dU A;cases k:ar r1 with
  |eof=>rw[k] at a;obtain⟨st,c,i⟩:=a;exact⟨st,hL c,i⟩
  |line=>rw[k] at a;obtain⟨g,st,c⟩:=a;exact⟨g,st,hL c⟩
  |op o=>rw[k] at a;obtain⟨g,st,c⟩:=a;exact⟨g,st,hL c⟩
  |word w p=>
   rw[k] at a;dsimp only at a⊢;refine aX.YZ ?_;rw[ks];refine aX.iC (C:=λx=>x) c3.id a (λ_=>rfl) λ_ K L _ s2 B=>?_;rw[ks];refine aX.AD (C:=λx=>x) c3.id B s2 λb y m _ D s=>?_;dsimp only;rw[ks];have E:=D.trans s2;cases j:bq y with
   |none=>rw[db (iB j)];unfold ns;exact((((q3 e _).none s j).bind λ_=> .inl rfl).bind λ_=> .inr rfl).rJ
   |some d=>
    rw[aM (cb j)];have z:=dU j;have F:=s.mono z;have M:=kG _ _ _ (cX _) j;have f:=IE [105,110] s;have he:cZ [105,110] y m=(if ar d= .eof then b3 [] else if cB (ar d) [105,110] then bV 2 else bK:ak Unit) d m:=by unfold cZ nb;grind[aM,cb]
    rw[he] at f;by_cases ad:ar d= .eof
    ·rw[bh ad] at f⊢;obtain⟨st,c,i⟩:=f;exact⟨_,hL c,by simp;rfl⟩
    rw[aP ad] at f⊢;rw[show ae (aY (ar d)) (λt=>if cB t fb=true then ae (bV 2) λ_=>(nc (aS false n) (a7 false n)).aJ (10::ew) else bK)=(if cB (ar d) fb=true then ae (bV 2) λ_=>(nc (aS false n) (a7 false n)).aJ (10::ew) else bK) from rfl];by_cases l:cB (ar d) fb=true
    ·have u:cB (ar d) [105,110]=true:=l;rw[bh u] at f;rw[bh l];obtain⟨c,i,G⟩:=f;refine aX.dW ?_ (e5 G);have aG:d.drop 2<:+d:=lK _ _;show aX e r ((nc (aS false n) (a7 false n)).aJ (10::ew) (d.drop 2) m) _ _;refine aX.aJ ?_;rw[ak1,cq];refine aX.mono ?_ (aG.trans (z.trans E));unfold uT;refine aX.AD c3.k (F.mono aG) fT λb H I _ J v=>?_;have:=ak3 hA bn bc bB (d.drop 2) H I J (lq (lL (eL v.sfx) v.b0)) v;exact this
    ·have u:¬cB (ar d) [105,110]=true:=l;rw[aP u] at f;rw[aP l];obtain⟨g,st,c⟩:=f;exact⟨g,_,hL c⟩
end
theorem Y5{t:Tok}(h:gX t=true):(jj t).2.1=mH t/\0<(mH t).length:=by
 cases t with
 |eof=>cases h
 |line=>cases h
 |op o=>
  have:o=[40]:=by grind[gX]
  subst this;decide
 |word w p=>
  cases p with
  |false=>cases h
  |true=>
   refine⟨rfl,?_⟩;cases w with
   |nil=>exact absurd h (by decide)
   |cons a b=>simp[mH]
def CQ(l:dT)(t:Tok):ak Unit:=match t with
 | .op _=>ae ((l.ls .paren false).aJ [41]) λ_=>jA [41]
 | .word w _=>
  if w=[123] then ae ((l.ls .qh false).aJ [10,125]) λ_=>cZ [125]
  else if w=lV then qj l
  else if w=nz then pG l l.dl
  else if w=nA then qk l l.dl
  else ae ((l.ls .pE false).aJ eo) λ_=>iO l eo
 |_=>bK
theorem Y6{l:dT}{t:Tok}(h:gX t=true)(r:aa)(pd:ao):gY l t r pd=CQ l t (r.drop (mH t).length) pd:=by
 cases t with
 |eof=>cases h
 |line=>cases h
 |op o=>rfl
 |word w p=>rfl
theorem Y7{R:bg}{n:Nat}(aw:n<=30)(hA:∀m,n=m+1->tB R m/\xi R m){e:cK}(bc:e.ne=30- (n:Int)){r:aa}{pd:ao}(h:dS e r pd)(K:bq r=some r)(aF:gX (ar r)=true):
  aX e r ((aS false n).cp (ar r) r pd) (λ_=>e.st) (BT R (e.st r pd)):=by
 cases n with
 |zero=>trivial
 |succ m=>
  obtain⟨E,g⟩:=hA m rfl;obtain⟨L,Si⟩:=Y5 aF;have M:mH (ar r)<+:r:=by
   cases b:ar r with
   |eof=>rw[b] at aF;cases aF
   |line=>rw[b] at aF;cases aF
   |op o=>
    rw[b] at aF;have:o=[40]:=by grind[gX]
    subst this;exact(iq b).2.1
   |word w p=>
    rw[b] at aF;cases p with
    |false=>cases aF
    |true=>exact(qp b).1
  unfold BT a8;refine aX.dW ?_ (e5 ((kW e).some h K));dsimp only;rw[L];generalize l:mH (ar r)=x at*;have N:=Mb (p:=ax e.S r) (x:=x) h (by omega) (by omega);refine aX.dW ?_ (e5 N);show aX e r ((gY (aS false m) (ar r)).named (mH (ar r)) r pd) _ _;rw[l];obtain⟨q,rfl⟩:=M;have d:q<:+x++q:=gP x q;have hl:q.length<(x++q).length:=by grind
  have O:W (ax e.S (x++q)+(x.length:Int))=ax e.S q:=ku h.b0 h.sfx;have j:=h.fw (x:=x) d hl;have P:(((e.fw x).st (x++q) pd).1,(W (((e.fw x).st (x++q) pd).2.1+(x.length:Int))),((e.fw x).st (x++q) pd).2.2.1,((e.fw x).st (x++q) pd).2.2.2.1,((e.fw x).st (x++q) pd).2.2.2.2.1,((e.fw x).st (x++q) pd).2.2.2.2.2)=(e.fw x).st q pd:=by show(e.S,W (ax e.S (x++q)+(x.length:Int)),pd,e.ne+1,e.op++[x],e.iH)=_;rw[O];rfl
  rw[P];have i:(e.fw x).ne=30- (m:Int):=by show e.ne+1=_;omega
  have Q:gY (aS false m) (ar (x++q)) (x++q) pd=CQ (aS false m) (ar (x++q)) q pd:=by grind[Y6,List.drop_left]
  have f:∀(y:Option (bp an an))(z:Option (bp an an)),aX (e.fw x) (x++q) (CQ (aS false m) (ar (x++q)) q pd) (λ_=>(e.fw x).st) y->z=a_ y (λx=>x) (λy=>au (uk y) λy=>some (.inr y))->aX e (x++q) ((gY (aS false m) (ar (x++q))).named x (x++q) pd) (λ_=>e.st) z:=by
   rintro y _ F rfl;rw[<-Q] at F;have k:=F.named;cases hk:((gY (aS false m) (ar (x++q))).named x) (x++q) pd with
   |ok a r1 aD=>rw[hk] at k;obtain⟨s,t,S⟩:=k;refine⟨s,t.out,?_⟩;rw[e5 S];exact(aO (Mc (r:=r1) (pd:=aD) (x:=x) h.xg (show 0<=e.ne by omega) (by omega))).trans rfl
   |more op nd ds=>rw[hk] at k;obtain⟨st,s,t⟩:=k;exact⟨st,hL s,t⟩
   |bad T=>rw[hk] at k;obtain⟨s,st,t⟩:=k;exact⟨s,st,hL t⟩
   |deep T=>trivial
  have G:(aS false m).dl=a7 false m:=xh false m;cases b:ar (x++q) with
  |eof=>rw[b] at aF;cases aF
  |line=>rw[b] at aF;cases aF
  |op o=>
   rw[b] at aF f l;have v:x=[40]:=l.symm;subst v;simp only[bz,aK];refine f (a_ (R.kl ((e.fw [40]).st q pd) 1 false) (λx=>x) λy=>a_ (sc y.2 [41]) (λx=>(x.1,x.2.1,y.2.2.2.1,x.2.2.2.1,y.2.2.2.2.2.1,x.2.2.2.2.2)) λz=>some (.inr (z.1,z.2.1,y.2.2.2.1,z.2.2.2.1,y.2.2.2.2.2.1,z.2.2.2.2.2))) _ ?_ ?_
   ·refine aX.ls (c:= .paren) (C:=λx=>x) c3.id g i j d λa A B s2 u=>?_;exact aX.akK u (s2.trans d) λU=>rfl
   ·rw[ou];congr 1
    funext y
    rw[ou];rfl
  |word w p=>
   rw[b] at aF f l;have v:x=w:=l.symm;subst v;have D:qg x=true:=by
    cases p with
    |true=>exact aF
    |false=>cases aF
   have V:decide (x=[40])=false:=by rw[Gj];rintro rfl;exact absurd D (by decide)
   simp only[V,aU];by_cases ad:x=[123]
   ·subst ad;simp only[bz,aK];refine f (a_ (R.kl ((e.fw [123]).st q pd) 2 false) (λx=>x) λy=>a_ (ns y.2 [125]) (λx=>(x.1,x.2.1,y.2.2.2.1,x.2.2.2.1,y.2.2.2.2.2.1,x.2.2.2.2.2)) λz=>some (.inr (z.1,z.2.1,y.2.2.2.1,z.2.2.2.1,y.2.2.2.2.2.1,z.2.2.2.2.2))) _ ?_ ?_
    ·refine aX.ls (c:= .qh) (C:=λx=>x) c3.id g i j d λa A B s2 u=>?_;exact aX.YT u (s2.trans d) λU=>rfl
    ·rw[ou];congr 1
     funext y
     rw[ou];rfl
   simp only[ad,bF,aU];by_cases H:x=lV
   ·subst H;rw[show decide (lV=[105,102])=true from rfl];simp only[aK];refine f (Ef R ((e.fw lV).st q pd)) _ ((akQ g i q pd j).mono d) ?_;rfl
   have X:decide (x=[105,102])=false:=Gj.2 H;rw[X];simp only[aU];by_cases I:x=nz
   ·subst I;rw[show decide (nz=[102,111,114])=true from rfl];simp only[aK];refine f (Ed R ((e.fw nz).st q pd)) _ ?_ rfl;have:=(akX E g i q pd j).mono d;rw[<-G] at this;exact this
   have Y:decide (x=[102,111,114])=false:=Gj.2 I;rw[Y];simp only[aU];by_cases J:x=nA
   ·subst J;rw[show decide (nA=[99,97,115,101])=true from rfl];simp only[aK];refine f (Ea R ((e.fw nA).st q pd)) _ ?_ rfl;have:=(ak7 E g i q pd j).mono d;rw[<-G] at this;exact this
   have Z:decide (x=[99,97,115,101])=false:=Gj.2 J;rw[Z];simp only[aU];refine f (a_ (R.kl ((e.fw x).st q pd) 6 false) (λx=>x) λy=>a_ (tf R y.2) (λx=>x) λz=>some (.inr z)) _ ?_ ?_
   ·have:CQ (aS false m) (.word x p)=ae (((aS false m).ls .pE false).aJ eo) λ_=>iO (aS false m) eo:=by simp_all[CQ,aP]
    rw[this];refine aX.ls (c:= .pE) (C:=λx=>x) c3.id g i j d λa A B s2 u=>?_;dsimp only;rw[CP];exact(Ss g i _ A B u).mono (s2.trans d)
   ·rw[ou];congr 1
    funext y
    rw[ou];rfl
def vX(R:bg)(n:Nat):Prop:=∀m,m<=n->tB R m
theorem vX.at{R:bg}{n:Nat}(h:vX R n):tB R n:=h n (cX _)
theorem vX.low{R:bg}{n:Nat}(h:vX R n):∀m,n=m+1->tB R m/\xi R m:=λm hm=>⟨h m (by omega),(h n (cX _)).ls m hm⟩
def js(fr:Bool):Nat->Option dT
 |0=>none
 |n+1=>some (aS fr n)
theorem Y9(fr:Bool)(n:Nat):(aS fr n).cp=sw (js fr n):=by cases n<;>rfl
theorem Fv(fr:Bool)(n:Nat):a7 fr n=dw (js fr n):=by cases n<;>rfl
theorem ak9{R:bg}{n:Nat}(hA:vX R n){e:cK}(bc:e.ne=30- (n:Int)){u:aa}{pd:ao}(h:dS e (40::u) pd):
  aX e (40::u) (lW false (js false n) (40::u) pd) (λ_=>e.st) (HE R (e.st (40::u) pd)):=by
 have hle:=hA.at.le;cases n with
 |zero=>trivial
 |succ m=>
  cases m with
  |zero=>trivial
  |succ k=>
   show aX e (40::u) (lW false (some (aS false (k+1))) (40::u) pd) _ _;unfold lW;dsimp only;rw[bh (show(aS false (k+1)).has=true from rfl)];unfold HE a8;have Mu:W (e.ne+2)=e.ne+2:=dV (by omega) (by omega);have M:decide (30<W ((e.st (40::u) pd).2.2.2.1+2))=false:=by show decide (30<W (e.ne+2))=false;grind
   rw[M];simp only[aU];have N:=Mb (p:=ax e.S (40::u)) (x:=[102,40,41]) h (by omega) (by omega);refine aX.dW ?_ (e5 N);have hu:u<:+40::u:=ee 40 u;have o:=h.fw (x:=[102,40,41]) hu (by simp);have O:W (ax e.S (40::u)+1)=ax e.S u:=iP h.b0 h.sfx;have P:(e.fw [102,40,41]).ne=30- ((k+1:Nat):Int):=by show e.ne+1=_;omega
   have Q:(((e.fw [102,40,41]).st (40::u) pd).1,(W (((e.fw [102,40,41]).st (40::u) pd).2.1+1)),((e.fw [102,40,41]).st (40::u) pd).2.2.1,((e.fw [102,40,41]).st (40::u) pd).2.2.2.1,((e.fw [102,40,41]).st (40::u) pd).2.2.2.2.1,((e.fw [102,40,41]).st (40::u) pd).2.2.2.2.2)=(e.fw [102,40,41]).st u pd:=by show(e.S,W (ax e.S (40::u)+1),pd,e.ne+1,e.op++[[102,40,41]],e.iH)=_;rw[O];rfl
   rw[Q];generalize S:(ae (bV 1) λ_=>ae (bN [41,32,123,32,120,10,125]) λt=>if t= .eof then b3 [41,32,123,32,120,10,125] else if t= .op [41] then
    ae (bV 1) λ_=>ae (cR.aJ [123,32,120,10,125]) λ_=>ae (bN [123,32,120,10,125]) λt=>if t= .eof then b3 [123,32,120,10,125] else
     if gX t then ae ((aS false (k+1)).cp t) λ_=>if false=true then(aS false (k+1)).rd else aY () else bK
    else bK:ak Unit)=B
   have T:∀K:an->Option (bp an an),(∀r1 aD,K ((e.fw [102,40,41]).st r1 aD)=some (.inr (e.st r1 aD)))->
     ∀y,aX (e.fw [102,40,41]) (40::u) (B (40::u) pd) (λ_=>(e.fw [102,40,41]).st) y->aX e (40::u) ((B.named [102,40,41]) (40::u) pd) (λ_=>e.st) (a_ y (λx=>x) K):=by
    intro K mc y U;have d:=U.named;cases hk:(B.named [102,40,41]) (40::u) pd with
    |ok a r1 aD=>rw[hk] at d;obtain⟨f,i,v⟩:=d;exact⟨f,i.out,by grind[e5]⟩
    |more op nd ds=>rw[hk] at d;obtain⟨st,f,i⟩:=d;exact⟨st,hL f,i⟩
    |bad V=>rw[hk] at d;obtain⟨f,st,i⟩:=d;exact⟨f,st,hL i⟩
    |deep V=>trivial
   have A:∀r1 aD,(au (uk ((e.fw [102,40,41]).st r1 aD)) λ(D:an)=>(some (.inr D):Option (bp an an)))=some (.inr (e.st r1 aD)):=λr1 aD=>
    (aO (Mc (r:=r1) (pd:=aD) (x:=[102,40,41]) h.xg (show 0<=e.ne by omega) (by omega))).trans rfl
   have E:=T (λX=>au (uk X) λ(D:an)=>some (.inr D)) A
    (a_ (sc ((e.fw [102,40,41]).st u pd) ([41]:aa)) (λx=>(x.1,x.2.1,pd,x.2.2.2.1,e.op++[[102,40,41]],x.2.2.2.2.2)) λ(q:an)=>
     (a_ (k7 (q.1,q.2.1,pd,q.2.2.2.1,e.op++[[102,40,41]],q.2.2.2.2.2)) (λx=>x) λy=>
     (a_ (D4 y.2) (λx=>(x.1,x.2.1,y.2.2.2.1,x.2.2.2.1,y.2.2.2.2.2.1,x.2.2.2.2.2)) λz=>
     (bif(!z.1) then
     a_ (kD (z.2.1,z.2.2.1,y.2.2.2.1,z.2.2.2.2.1,y.2.2.2.2.2.1,z.2.2.2.2.2.2)) (λx=>(x.1,x.2.1,y.2.2.2.1,x.2.2.2.1,y.2.2.2.2.2.1,x.2.2.2.2.2)) λy=>Empty.elim y
     else
     BT R (z.2.1,z.2.2.1,y.2.2.2.1,z.2.2.2.2.1,y.2.2.2.2.2.1,z.2.2.2.2.2.2)))))
   have F:=E (by
    rw[<-S];show aX (e.fw [102,40,41]) (40::u) (ae (bN [41,32,123,32,120,10,125]) _ u pd) _ _;have Y:=o;cases g:bq u with
    |none=>rw[db (iB g)];unfold sc;exact((((rK _ _).none o g).bind λ_=> .inl rfl).bind λ_=> .inr rfl).rJ
    |some r1=>
     rw[aM (cb g)];have s1:=dU g;have Z:=o.mono s1;have f:=kG _ _ _ (cX _) g;have c:=L7 [41] o;have he:jA [41] u pd=(if ar r1= .eof then b3 [] else if(ar r1==Tok.op [41])=true then bV 1 else bK:ak Unit) r1 pd:=by unfold jA nb;rw[aM (cb g)];rfl
     rw[he] at c;by_cases ad:ar r1= .eof
     ·rw[bh ad] at c⊢;obtain⟨st,s,aW⟩:=c;exact⟨_,hL s,by simp;rfl⟩
     rw[aP ad] at c⊢;by_cases H:ar r1= .op [41]
     ·rw[bh (by grind)] at c;rw[if_pos H];obtain⟨s,aW,fY⟩:=c;refine aX.dW ?_ (e5 fY);have aG:r1.drop 1<:+r1:=List.drop_suffix _ _;show aX (e.fw [102,40,41]) (40::u) (ae (cR.aJ [123,32,120,10,125]) _ (r1.drop 1) pd) _ _;have I:r1.drop 1<:+40::u:=aG.trans (s1.trans hu);refine aX.lines (C:=λx=>x) c3.id (Z.mono aG) I λb az dP _ s2 v2=>?_;refine aX.tst (C:=λx=>x) c3.id (Ys _) v2 λJ rH iZ L v=>?_;dsimp only;cases aF:gX (ar J) with
      |true=>
       have aw:ar J≠ .eof:=by intro l;rw[l] at aF;cases aF
       rw[aP aw];simp only[cH,g8,aU,eB,cr]
       have:=Y7 (R:=R) (n:=k+1) (by omega) (λm hm=>by
        have G:vX R (k+1):=λj cw=>hA j (by omega);exact G.low m hm) P L v aF
       rw[Fk];exact this.mono (iZ.trans (s2.trans I))
      |false=>simp only[e7,aK,eB,cr];exact Mh (x:=[123,32,120,10,125]) L v (λl=>bh l) (λl=>aP l) λ_=> .inr rfl
     ·rw[aP (by grind)] at c;rw[if_neg H];obtain⟨n3,st,s⟩:=c;exact⟨n3,_,hL s⟩)
   refine aX.dW F ?_;rw[ou];congr 1
   funext y
   rw[ou];congr 1
   funext z
   rw[ou];congr 1
   funext w
   cases w.1 with
   |true=>rfl
   |false=>simp only[Bool.not_false,cond_true];rw[ou];grind
theorem uU{D:ak Unit}{r r':aa}{pd:ao}(b:bq r=some r')(aw:eZ (bt (r'.dropWhile ca))=false):dv D r pd= .ok false r' pd:=by
 have a:fN r pd= .ok none r' pd:=by simp_all[fN,aP]
 unfold dv;rw[aM a];rfl
theorem Y_{D:ak Unit}{r r':aa}{pd:ao}(c:bq r=some r')(aw:eZ (bt (r'.dropWhile ca))=true){b:Bool}{r1:aa}{aD:ao}(h:dv D r pd= .ok b r1 aD):b=true:=by
 have a:fN r pd= .ok (some (bt (r'.dropWhile ca))) ((r'.dropWhile ca).drop (bt (r'.dropWhile ca)).length) pd:=by simp_all[fN,bh]
 unfold dv at h;rw[aM a] at h;obtain⟨_,_,_,_,h⟩:=b4 h;cases h;rfl
theorem ald{b:UInt8}{t:aa}(h:bt (b::t)≠[]):ca b=false:=by
 cases a:ca b with
 |false=>rfl
 |true=>simp_all[absurd,nY,AB]
theorem Za{R:bg}{n:Nat}(hA:vX R n){e:cK}(bc:e.ne=30- (n:Int)):qx e (fl false (js false n) (a7 false n)) (λ_=>e.st) (z6 R):=by
 intro r pd h;unfold fl z6;have a:=hA.at;refine aX.tst (C:=λx=>x) c3.id (Ys e) h λr1 qm s1 c d=>?_;dsimp only;by_cases aF:gX (ar r1)=true
 ·have aw:ar r1≠ .eof:=by intro g;rw[g] at aF;cases aF
  rw[aP aw,bh aF,aF];simp only[aK];have J:=Y7 (R:=R) (n:=n) a.le (λm hm=>hA.low m hm) bc c d aF;rw[Y9] at J;refine aX.iC (C:=λx=>x) c3.id (J.mono s1) (λ_=>rfl) λ_ l q _ s2 i=>?_;rw[CP];exact(YR a bc l q i).mono s2
 have E:gX (ar r1)=false:=by grind
 rw[E];simp only[aU,eB,cr];refine aX.dW ?_ (e5 ((kW e).some c d));dsimp only;unfold a8;have F:∀(m:ak Unit)(z:Bool)(K:an->Option (bp an an)),eZ (bt (r1.dropWhile ca))=false->(ar r1= .eof->m=b3 [120])->(ar r1≠ .eof->m=bK)->z=false->aX e r (m r1 pd) (λ_=>e.st)
   (bif z then a_ (kD ((e.st r1 pd).1,(e.st r1 pd).2.1,(e.st r pd).2.2.1,(e.st r1 pd).2.2.2.1,(e.st r pd).2.2.2.2.1,(e.st r1 pd).2.2.2.2.2)) (λx=>(x.1,x.2.1,(e.st r pd).2.2.1,x.2.2.2.1,(e.st r pd).2.2.2.2.1,x.2.2.2.2.2)) λy=>Empty.elim y
    else a_ (yl R ((e.st r1 pd).1,(e.st r1 pd).2.1,(e.st r pd).2.2.1,(e.st r1 pd).2.2.2.1,(e.st r pd).2.2.2.2.1,(e.st r1 pd).2.2.2.2.2)) (λx=>x) λw=>bif w.1 then a_ (z5 R w.2) (λx=>x) (λO=>some (.inr O)) else
     a_ (kD w.2) (λx=>(x.1,x.2.1,w.2.2.2.1,x.2.2.2.1,w.2.2.2.2.2.1,x.2.2.2.2.2)) λy=>Empty.elim y):=by
  rintro m _ K v P Q rfl;simp only[aU];have j:=IM a bc r1 pd c;rw[uU d v] at j;refine aX.dW ?_ (e5 j.2.2);simp only[aU];exact Mh (x:=[120]) c d P Q λ_=> .inr rfl
 have S:eZ []=false:=by decide
 cases f:ar r1 with
 |eof=>
  have mO:r1=[]:=by
   cases r1 with
   |nil=>rfl
   |cons b t=>exfalso;have uQ:(if b=10 then Tok.line else if bt (b::t)≠[] then .op (bt (b::t)) else .word (c5 (b::t)).1 (c5 (b::t)).2)=Tok.eof:=f;grind
  simp only[jj,cY,show¬((0:Int)=3) by decide,bF,aU,cH,eB,cr,e7,aK];have:=F (b3 [120]) false (λ_=>none) (by simp_all[bt,lh,xJ,List.isPrefixOf]) (λ_=>rfl) (λg=>absurd f g) rfl;exact this
 |line=>obtain⟨t,rfl⟩:=vT f;simp only[jj,cY,show¬((1:Int)=3) by decide,bF,aU,cH,eB,cr,e7,aK,reduceCtorEq];have fD:bt (10::t)=[]:=nY (by decide);have:=F bK false (λ_=>none) (by rfl) (λg=>by grind) (λ_=>rfl) rfl;exact this
 |op o=>
  simp only[jj,cY,show¬((2:Int)=3) by decide,bF,aU,cH,eB,cr,e7,aK,reduceCtorEq];have T:=(iq f).1;have CM:r1.dropWhile ca=r1:=by
   cases r1 with
   |nil=>rfl
   |cons b t=>exact JB (by rw[ald (b:=b) (t:=t) (by rw[<-T];exact(iq f).2.2.2)];simp)
  by_cases v:eZ o=true
  ·rw[bh v];have j:=IM a bc r1 pd c;refine aX.iC (C:=λx=>x) c3.id (j.mono s1) (λ_=>rfl) λb l q A s2 i=>?_;have s:=Y_ d (by grind) A;subst s;simp only[aK];rw[CP];exact(Mp a bc l q i).mono s2
  ·rw[aP v];have:=F bK false (λ_=>none) (by grind) (λg=>by grind) (λ_=>rfl) rfl;exact this
 |word w p=>
  simp only[jj,bz,aK,reduceCtorEq,cr,g8,aU];rw[akl,gf];have U:(bif p then(if p=true then rF w else false) else false)=(p&&rF w):=by simp
  rw[U];cases Mv:(p&&rF w) with
  |true=>simp only[aK,cH];exact Mh (x:=[]) c d (λg=>by grind) (λ_=>rfl) λ_=> .inr rfl
  |false=>
   simp only[aU,eB,cr];have j:=IM a bc r1 pd c;refine aX.iC (C:=λx=>x) c3.id (j.mono s1) (λ_=>rfl) λb l q A s2 i=>?_;cases b with
   |true=>simp only[aK,cH];rw[CP];exact(Mp a bc l q i).mono s2
   |false=>
    simp only[aU,eB,cr];have V:eZ (bt (r1.dropWhile ca))=false:=by grind[eZ,bt,ca,Y_]
    rw[uU d V] at A;cases A;refine aX.iC (C:=λx=>x) c3.id ((Mg a bc i d f).mono s2) (λ_=>rfl) λ_ G B _ H L=>?_;have W:aX e r (hg false (a7 false n) G B) (λ_=>e.st) (a_ (z5 R (e.st G B)) (λx=>x) λX=>some (.inr X)):=by rw[CP];exact(Mp a bc G B L).mono H
    have Y:zX w=some (l7 w)\/p=false:=by
     cases p with
     |false=>simp
     |true=>left;have:=(qp f).1.length_le;have:=eL c.sfx;have:=h.b0;grind[yT]
    have Z:∀(k:Bool->Option (bp an an)),cY (p=true) (zX w) false k=k (p&&l7 w):=by
     intro k;rcases Y with ad|rfl
     ·grind[gf]
     rfl
    refine aX.dW ?_ (Z _);cases AG:(p&&l7 w) with
    |false=>simp_all[aX.dW,Yn,aU,eB,cr]
    |true=>
     have aB:p=true:=by grind
     subst aB;refine aX.dW ?_ (yO rfl);simp only[cH];refine aX.tst (C:=λx=>x) c3.id (rK e [40]) L λD AE M N i4=>?_;dsimp only[cond_true];by_cases I:ar D= .op [40]
     ·have s:((ar D==Tok.op [40]):Bool)=true:=by grind
      rw[bh I,s];simp only[aK];obtain⟨u,rfl⟩:=(iq I).2.1;refine aX.iC (C:=λx=>x) c3.id ((ak9 hA bc N).mono (M.trans H)) (λ_=>rfl) λ_ eQ lk _ mQ mo=>?_;rw[CP];exact(YR a bc eQ lk mo).mono mQ
     ·have s:((ar D==Tok.op [40]):Bool)=false:=by grind
      rw[aP I,s];simp only[aU];rw[CP];exact(Mp a bc D B N).mono (M.trans H)
theorem Sv{e:cK}{r o:aa}{pd:ao}(v:dS e r pd)(b:ar r= .op o):r.drop o.length<:+r/\(r.drop o.length).length<r.length/\dS e (r.drop o.length) pd/\W (ax e.S r+(o.length:Int))=ax e.S (r.drop o.length):=by obtain⟨_,⟨q,rfl⟩,_,bc⟩:=iq b;have hl:0<o.length:=JD.2 bc;rw[o5];have a:q<:+o++q:=gP o q;exact⟨a,by grind,v.mono a,ku v.b0 v.sfx⟩
def q5(fr:Bool)(n:Nat):ak Unit:=fl fr (js fr n) (a7 fr n)
theorem Zb(fr:Bool)(n:Nat):aq (q5 fr n):=by
 unfold q5;refine aq.command (λl hl=>?_) (l_ fr n);cases n with
 |zero=>cases hl
 |succ m=>cases hl;simp[qX]
theorem Zc(fr:Bool)(n:Nat):aq (ff (q5 fr n)):=aq.pipe (Zb fr n)
section
variable{R:bg}{n:Nat}(hA:vX R n){e:cK}(bc:e.ne=30- (n:Int))
include hA bc
theorem Zd:qx e (ff (q5 false n)) (λ_=>e.st) (BZ R):=by
 intro r pd h;unfold ff BZ a8;refine aX.tst (C:=λx=>x) c3.id (q3 e [33]) h λr1 X s1 d Y=>?_;dsimp only;have u:∀c,c<:+r->dS e c pd->aX e r (ae (q5 false n) (λ_=>b7 (λ_=>ae (bN []) λt=>if t= .op [124] then ae (bV 1) λ_=>ae (cR.aJ [120]) λ_=>ae (q5 false n) λ_=>aY (.inl ()) else aY (.inr ())) ()) c pd) (λ_=>e.st)
   (a_ (z6 R (e.st c pd)) (λx=>x) λ(E:an)=>fixF (K2 R λy=>some (.inr y)) bB E):=by
  intro c s2 F;refine aX.iC (C:=λx=>x) c3.id ((Za hA bc c pd F).mono s2) (λ_=>rfl) λ_ G H _ I f=>?_;refine aX.mono ?_ I;refine aX.rep (en:=λ_ r pd=>e.st r pd) (λk s g v J hk=>?_) bB () G H (lq (lL (eL f.sfx) f.b0)) f;unfold K2;refine aX.tst c3.k (rK e [124]) J λa Z i z i5=>?_;dsimp only;by_cases j:ar a= .op [124]
  ·have l:((ar a==Tok.op [124]):Bool)=true:=by grind
   rw[bh j,l];simp only[aK];obtain⟨m,K,A,B⟩:=Sv z j;show aX e g (cP _ g (ae (cR.aJ [120]) _ (a.drop 1) v)) _ (a_ (k7 (e.S,W (ax e.S a+1),v,e.ne,e.op,e.iH)) _ _);rw[show([124]:aa).length=1 from rfl] at m K A B;have L:W (ax e.S a+1)=ax e.S (a.drop 1):=B;rw[L];refine aX.lines c3.k A (m.trans i) λb M N _ O P=>?_;have Q:=O.trans (m.trans i);refine aX.iC c3.k ((Za hA bc M N P).mono Q) (λ_=>rfl) λ_ S qW T Ft IP=>?_;have U:S.length<g.length:=by have cS:=((Zb false n).sfx T).length_le;grind
   grind[aX.inl]
  ·have l:((ar a==Tok.op [124]):Bool)=false:=by grind
   rw[aP j,l];exact aX.inr i z rfl
 by_cases o:cB (ar r1) [33]=true
 ·rw[bh o,o];simp only[aK];have p:ar r1= .word [33] true:=by grind[cB]
  obtain⟨q,rfl⟩:=(qp p).1;have D:q<:+[33]++q:=gP [33] q;have V:W (ax e.S ([33]++q)+1)=ax e.S q:=ku (w:=[33]) d.b0 d.sfx;have:=u q (D.trans s1) (d.mono D);show aX e r (ae (q5 false n) _ q pd) _ (a_ (z6 R (e.S,W (ax e.S ([33]++q)+1),pd,e.ne,e.op,e.iH)) _ _);rw[V];exact this
 ·have p:cB (ar r1) [33]=false:=by grind
  rw[aP o,p];exact u r1 s1 d
theorem Sx:qx e (hi (ff (q5 false n))) (λ_=>e.st) (z7 R):=by
 intro r pd h;unfold hi z7 a8;refine aX.iC (C:=λx=>x) c3.id (Zd hA bc r pd h) (λ_=>rfl) λ_ z A _ B f=>?_;refine aX.mono ?_ B;refine aX.rep (en:=λ_ r pd=>e.st r pd) (λk s c g D hk=>?_) bB () z A (lq (lL (eL f.sfx) f.b0)) f;unfold Qo;refine aX.tst c3.k (rK e [38,38]) D λa S i j E=>?_;dsimp only;have q:∀o:aa,o.length=2->ar a= .op o->aX e c (cP (λ_=>ae (bN []) λt=>if t= .op [38,38]\/t= .op [124,124] then ae (bV 2) λ_=>ae (cR.aJ [120]) λ_=>ae (ff (q5 false n)) λ_=>aY (.inl ()) else aY (.inr ())) c (ae (bV 2) (λ_=>ae (cR.aJ [120]) λ_=>ae (ff (q5 false n)) λ_=>aY (.inl ())) a g)) (λ_=>e.st)
   (a_ (k7 (e.S,W (ax e.S a+2),g,e.ne,e.op,e.iH)) (λx=>x) λy=>a_ (BZ R y.2) (λx=>x) λF=>k F):=by
  intro o G d;obtain⟨l,H,u,v⟩:=Sv j d;rw[G] at l H u v;have I:W (ax e.S a+2)=ax e.S (a.drop 2):=v;rw[I];show aX e c (cP _ c (ae (cR.aJ [120]) _ (a.drop 2) g)) _ _;refine aX.lines c3.k u (l.trans i) λb J K _ L M=>?_;have N:=L.trans (l.trans i);refine aX.iC c3.k ((Zd hA bc J K M).mono N) (λ_=>rfl) λ_ O T P U V=>?_;have Q:O.length<c.length:=by have X:=((Zc false n).sfx P).length_le;grind
  grind[aX.inl]
 by_cases d:ar a= .op [38,38]
 ·have m:((ar a==Tok.op [38,38]):Bool)=true:=by grind
  rw[bh (.inl d),m];simp only[nj,tR,cr,aK];exact q _ rfl d
 ·have m:((ar a==Tok.op [38,38]):Bool)=false:=by grind
  rw[m];refine aX.dW ?_ ((yO rfl).trans (e5 ((rK e [124,124]).some j E)));dsimp only;by_cases w:ar a= .op [124,124]
  ·have p:((ar a==Tok.op [124,124]):Bool)=true:=by grind
   rw[bh (.inr w),p];simp only[aK,aU];exact q _ rfl w
  ·have p:((ar a==Tok.op [124,124]):Bool)=false:=by grind
   rw[aP (by grind),p];simp only[cond_false];exact aX.inr i j rfl
end
def mR(fr:Bool)(n:Nat):ak Unit:=hi (ff (q5 fr n))
theorem alg(fr:Bool)(n:Nat):aq (mR fr n):=aq.pH (Zc fr n)
theorem Ze(fr:Bool)(n:Nat)(c:Ctx)(no:Bool):(aS fr n).ls c no=om (mR fr n) c no:=by cases n<;>rfl
theorem Zf{c:Ctx}:dE c .eof=decide (c= .text):=by cases c<;>simp[dE,cB]
theorem alh{r:aa}{pd:ao}{b:Bool}{r':aa}{a:ao}(c:bq r=some r)(h:cR r pd= .ok b r' a):(ar r= .line->b=true/\r'.length<r.length)/\(ar r≠ .line->b=false/\r'=r/\a=pd):=by
 constructor
 ·intro d;obtain⟨t,rfl⟩:=vT d;refine⟨?_,XD h⟩;rw[qq,cq,ts c] at h;unfold cP at h;cases hm:ae iW (λ_=>(aY (.inl true):ak (Bool⊕Bool))) (10::t) pd with
  |ok x r1 aD=>
   have f:x=(Sum.inl true:Bool⊕Bool):=by obtain⟨_,_,_,_,e⟩:=b4 hm;cases e;rfl
   subst f;rw[hm] at h;simp only at h;split at h
   ·have:∀(N:Nat)(r:aa)(pd:ao)(b:Bool)(r':aa)(a:ao),r.length<=N->b7 gu true r pd= .ok b r' a->b=true:=by
     intro N;induction N with
     |zero=>intro r pd b r' a g h;have:r=[]:=n7.1 (by omega);subst this;rw[cq,pJ (r1:=[]) (by rw[lX]) (by decide)] at h;cases h;rfl
     |succ N j=>
      intro r pd b r' a g h;rw[cq] at h;cases c:bq r with
      |none=>have:gu true r pd= .more [] (cQ [] pd []).1 (cQ [] pd []).2:=db (iB c);rw[this] at h;cases h
      |some i=>
       by_cases d:ar i= .line
       ·obtain⟨t,rfl⟩:=vT d;rw[ts c] at h;unfold cP at h;cases hm:ae iW (λ_=>(aY (.inl true):ak (Bool⊕Bool))) (10::t) pd with
        |ok x r1 aD=>
         have f:x=(Sum.inl true:Bool⊕Bool):=by obtain⟨_,_,_,_,e⟩:=b4 hm;cases e;rfl
         grind
        |more _ _ _=>grind
        |bad _=>grind
        |deep _=>grind
       ·rw[pJ c d] at h;cases h;rfl
    exact this _ _ _ _ _ _ (cX _) h
   grind
  |more _ _ _=>grind
  |bad _=>grind
  |deep _=>grind
 ·intro d;rw[Mr c d] at h;cases h;exact⟨rfl,rfl,rfl⟩
theorem Zg(fr:Bool)(n:Nat){r r':aa}{pd:ao}(a:bq r=some r'):mR fr n r pd=mR fr n r' pd:=by have b:=kG _ _ _ (cX _) a;unfold mR hi ff;rw[ks];rw[aM (cb a),aM (cb b)]
theorem Zh(fr:Bool)(n:Nat){r:aa}{pd:ao}(a:bq r=none):∃nd ds,mR fr n r pd= .more [] nd ds:=by unfold mR hi ff;rw[ks];exact⟨_,_,db (iB a)⟩
theorem Zi(fr:Bool)(n:Nat)(pd:ao):∃nd ds,mR fr n [] pd= .more [] nd ds:=by
 have a:bq []=some []:=lX;unfold mR hi ff;rw[ks,aM (cb a),ks];have ad:cB (ar []) [33]=false:=rfl;rw[ad];simp only[eB,cr];show∃nd ds,ae (ae (q5 fr n) _) _ [] pd=_
 have b:∃nd ds,q5 fr n [] pd= .more [] nd ds:=by unfold q5 fl;rw[aM (cb a)];exact⟨_,_,rfl⟩
 grind[db]
theorem Zj{R:bg}{n:Nat}(hA:vX R n){e:cK}(bc:e.ne=30- (n:Int))(c:Ctx)(no:Bool)(Fo:c≠ .text\/no=true):qx e (om (mR false n) c no) (λa r pd=>((a:Int),e.st r pd)) (λx=>Em R x (CI c) no):=by
 intro r pd h;rw[pI];unfold Em;refine aX.lines (C:=λx=>x) c3.id h fT λb r1 aD _ s1 q=>?_;dsimp only;refine aX.mono ?_ s1
 have O:∀(N:Nat)(k:Nat)(r pd),r.length<N->k+r.length<=2000000->dS e r pd->aX e r (b7 (eK (mR false n) c no) k r pd) (λa r pd=>((a:Int),e.st r pd)) (fixF (HG R (CI c) no) N ((k:Int),e.st r pd)):=by
  intro N;induction N with
  |zero=>omega
  |succ N P=>
   intro k r pd nn hk h;rw[e4,cq];generalize fixF (HG R (CI c) no) N=K at P;unfold HG a8;have hW:k<2000000->W ((k:Int)+1)=((k+1:Nat):Int):=by grind[dV]
   have Q:∀g,r≠[]->g<:+r->dS e g pd->aX e r (cP (eK (mR false n) c no) r (ae (mR false n) (λ_=>ae (bN []) (il c k)) g pd)) (λa r pd=>((a:Int),e.st r pd))
     (a_ (z7 R (e.st g pd)) (λx=>x) λ(i:an)=>(a_ (nr i ([59]:aa)) (λx=>(x.1,x.2.1,i.2.2.1,x.2.2.2.1,i.2.2.2.2.1,x.2.2.2.2.2)) λ(sl,v)=>(nj (sl=false) (nr (v.1,v.2.1,i.2.2.1,v.2.2.2.1,i.2.2.2.2.1,v.2.2.2.2.2) ([38]:aa)) (λx=>(x.1,x.2.1,i.2.2.1,x.2.2.2.1,i.2.2.2.2.1,x.2.2.2.2.2)) (false,(v.1,v.2.1,i.2.2.1,v.2.2.2.1,i.2.2.2.2.1,v.2.2.2.2.2)) λ(kb,z)=>(bif(bif sl then true else kb) then(a_ (k7 (z.1,(W (z.2.1+1)),i.2.2.1,z.2.2.2.1,i.2.2.2.2.1,z.2.2.2.2.2)) (λx=>x) λ(iI,A)=>K ((W ((k:Int)+1)),A.1,A.2.1,A.2.2.1,A.2.2.2.1,A.2.2.2.2.1,A.2.2.2.2.2)) else(a_ (k7 (z.1,z.2.1,i.2.2.1,z.2.2.2.1,i.2.2.2.2.1,z.2.2.2.2.2)) (λx=>x) λ(oN,d)=>(bif oN then K ((W ((k:Int)+1)),d.1,d.2.1,d.2.2.1,d.2.2.2.1,d.2.2.2.2.1,d.2.2.2.2.2) else(a_ (l2 d) (λx=>(x.1,x.2.1,d.2.2.1,x.2.2.2.1,d.2.2.2.2.1,x.2.2.2.2.2)) λ(m8,B)=>(nj ((decide (m8.1=3))=false) (D3 (B.1,B.2.1,d.2.2.1,B.2.2.2.1,d.2.2.2.2.1,B.2.2.2.2.2) (CI c)) (λx=>(x.1,x.2.1,d.2.2.1,x.2.2.2.1,d.2.2.2.2.1,x.2.2.2.2.2)) (false,(B.1,B.2.1,d.2.2.1,B.2.2.2.1,d.2.2.2.2.1,B.2.2.2.2.2)) λ(gV,D)=>(bif(bif(decide (m8.1=3)) then true else(!gV)) then a_ (kD (D.1,D.2.1,d.2.2.1,D.2.2.2.1,d.2.2.2.2.1,D.2.2.2.2.2)) (λx=>(x.1,x.2.1,d.2.2.1,x.2.2.2.1,d.2.2.2.2.1,x.2.2.2.2.2)) λy=>Empty.elim y else some (.inr ((W ((k:Int)+1)),(D.1,D.2.1,d.2.2.1,D.2.2.2.1,d.2.2.2.2.1,D.2.2.2.2.2)))))))))))):=by
    intro g mO s2 S;refine aX.iC c3.k ((Sx hA bc g pd S).mono s2) (λ_=>rfl) λ_ cx s Ms iZ eX=>?_;have E6:=((alg false n).sfx Ms).length_le;dsimp only;refine aX.tst c3.k (rK e [59]) eX λf AE pL j t=>?_;dsimp only;have G:=pL.trans iZ;have T:ar f≠ .eof->k<2000000:=by
     intro I;have:f≠[]:=by rintro rfl;exact I rfl
     grind[List.length_pos_iff]
    have Zk:∀o:aa,o.length=1->(o=[59]\/o=[38])->ar f= .op o->aX e r (cP (eK (mR false n) c no) r (il c k (.op o) f s)) (λa r pd=>((a:Int),e.st r pd))
      (a_ (k7 (e.S,W (ax e.S f+1),s,e.ne,e.op,e.iH)) (λx=>x) λ(iI,A)=>K ((W ((k:Int)+1)),A)):=by
     intro o U V E;obtain⟨X,cG,ez,cd⟩:=Sv j E;rw[U] at X cG ez cd;have IU:W (ax e.S f+1)=ax e.S (f.drop 1):=cd;rw[IU];unfold il;dsimp only;rw[bh V];show aX e r (cP _ r (ae cR _ (f.drop 1) s)) _ _;refine aX.AD c3.k ez (X.trans G) λb J Y _ Z mo=>?_;have AH:J.length<r.length:=by grind
     rw[hW (T (by grind))];exact aX.inl AH ((P (k+1) J Y (by omega) (by omega) mo).mono (Z.trans (X.trans G)))
    by_cases kY:ar f= .op [59]
    ·have hb:((ar f==Tok.op [59]):Bool)=true:=by grind
     rw[hb,kY];simp only[nj,tR,cr,aK];exact Zk [59] rfl (.inl rfl) kY
    have hb:((ar f==Tok.op [59]):Bool)=false:=by grind
    rw[hb];refine aX.dW ?_ ((yO rfl).trans (e5 ((rK e [38]).some j t)));dsimp only;by_cases Zl:ar f= .op [38]
    ·have pc:((ar f==Tok.op [38]):Bool)=true:=by grind
     rw[pc,Zl];simp only[aK,aU];exact Zk [38] rfl (.inr rfl) Zl
    have pc:((ar f==Tok.op [38]):Bool)=false:=by grind
    rw[pc];simp only[aU];by_cases hl:ar f= .line
    ·rw[hl];unfold il;dsimp only;refine aX.AD c3.k j G λb J Y alm Z mo=>?_;obtain⟨aln,AH⟩:=(alh t alm).1 hl;subst aln;simp only[aK];have alo:J.length<r.length:=by grind
     rw[hW (T (by grind))];exact aX.inl alo ((P (k+1) J Y (by omega) (by omega) mo).mono (Z.trans G))
    have DD:=Mr (pd:=s) t hl;have Mn:=Yr j;rw[DD] at Mn;refine aX.dW ?_ (e5 Mn.2.2);dsimp only;simp only[aU];refine aX.dW ?_ (e5 ((kW e).some j t));dsimp only
    have Zm:∀(m:ak (Nat⊕Nat)),ar f≠ .eof->m=bK->aX e r (cP (eK (mR false n) c no) r (m f s)) (λa r pd=>((a:Int),e.st r pd)) (a_ (kD (e.st f s)) (λx=>(x.1,x.2.1,s,x.2.2.2.1,e.op,x.2.2.2.2.2)) λy=>(Empty.elim y:Option (bp an (Int×an)))):=by rintro m I rfl;exact⟨j.sfx,_,hL ((tx j t).2 I)⟩
    cases E:ar f with
    |line=>grind
    |word w p=>simp only[jj,bz,nj,tR,cr,aK];exact Zm bK (by grind) rfl
    |op o=>
     have l:(decide ((jj (Tok.op o)).1=3))=false:=rfl;refine aX.dW ?_ ((yO l).trans (e5 ((R2 e c).some j t)));dsimp only;rw[l,E];simp only[aU];have U:¬(o=[59]\/o=[38]):=by grind
     unfold il;dsimp only;rw[aP U];cases yR:dE c (.op o) with
     |true=>simp only[g8,aU,cH];rw[hW (T (by grind))];exact aX.inr G j rfl
     |false=>simp only[Bool.not_false,cond_true,Bool.false_eq_true,if_false];exact Zm bK (by grind) rfl
    |eof=>
     have uN:f=[]:=by
      cases f with
      |nil=>rfl
      |cons b u=>exfalso;have uQ:(if b=10 then Tok.line else if bt (b::u)≠[] then .op (bt (b::u)) else .word (c5 (b::u)).1 (c5 (b::u)).2)=Tok.eof:=E;grind
     subst uN;have l:(decide ((jj Tok.eof).1=3))=false:=rfl;refine aX.dW ?_ ((yO l).trans (e5 ((R2 e c).some j t)));dsimp only;rw[l,E,Zf];simp only[aU];have mP:k<2000000:=by grind[List.length_pos_iff]
     have pe:cP (eK (mR false n) c no) r (il c k .eof [] s)=cP (eK (mR false n) c no) [] ((if c= .text then aY (.inr (k+1)) else b3 (if no||k+1>0 then [] else [120]):ak (Nat⊕Nat)) [] s):=by show(if([]:aa).length<r.length then _ else _)=_;rw[bh (by grind),cq];congr 1;unfold eK;rw[aM (cb t),E,if_pos rfl]
     rw[pe];by_cases aF:c= .text
     ·rw[if_pos aF];simp only[aF,decide_true,Bool.not_true,cond_false];rw[hW mP];exact⟨G,j,rfl⟩
     ·rw[if_neg aF];simp only[aF,decide_false,Bool.not_false,cond_true];exact(((tx j t).1 E).bind λ_=> .inr rfl).rJ
   unfold eK;have GX:(0<(k:Int))↔k>0:=by omega
   have bs:(bif no then true else decide (0<(k:Int)))=(no||decide (k>0)):=by simp
   have mn:=Q;dsimp only;have asa:bq r=none->aX e r (cP (eK (mR false n) c no) r (ae (mR false n) (λ_=>ae (bN []) (il c k)) r pd)) (λa r pd=>((a:Int),e.st r pd)) (a_ (z7 R (e.st r pd)) (λx=>x) λ_=>none):=by intro F;obtain⟨nd,ds,ad⟩:=Zh false n (pd:=pd) F;have L:=Sx hA bc r pd h;have uP:hi (ff (q5 false n)) r pd= .more [] nd ds:=ad;rw[uP] at L;rw[db ad];obtain⟨st,bD,aW⟩:=L;exact⟨st,hL bD,aW⟩
   have Sy:∀(g:aa)(H:ao)(Zn:an->Option (bp an (Int×an)))(x:dD (Nat⊕Nat)),dS e g H->(∃nd ds,mR false n g H= .more [] nd ds)->(∃nd ds,x= .more [] nd ds)->aX e r (cP (eK (mR false n) c no) r x) (λa r pd=>((a:Int),e.st r pd)) (a_ (z7 R (e.st g H)) (λx=>x) Zn):=by rintro g H Zn x S ⟨nd,ds,ad⟩ ⟨asb,asc,rfl⟩;have L:=Sx hA bc g H S;have uP:hi (ff (q5 false n)) g H= .more [] nd ds:=ad;rw[uP] at L;obtain⟨st,bD,aW⟩:=L;exact⟨st,hL bD,aW⟩
   have pM:∀{g:aa},g<:+r->ar g≠ .eof->r≠[]:=by rintro g s2 I rfl;have:g=[]:=List.suffix_nil.1 s2;subst this;exact I rfl
   cases asd:(no||decide (k>0)) with
   |true=>
    have M:(bif no then true else decide (0<(k:Int)))=true:=by grind
    refine aX.dW ?_ (yO M);refine aX.tst c3.k (R2 e c) h λr1 qm s1 q i1=>?_;dsimp only;rw[M];simp only[aK,NC];by_cases hf:ar r1= .eof
    ·rw[bh hf,hf,Zf];by_cases aF:c= .text
     ·rw[bh aF];simp only[aF,bz,aK];exact aX.inr s1 q rfl
     ·rw[aP aF];simp only[aF,bF,aU];have j0:r1=[]:=by
       cases r1 with
       |nil=>rfl
       |cons b u=>exfalso;have uQ:(if b=10 then Tok.line else if bt (b::u)≠[] then .op (bt (b::u)) else .word (c5 (b::u)).1 (c5 (b::u)).2)=Tok.eof:=hf;grind
      subst j0;exact Sy [] pd _ _ q (Zi false n pd) ⟨_,_,rfl⟩
    ·rw[aP hf];cases yR:dE c (ar r1) with
     |true=>simp only[aK,cH];exact aX.inr s1 q rfl
     |false=>simp only[aU,eB,cr];exact mn r1 (pM s1 hf) s1 q
   |false=>
    have M:(bif no then true else decide (0<(k:Int)))=false:=by grind
    refine aX.dW ?_ (Yn (by grind));dsimp only;rw[M];simp only[aU,Bool.false_and,eB,cr];cases F:bq r with
    |none=>rw[db (nd:=(cQ [] pd [120]).1) (ds:=(cQ [] pd [120]).2) (op:=[]) (by rw[iB F];rfl)];exact Sy r pd _ _ h (Zh false n F) ⟨_,_,rfl⟩
    |some r1=>
     rw[aM (cb F)];have s1:=dU F;by_cases hf:ar r1= .eof
     ·rw[bh hf];have j0:r1=[]:=by
       cases r1 with
       |nil=>rfl
       |cons b u=>exfalso;have uQ:(if b=10 then Tok.line else if bt (b::u)≠[] then .op (bt (b::u)) else .word (c5 (b::u)).1 (c5 (b::u)).2)=Tok.eof:=hf;grind
      subst j0
      have e6:∃nd ds,mR false n r pd= .more [] nd ds:=by rw[Zg false n F];simp[Zi]
      by_cases aF:c= .text
      ·grind
      ·rw[aP aF];exact Sy r pd _ _ h e6 ⟨_,_,rfl⟩
     ·rw[aP hf];have:=mn r (pM s1 hf) fT h;have aZ:ae (mR false n) (λ_=>ae (bN []) (il c k)) r1 pd=ae (mR false n) (λ_=>ae (bN []) (il c k)) r pd:=by grind[Zg,ae]
      rw[aZ];exact this
 exact O bB 0 r1 aD (lq (lL (eL q.sfx) q.b0)) (by have:=eL q.sfx;have:=q.b0;omega) q
theorem alp{k n:Nat}(hA:vX (kF k) n):xi (kF (k+1)) n:=⟨λe c no aF bc=>by have:=Zj hA bc c no (.inl aF);intro r pd h;rw[Ze];exact this r pd h⟩
theorem iG:∀(k n:Nat),n<=30->(2*n+1<=k->CJ (kF k) n)/\(2*n+2<=k->Md (kF k) n/\xi (kF k) n):=by
 intro k;induction k with
 |zero=>omega
 |succ k b=>
  have a:∀n,n<=30->2*n<=k->Below (kF k) n:=λn aw h=>
   ⟨aw,λm hm=>((b m (by omega)).2 (by omega)).1,λm hm=>((b m (by omega)).2 (by omega)).2⟩
  intro n aw;refine⟨λh=>akv (a n aw (by omega)),λh=>⟨akw (a n aw (by omega)) ((b n aw).1 (by omega)),alp λm hm=>?_⟩⟩;exact {toBelow:=a m (by omega) (by omega),u0:=(b m (by omega)).1 (by omega)}
theorem alq{S:aa}(di:S.length<=1000000):aX ⟨S,0,[],0⟩ S (gr false 30 S) (λa r pd=>((a:Int),(⟨S,0,[],0⟩:cK).st r pd)) (ss.kl (S,0,[],0,[],0) 0 true):=by
 have b:dS ⟨S,0,[],0⟩ S []:=⟨di,fT,by simp,by simp⟩
 have hk:∃k,bB=k+1/\62<=k:=by
  refine⟨bB-1,?_,?_⟩
  ·rw[gm]
  simp[gm]
 obtain⟨k,hk,c⟩:=hk;have hA:vX (kF k) 30:=by intro m hm;exact {le:=by omega,u1:=λj d=>((iG k j (by omega)).2 (by omega)).1,ls:=λj d=>((iG k j (by omega)).2 (by omega)).2,u0:=(iG k m hm).1 (by omega)}
 have:=Zj hA (e:=⟨S,0,[],0⟩) (show(0:Int)=30- ((30:Nat):Int) by decide) .text true (.inr rfl) S [] b;unfold gr;rw[Ze];have f:(⟨S,0,[],0⟩:cK).st S []=(S,0,[],0,[],0):=by show(S,ax S S,([]:ao),(0:Int),([]:bl),(0:Int))=_;rw[IA]
 rw[f] at this;have g:ss.kl (S,0,[],0,[],0) 0 true=Em (kF k) (S,0,[],0,[],0) 0 true:=by unfold ss;rw[hk];rfl
 rw[g];exact this
def dz(s:aa):aa:=if s.getLast?=some 10 then s else s++[10]
theorem als(s:aa)(d:s.length<=1000000):Ig s [10]=some (decide (s.getLast?=some 10)):=by
 unfold Ig;rcases List.eq_nil_or_concat s with rfl|⟨t,b,rfl⟩
 ·decide
 ·rw[List.concat_eq_append] at*;have hl:(t++[b]).length=t.length+1:=by simp
  have a:W (((t++[b]).length:Int)- (([10]:aa).length:Int))=(t.length:Int):=by grind[dV,List.length_singleton]
  simp only[a];have c:ch (t++[b]) (t.length:Int) ((t++[b]).length:Int)=[b]:=by simp[ch]
  rw[c,bZ (by omega)];have ad:(([10]:aa).length:Int)<=((t++[b]).length:Int):=by grind
  simp_all
theorem alu(s:aa)(a:s.length<=1000000):(((s.length+([10]:aa).length:Nat):Int)<=9223372036854775807):=by grind
theorem Zo(s:aa)(a:s.length<=1000000):a4 (((s.length+([10]:aa).length:Nat):Int)<=9223372036854775807) (some (s++[10]))=some (s++[10]):=by exact bh (alu s a)
theorem alv(s:aa)(a:s.length<=1000000)(b:Bool):(au (au (some b) λ(c:Bool)=>some c) λ(d:Bool)=>
 (bif d then
 some s
 else
 (a4 (((s.length+([10]:aa).length:Nat):Int)<=9223372036854775807)<|
 some (s++([10]:aa)))))=some (bif b then s else s++[10]):=by
 cases b with
 |true=>rfl
 |false=>exact(aO (aO rfl)).trans ((aU _ _).trans (Zo s a))
theorem Zp(s:aa)(a:s.length<=1000000):ET s=some (dz s):=by unfold ET LL;rw[als s a,alv s a];simp[dz,bh,decide_eq_true,aP,e1]
theorem Sz(s:aa)(c:(dz s).length<=1000000):match gr false 30 (dz s) with
  | .ok a _ _=>Ao s=some (((0:Int),((dz s).length:Int)),([]:bl),(a:Int))
  | .more op _ _=>Ao s=some (((1:Int),((dz s).length:Int)),op,(0:Int))
  | .bad r=>r<:+dz s/\∃op,Ao s=some (((2:Int),ax (dz s) r),op,(0:Int))
  | .deep _=>True:=by
 have hl:s.length<=(dz s).length:=by grind[dz]
 have h:=alq c;unfold Ao;rw[Zp s (by omega),aO rfl];cases aB:gr false 30 (dz s) with
 |ok a r pd=>rw[aB] at h;obtain⟨ad,b,d⟩:=h;simp only;rw[d];rfl
 |more op nd ds=>rw[aB] at h;obtain⟨st,ad,b⟩:=h;grind
 |bad r=>rw[aB] at h;obtain⟨ad,st,b⟩:=h;grind
 |deep q=>trivial
end Go.Eng
namespace Go.Eng
def ep(pd:ao):Nat:=(lG pd).length
theorem Zq:∀(a b:ao),lG (a++b)=lG a++lG b
 |[],b=>rfl
 |d::a,b=>by simp[lG,Zq]
theorem Zr(a b:ao):ep (a++b)=ep a+ep b:=by simp[ep,Zq]
theorem AI:∀(x nd:aa)(ds:ao),(cQ nd ds x).1.length+ep (cQ nd ds x).2=nd.length+ep ds+x.length
 |[],nd,ds=>rfl
 |b::x,nd,ds=>by
  unfold cQ;split
  ·rw[AI x];grind[List.length_append,List.length_cons,ep,lG,List.length_nil]
  ·rw[AI x];simp only[Dj,mv,A5];omega
def d_(c:Nat){α:Type}(r:aa)(pd:ao):dD α->Prop
 | .ok _ r' a=>ep a+100*r'.length<=ep pd+100*r.length
 | .more _ nd ds=>nd.length+ep ds<=ep pd+100*r.length+c
 | .bad _=>True
 | .deep _=>True
def aI(c:Nat){α:Type}(f:ak α):Prop:=∀r pd,d_ c r pd (f r pd)
section
theorem aI.mono{α:Type}{c b:Nat}{f:ak α}(h:aI c f)(aF:c<=b):aI b f:=by
 intro r pd;have:=h r pd;cases hm:f r pd with
 |more op nd ds=>grind[d_]
 |ok a r1 aD=>rw[hm] at this;exact this
 |bad _=>trivial
 |deep _=>trivial
theorem aI.ae{α β:Type}{c:Nat}{m:ak α}{k:α->ak β}(hm:aI c m)(hk:∀a,aI c (k a)):aI c (Go.Eng.ae m k):=by
 intro r pd;unfold Go.Eng.ae;have:=hm r pd;cases h:m r pd with
 |ok a r1 aD=>rw[h] at this;simp only[d_] at this⊢;have b:=hk a r1 aD;grind[d_]
 |more op nd ds=>rw[h] at this;exact this
 |bad _=>trivial
 |deep _=>trivial
theorem aI.aJ{α:Type}{c:Nat}{m:ak α}(h:aI c m)(x:aa):aI (c+x.length) (m.aJ x):=by
 intro r pd;unfold ak.aJ;have:=h r pd;cases hm:m r pd with
 |more op nd ds=>grind[d_,AI]
 |ok a r1 aD=>rw[hm] at this;exact this
 |bad _=>trivial
 |deep _=>trivial
theorem aI.named{α:Type}{c:Nat}{m:ak α}(h:aI c m)(x:aa):aI c (m.named x):=by
 intro r pd;unfold ak.named;have:=h r pd;cases hm:m r pd with
 |more op nd ds=>rw[hm] at this;exact this
 |ok a r1 aD=>grind
 |bad _=>trivial
 |deep _=>trivial
theorem aI.b3{α:Type}{c:Nat}{x:aa}(h:x.length<=c):aI c (Go.Eng.b3 x:ak α):=by intro r pd;grind[Go.Eng.b3,d_,AI,List.length_nil]
theorem aI.bK{α:Type}{c:Nat}:aI c (Go.Eng.bK:ak α):=λr pd=>trivial
theorem aI.ret{α:Type}{c:Nat}(a:α):aI c (aY a):=λr pd=>cX _
theorem aI.ite{α:Type}{c:Nat}{p:Prop}[Decidable p]{f g:ak α}(hf:aI c f)(bs:aI c g):aI c (if p then f else g):=by grind
theorem aI.ia{c:Nat}{f:ak Unit}(hf:∀r pd,match f r pd with| .ok _ r' b=>r'.length<=r.length/\b=pd| .more _ nd ds=>nd.length<=c/\ds=pd|_=>True):aI c f:=by
 intro r pd;have:=hf r pd;cases hm:f r pd with
 |ok a r1 aD=>rw[hm] at this;obtain⟨ad,rfl⟩:=this;grind[d_]
 |more op nd ds=>rw[hm] at this;obtain⟨ad,rfl⟩:=this;grind[d_]
 |bad _=>trivial
 |deep _=>trivial
theorem aI.dm{c:Nat}(k:Nat):aI c (bV k):=aI.ia λr pd=>⟨by simp,rfl⟩
theorem aI.dN{c:Nat}{x:aa}(h:x.length<=c):aI c (bN x):=by
 intro r pd;cases a:bq r with
 |none=>rw[iB a];exact aI.b3 (α:=Tok) h r pd
 |some r'=>rw[cb a];have:=(dU a).length_le;grind[d_]
theorem aI.rep{σ α:Type}{c:Nat}{f:σ->ak (σ⊕α)}(hf:∀s,aI c (f s))(s:σ):aI c (b7 f s):=by
 have d:∀(N:Nat)(s:σ)(r:aa)(pd:ao),r.length<=N->d_ c r pd (b7 f s r pd):=by
  intro N;induction N with
  |zero=>
   intro s r pd e;rw[cq];have:=hf s r pd;unfold cP;cases hm:f s r pd with
   |ok x r1 aD=>
    rw[hm] at this;cases x with
    |inl s'=>simp only;rw[aP (by omega)];trivial
    |inr a=>exact this
   |more _ _ _=>rw[hm] at this;exact this
   |bad _=>trivial
   |deep _=>trivial
  |succ N g=>
   intro s r pd e;rw[cq];have:=hf s r pd;unfold cP;cases hm:f s r pd with
   |ok x r1 aD=>
    rw[hm] at this;cases x with
    |inl s'=>
     simp only[d_] at this;simp only;split
     ·have h:=g s' r1 aD (by omega);cases i:b7 f s' r1 aD with
      |ok b j k=>grind[d_]
      |more op nd ds=>grind[d_]
      |bad _=>trivial
      |deep _=>trivial
     ·trivial
    |inr a=>exact this
   |more _ _ _=>rw[hm] at this;exact this
   |bad _=>trivial
   |deep _=>trivial
 exactλr pd=>d _ s r pd (cX _)
theorem aI.exp{c:Nat}(b:Tok->Bool)(k:Nat):aI c (nb b k):=(aI.dN (by simp)).ae λt=>aI.ite (aI.b3 (by simp)) (aI.ite (aI.dm _) aI.bK)
theorem aI.jA{c:Nat}(o:aa):aI c (Go.Eng.jA o):=aI.exp _ _
theorem aI.cZ{c:Nat}(o:aa):aI c (Go.Eng.cZ o):=aI.exp _ _
theorem SA:∀(pd:ao)(t nd:aa),l6 pd t= .inr nd->nd.length<=ep pd
 |[],t,nd,h=>by cases h
 |d::ds,t,nd,h=>by
  unfold l6 at h;split at h
  ·have:=SA ds _ nd h;grind[ep,lG,List.length_append,List.length_cons]
  ·cases h;exact cX _
theorem aI.nl{c:Nat}:aI c iW:=by
 intro r pd;cases r with
 |nil=>exact cX _
 |cons b t=>
  unfold iW;simp only;cases a:l6 pd t with
  |inl r'=>have:=((vO pd t [] r' a).1).length_le;grind[d_,ep,lG,List.length_nil,List.length_cons]
  |inr nd=>have:=SA pd t nd a;grind[d_,ep,lG,List.length_nil]
theorem aI.lines{c:Nat}:aI c cR:=aI.rep (λ_=>(aI.dN (by simp)).ae λt=>aI.ite (aI.nl.ae λ_=>aI.ret _) (aI.ret _)) _
theorem aI.part{D:ak Unit}(hD:aI 10 D){dq:Option (ak Unit)}(d:∀q,dq=some q->aI 50 q):aI 11 (cA D dq):=by
 intro r pd;cases r with
 |nil=>exact cX _
 |cons b t=>
  have e:∀(f:aa->Option aa)(x:UInt8),(∀r q,f r=some q->q.length<=r.length)->d_ 11 (b::t) pd (jr f [x] t pd):=by grind[jr,d_,List.length_cons,List.length_nil]
  unfold cA;simp only;split
  ·grind[d_,List.length_drop,List.length_cons]
  ·split
   ·exact e _ _ λr q g=>(c r q g)
   ·split
    ·exact hD.mono (by decide) _ _
    ·cases dq with
     |none=>grind[d_,List.length_cons]
     |some q=>
      simp only;split
      ·grind[Nat.le_of_lt,yI]
      ·split
       ·have:=d q rfl t pd;cases hm:q t pd with
        |ok a r1 aD=>grind[d_,List.length_cons]
        |more op nd ds=>grind[d_,List.length_cons]
        |bad _=>trivial
        |deep _=>trivial
       grind[d_,List.length_cons]
where
 c:∀(r q:aa),gW r=some q->q.length<=r.length:=by
  intro r q h
  have:∀(n:Nat)(r q:aa),r.length<=n->gW r=some q->q.length<=r.length:=by
   intro n;induction n with
   |zero=>simp_all[n7,Nat.le_zero,gW]
   |succ n i=>
    intro r q aw h;cases r with
    |nil=>grind
    |cons b t=>unfold gW at h;grind
  exact this _ r q (cX _) h
theorem aI.CD{p:ak Unit}{n:Nat}(aB:aI n p)(c:UInt8):aI n (iX c p):=by
 refine aI.rep (λ_=>?_) _;intro r pd;cases r with
 |nil=>exact aI.b3 (α:=Unit⊕Unit) (by simp) [] pd
 |cons b t=>
  simp only;split
  ·grind[d_,List.length_cons]
  ·exact(aB.ae (λ_=>aI.ret _)) _ _
end
theorem d_.mono{c:Nat}{α:Type}{r0 r:aa}{pd0 pd:ao}{x:dD α}(h:d_ c r pd x)(ad:ep pd+100*r.length<=ep pd0+100*r0.length):d_ c r0 pd0 x:=by
 cases x with
 |ok a r1 aD=>grind[d_]
 |more op nd ds=>grind[d_]
 |bad _=>trivial
 |deep _=>trivial
theorem d_.pW{c b:Nat}{α:Type}{r:aa}{pd:ao}{x:dD α}(h:d_ c r pd x)(ad:c<=b):d_ b r pd x:=by
 cases x with
 |ok a r1 aD=>exact h
 |more op nd ds=>grind[d_]
 |bad _=>trivial
 |deep _=>trivial
theorem d_.less{c b k:Nat}{α:Type}{r0 r:aa}{pd:ao}{x:dD α}(h:d_ c r pd x)(hl:r.length+k<=r0.length)(aF:c<=b+100*k):d_ b r0 pd x:=by
 cases x with
 |ok a r1 aD=>grind[d_]
 |more op nd ds=>grind[d_]
 |bad _=>trivial
 |deep _=>trivial
theorem d_.ae{c:Nat}{α β:Type}{m:ak α}{k:α->ak β}{r v:aa}{pd:ao}(h:d_ c r pd (m v pd))(hk:∀a,aI c (k a)):d_ c r pd (Go.Eng.ae m k v pd):=by
 unfold Go.Eng.ae;cases hm:m v pd with
 |ok a r1 aD=>rw[hm] at h;have:=hk a r1 aD;exact this.mono (by grind[d_])
 |more op nd ds=>rw[hm] at h;exact h
 |bad _=>trivial
 |deep _=>trivial
theorem aI.SB{c a:Nat}{α:Type}{k:Nat}{f:ak α}(hf:aI c f){r:aa}{pd:ao}(hl:k<=r.length)(aF:c<=a+100*k):d_ a r pd (Go.Eng.ae (bV k) (λ_=>f) r pd):=
 (hf (r.drop k) pd).less (by grind) aF
section
variable{D:ak Unit}(hD:aI 10 D)
include hD
theorem aI.double:aI 50 (eF D):=((((aI.CD (n:=11) (aI.part hD (dq:=none) (λq h=>by cases h)) 34)).aJ [34]).named [34]).mono (by decide)
theorem aI.yM:aI 11 (cA D (some (eF D))):=aI.part hD λq h=>by grind[aI.double]
theorem aI.param:aI 12 (qV D):=(aI.CD (aI.yM hD) 125).aJ [125]
theorem aI.cI:aI 11 (Go.Eng.cI D):=by
 refine aI.rep (λ_=>?_) _;intro r pd;cases r with
 |nil=>exact aI.b3 (α:=Unit⊕Unit) (by simp) [] pd
 |cons b t=>
  simp only;split
  ·exact cX _
  ·exact((aI.yM hD).ae (λ_=>aI.ret _)) _ _
theorem aI.jM{x:aa}(a:x.length<=11):aI 11 (Go.Eng.jM D x):=(aI.dN a).ae λt=>by grind[aI.b3,aI.cI,aI.bK]
omit hD in
theorem alx{r:aa}{x:aa×aa×aa}(h:du r=some x):x.1.length+x.2.1.length<=r.length+1/\x.2.2.length<=1:=by
 have a:=YG _ r (cX _);cases aF:gl r with
 |none=>grind
 |some y=>
  obtain⟨q,c⟩:=y;rw[aF] at a;obtain⟨w,e,aG⟩:=a;rw[h] at aG;have f:=YJ _ _ _ aF;cases b:dl (w++c) 0 with
  |none=>grind
  |some d=>rw[b] at aG;cases aG;have:=Yg _ _ (cX _) 0 d b;grind
omit hD in
theorem aI.sy{tabs:Bool}{r0 v:aa}{pd:ao}(hl:v.length+1<=r0.length):d_ 10 r0 pd (hB tabs v pd):=by
 have b:∀d:aa,ep (pd++[(d,tabs)])=ep pd+d.length+1:=by intro d;rw[Zr];grind[ep,lG]
 have ad:d_ 10 r0 pd (.more [] [120] (pd++[([120],tabs)]):dD Unit):=by grind[d_,List.length_cons,List.length_nil]
 unfold hB;cases a:bq v with
 |none=>exact ad
 |some r'=>
  have c:=(dU a).length_le;simp only;cases e:ar r' with
  |eof=>exact ad
  |line=>trivial
  |op o=>trivial
  |word w p=>
   simp only;cases aG:du r' with
   |none=>trivial
   |some x=>obtain⟨d,q,f⟩:=x;obtain⟨g,h⟩:=alx aG;have i:=(Rr _ _ _ (cX _) aG).length_le;grind[d_,List.length_nil]
theorem aI.ji:aI 11 (dv D):=by
 intro r pd;unfold dv;cases d:bq r with
 |none=>
  have:fN r pd=Go.Eng.b3 [] r pd:=by grind[fN]
  rw[db (nd:=(cQ [] pd []).1) (ds:=(cQ [] pd []).2) (op:=[]) this];exact aI.b3 (α:=Bool) (x:=[]) (by simp) r pd
 |some r'=>
  have f:=(dU d).length_le;have g:(r'.dropWhile ca).length<=r'.length:=(Cx).length_le;by_cases e:eZ (bt (r'.dropWhile ca))=true
  ·have a:fN r pd= .ok (some (bt (r'.dropWhile ca))) ((r'.dropWhile ca).drop (bt (r'.dropWhile ca)).length) pd:=by simp_all[fN,bh]
   rw[aM a];have ad:=Sh e;have h:=Rn (r:=r'.dropWhile ca);generalize r'.dropWhile ca=q at*;have hl:(q.drop (bt q).length).length+1<=r.length:=by grind
   generalize q.drop (bt q).length=v at*;simp only;refine d_.ae ?_ λ_=>aI.ret _;by_cases b:bt q=[60,60]
   ·rw[bh b];exact(aI.sy (tabs:=false) (pd:=pd) hl).pW (by decide)
   ·rw[aP b];by_cases c:bt q=[60,60,45]
    ·rw[bh c];exact(aI.sy (tabs:=true) (pd:=pd) hl).pW (by decide)
    ·rw[aP c];exact(aI.jM hD (by decide) v pd).less hl (by decide)
  ·have a:fN r pd= .ok none r' pd:=by simp_all[fN,aP]
   rw[aM a];show ep pd+100*r'.length<=ep pd+100*r.length;omega
theorem aI.mL:aI 11 (gI D):=aI.rep (λ_=>(aI.ji hD).ae λb=>aI.ret _) _
theorem aI.simple(fr:Bool):aI 11 (hg fr D):=aI.rep (λ_=>(aI.ji hD).ae λb=>aI.ite (aI.ret _) ((aI.dN (by simp)).ae λt=>by
 cases t with
 |word _ _=>grind[aI.cI,aI.ae,aI.ret]
 |op o=>simp[aI.ite,aI.bK,aI.ret]
 |_=>simp[aI.ret])) _
end
theorem aI.Mw{c:Nat}(x:aa)(h:x.length<=c):aI c (cR.aJ x):=((aI.lines (c:=0)).aJ x).mono (by omega)
theorem aI.pipe{c8:ak Unit}(h:aI 50 c8):aI 50 (ff c8):=(aI.dN (by decide)).ae λt=>(aI.ite (aI.dm _) (aI.ret _)).ae λ_=>h.ae λ_=>
 aI.rep (λ_=>(aI.dN (by simp)).ae λt=>aI.ite ((aI.dm _).ae λ_=>(aI.Mw _ (by decide)).ae λ_=>h.ae λ_=>aI.ret _) (aI.ret _)) _
theorem aI.pH{a:ak Unit}(h:aI 50 a):aI 50 (hi a):=h.ae λ_=>
 aI.rep (λ_=>(aI.dN (by simp)).ae λt=>aI.ite ((aI.dm _).ae λ_=>(aI.Mw _ (by decide)).ae λ_=>h.ae λ_=>aI.ret _) (aI.ret _)) _
theorem aI.list{cV:ak Unit}(h:aI 50 cV)(c:Ctx)(no:Bool):aI 50 (om cV c no):=(aI.Mw _ (by grind)).ae λ_=>aI.rep (λk=>(aI.dN (by grind)).ae λt=>
 aI.ite (aI.ite (aI.ret _) (aI.b3 (by grind))) (aI.ite (aI.ret _) (h.ae λ_=>(aI.dN (by simp)).ae λt=>by
  cases t with
  |eof=>simp[aI.ret]
  |line=>exact aI.lines.ae λ_=>aI.ret _
  |word _ _=>exact aI.bK
  |op o=>exact aI.ite ((aI.dm _).ae λ_=>aI.lines.ae λ_=>aI.ret _) (aI.ite (aI.ret _) aI.bK)))) _
structure yW(l:dT):Prop where
 ls:∀c no,aI 50 (l.ls c no)
 pm:aI 12 l.pm
 cp:∀r pd,gX (ar r)=true->d_ 50 r pd (l.cp (ar r) r pd)
 rd:aI 11 l.rd
 dl:aI 10 l.dl
section
variable{l:dT}(hl:yW l)
include hl
theorem aI.body{x:aa}(a:x.length<=60):aI 60 (iO l x):=(((aI.cZ (c:=0) gO).aJ x).mono (by omega)).ae λ_=>(((hl.ls _ _).aJ _).mono (by decide)).ae λ_=>aI.cZ _
theorem aI.cond:aI 70 (qj l):=aI.rep (λ_=>(((hl.ls _ _).aJ _).mono (by decide)).ae λ_=>(aI.cZ _).ae λ_=>(((hl.ls _ _).aJ _).mono (by decide)).ae λ_=>(aI.dN (by simp)).ae λt=>
 aI.ite ((aI.cZ _).ae λ_=>aI.ret _) (aI.ite ((aI.cZ _).ae λ_=>(((hl.ls _ _).aJ _).mono (by decide)).ae λ_=>(aI.cZ _).ae λ_=>aI.ret _) ((aI.cZ _).ae λ_=>aI.ret _))) _
theorem aI.words:aI 11 (pF l.dl):=aI.rep (λ_=>(aI.dN (by simp)).ae λt=>by
 cases t with
 |eof=>simp[aI.b3]
 |word _ _=>exact(aI.cI hl.dl).ae λ_=>aI.ret _
 |line=>simp[aI.ret]
 |op o=>simp[aI.ite,aI.dm,aI.ae,aI.ret,aI.bK]) _
theorem aI.for_:aI 60 (pG l l.dl):=(aI.dN (by decide)).ae λt=>by
 cases t with
 |eof=>exact aI.b3 (by decide)
 |word w p=>
  cases p with
  |true=>
   refine aI.ite ((aI.dm _).ae λ_=>((aI.aJ (c:=11) ((aI.dN (by simp)).ae λt=>?_) eo).mono (by decide)).ae λ_=>aI.body hl (by decide)) aI.bK
   exact aI.ite ((aI.dm _).ae λ_=>aI.lines.ae λ_=>aI.ret _) (aI.lines.ae λ_=>(aI.dN (by simp)).ae λt=>
    aI.ite ((aI.dm _).ae λ_=>(aI.words hl).ae λ_=>aI.lines.ae λ_=>aI.ret _) (aI.ret _))
  |false=>exact aI.bK
 |_=>exact aI.bK
theorem aI.xc:aI 12 (kq l.dl):=aI.rep (λ_=>(aI.dN (by decide)).ae λt=>by
 cases t with
 |eof=>simp[aI.b3]
 |word _ _=>
  refine((aI.cI hl.dl).aJ [41]).ae λ_=>(aI.dN (by decide)).ae λt=>?_;cases t with
  |op o=>exact aI.ite ((aI.dm _).ae λ_=>aI.ret _) (aI.ite ((aI.dm _).ae λ_=>aI.ret _) aI.bK)
  |eof=>simp[aI.b3]
  |_=>exact aI.bK
 |_=>exact aI.bK) _
theorem aI.items:aI 50 (nc l l.dl):=aI.rep (λ_=>aI.lines.ae λ_=>(aI.dN (by simp)).ae λt=>aI.ite (aI.b3 (by simp)) (aI.ite ((aI.dm _).ae λ_=>aI.ret _)
 ((aI.ite (aI.dm _) (aI.ret _)).ae λ_=>((aI.xc hl).mono (by decide)).ae λ_=>(hl.ls _ _).ae λ_=>(aI.dN (by simp)).ae λt=>aI.ite ((aI.dm _).ae λ_=>aI.ret _) (aI.ret _)))) _
theorem aI.xd:aI 60 (qk l l.dl):=(aI.dN (by decide)).ae λt=>by
 cases t with
 |eof=>exact aI.b3 (by decide)
 |word _ _=>refine((aI.aJ (c:=11) ((aI.cI hl.dl).ae λ_=>aI.lines.ae λ_=>(aI.dN (by simp)).ae λt=>aI.ite (aI.b3 (by simp)) (aI.ret _)) ([32]++fb++[10]++ew)).mono (by decide)).ae λt=>?_;exact aI.ite ((aI.dm _).ae λ_=>((aI.items hl).aJ _).mono (by decide)) aI.bK
 |_=>exact aI.bK
theorem d_.kind{r:aa}{pd:ao}(aF:gX (ar r)=true):d_ 50 r pd (gY l (ar r) r pd):=by
 obtain⟨c,d⟩:=Y5 aF;have e:(mH (ar r)).length<=r.length:=by
  cases a:ar r with
  |eof=>rw[a] at aF;cases aF
  |line=>rw[a] at aF;cases aF
  |op o=>
   have:=(iq a).2.1.length_le;rw[a] at aF;have b:o=[40]:=by grind[gX]
   subst b;exact this
  |word w p=>
   rw[a] at aF;cases p with
   |false=>cases aF
   |true=>exact(qp a).1.length_le
 rw[Y6 aF];have hk:aI 70 (CQ l (ar r)):=by
  unfold CQ;cases a:ar r with
  |op o=>exact(((hl.ls _ _).aJ _).mono (by decide)).ae λ_=>aI.jA _
  |word w p=>refine aI.ite ((((hl.ls _ _).aJ _).mono (by decide)).ae λ_=>aI.cZ _) (aI.ite (aI.cond hl) (aI.ite ((aI.for_ hl).mono (by decide)) (aI.ite ((aI.xd hl).mono (by decide)) ?_)));exact(((hl.ls _ _).aJ _).mono (by decide)).ae λ_=>(aI.body hl (by decide)).mono (by decide)
  |_=>exact aI.bK
 exact(hk _ pd).less (k:=1) (by grind) (by decide)
end
theorem aI.SC:∀(t:aa)(d n:Nat),h1 d t= .more n->n<=d+t.length+2
 |[],d,n,h=>by grind[h1]
 |b::t,d,n,h=>by have a:=aI.SC t;unfold h1 at h;grind
theorem aI.uL{lo:Option dT}(hl:∀l,lo=some l->yW l):aI 10 (dw lo):=by
 intro r pd;unfold dw;split
 ·rename_i h;rw[Di] at h;obtain⟨t,rfl⟩:=h;show d_ 10 _ pd (nB t pd);unfold nB;cases a:h1 0 t with
  |ok q=>have:=(At 0 t q a).length_le;grind[d_,List.length_append]
  |more n=>have:=aI.SC t 0 n a;grind[d_,List.length_append,List.length_replicate,List.length_cons,List.length_nil]
  |bad q=>trivial
 ·split
  ·rename_i h;rw[Di] at h;have b:=h.length_le;cases lo with
   |none=>trivial
   |some l=>have c:=hl l rfl;have aB:aI 60 (sv l):=((((c.ls _ _).aJ _).mono (by decide)).named _).ae λ_=>aI.jA _;exact aI.SB aB (k:=2) (by omega) (by decide)
  ·split
   ·rename_i h;rw[Di] at h;have b:=h.length_le;cases lo with
    |none=>trivial
    |some l=>exact aI.SB ((hl l rfl).pm.named _) (k:=2) (by omega) (by decide)
   grind[d_,List.length_drop]
theorem aI.function{fr:Bool}{lo:Option dT}(hl:∀l,lo=some l->yW l){u:aa}{pd:ao}:d_ 50 (40::u) pd (lW fr lo (40::u) pd):=by
 unfold lW;cases lo with
 |none=>trivial
 |some l=>
  have d:=hl l rfl;dsimp only;split
  ·have aw:∀{α:Type}{c:Nat}{m:ak α}{r:aa}{pd:ao}{x:aa},d_ c r pd (m r pd)->d_ c r pd (m.named x r pd):=by
    intro α c m r pd x h;unfold ak.named;cases hm:m r pd with
    |more op nd ds=>rw[hm] at h;exact h
    |ok a r1 aD=>grind
    |bad _=>trivial
    |deep _=>trivial
   refine aw ?_;refine aI.SB (c:=60) (k:=1) ?_ (by simp) (by decide);refine(aI.dN (by decide)).ae λt=>aI.ite (aI.b3 (by decide)) (aI.ite ((aI.dm _).ae λ_=>(aI.Mw _ (by decide)).ae λ_=>?_) aI.bK);intro r pd;cases b:bq r with
   |none=>rw[db (iB b)];exact aI.b3 (α:=Unit) (by decide) r pd
   |some r'=>
    rw[aM (cb b)];have e:=(dU b).length_le;refine d_.mono (r:=r') (pd:=pd) ?_ (by omega);split
    ·exact aI.b3 (α:=Unit) (by decide) _ _
    ·split
     ·rename_i aF;exact(d_.ae ((d.cp r' pd aF).pW (by decide)) λ_=>aI.ite (d.rd.mono (by decide)) (aI.ret _))
     ·trivial
  ·trivial
theorem aI.command{fr:Bool}{lo:Option dT}(hl:∀l,lo=some l->yW l):aI 50 (fl fr lo (dw lo)):=by
 have hD:=aI.uL hl;intro r pd;unfold fl;cases c:bq r with
 |none=>rw[db (iB c)];exact aI.b3 (α:=Unit) (by decide) r pd
 |some r'=>
  rw[aM (cb c)];have f:=(dU c).length_le;refine d_.mono (r:=r') (pd:=pd) ?_ (by omega);by_cases ad:ar r'= .eof
  ·rw[bh ad];exact aI.b3 (α:=Unit) (by decide) _ _
  rw[aP ad];by_cases aF:gX (ar r')=true
  ·rw[bh aF];refine d_.ae ?_ λ_=>(aI.mL hD).mono (by decide);cases lo with
   |none=>trivial
   |some l=>
    have:=d_.kind (hl l rfl) aF (r:=r') (pd:=pd);show d_ 50 r' pd ((gY l (ar r')).named _ r' pd);unfold ak.named;cases hm:gY l (ar r') r' pd with
    |more op nd ds=>rw[hm] at this;exact this
    |ok a r1 aD=>grind
    |bad _=>trivial
    |deep _=>trivial
  ·rw[aP aF];cases g:ar r' with
   |eof=>grind
   |line=>trivial
   |op o=>exact aI.ite (((aI.ji hD).mono (by decide)).ae λ_=>(aI.simple hD fr).mono (by decide)) aI.bK _ _
   |word w p=>
    refine aI.ite aI.bK (((aI.ji hD).mono (by decide)).ae λb=>aI.ite ((aI.simple hD fr).mono (by decide)) (((aI.cI hD).mono (by decide)).ae λ_=>aI.ite ?_ ((aI.simple hD fr).mono (by decide)))) _ _;intro r pd;cases c:bq r with
    |none=>rw[db (iB c)];exact aI.b3 (α:=Unit) (by decide) r pd
    |some e=>
     rw[aM (cb c)];have f:=(dU c).length_le;refine d_.mono (r:=e) (pd:=pd) ?_ (by omega);by_cases d:ar e= .op [40]
     ·rw[bh d];obtain⟨u,rfl⟩:=(iq d).2.1;exact d_.ae (aI.function hl) λ_=>aI.ite (aI.ret _) ((aI.mL hD).mono (by decide))
     ·rw[aP d];exact(aI.simple hD fr).mono (by decide) _ _
theorem Zs{fr:Bool}{lo:Option dT}(hl:∀l,lo=some l->yW l)(b:Bool):yW {ls:=om (hi (ff (fl fr lo (dw lo)))),pm:=qV (dw lo),cp:=sw lo,rd:=gI (dw lo),dl:=dw lo,has:=b}:=by
 have hD:=aI.uL hl;refine⟨λc no=>aI.list (aI.pH (aI.pipe (aI.command hl))) c no,aI.param hD,λr pd aF=>?_,aI.mL hD,hD⟩;cases lo with
 |none=>trivial
 |some l=>
  have:=d_.kind (hl l rfl) aF (r:=r) (pd:=pd);show d_ 50 r pd ((gY l (ar r)).named _ r pd);unfold ak.named;cases hm:gY l (ar r) r pd with
  |more op nd ds=>rw[hm] at this;exact this
  |ok a r1 aD=>grind
  |bad _=>trivial
  |deep _=>trivial
theorem tG(fr:Bool):∀n,yW (aS fr n)
 |0=>Zs (λl h=>by cases h) false
 |n+1=>Zs (λl h=>by cases h;exact tG fr n) true
end Go.Eng
namespace Go.Eng
open Go Go.Proofs
theorem Mx{S r:aa}(a:r<:+S):z_ (ax S r) S.length=some (ax S r):=by grind[z_,ax,eL,oV]
theorem aly{S:aa}(di:S.length<=1000000):∀(n:Nat)(r:aa),r.length<n->r<:+S->fixF (HU S λ_=>some (-1)) n (ax S r)=some (kX S (gk r)):=by
 intro n;induction n with
 |zero=>omega
 |succ n c=>
  intro r aw a;rw[e4];generalize fixF (HU S _) n=k at c;unfold HU;cases r with
  |nil=>simp[iu,gk,kX]
  |cons b t=>
   have d:=iP di a;simp only[ng a,bz,aK];rw[bZ ⟨(h4 a).1,trivial⟩];simp only[jC a,d,q1];unfold gk;by_cases e:b=39
   ·grind[kX]
   ·simp only[e,bF,aU,cr];grind[List.length_cons,dZ]
theorem alz{S r:aa}(di:S.length<=1000000)(a:r<:+S):B7 S (ax S r)=some (kX S (gk r)):=by unfold B7 a8;rw[Mx a,aO rfl];grind[aly,lq,Nat.le_trans,eL]
theorem alA{S:aa}(di:S.length<=1000000):∀(n:Nat)(r:aa),r.length+1<n->r<:+S->fixF (B5 S λ_=>some (-1)) n (ax S r)=some (kX S (gW r)):=by
 intro n;induction n with
 |zero=>omega
 |succ n f=>
  intro r aw a;have i:=eL a;have d:n≠0->fixF (B5 S λ_=>some (-1)) n ((S.length:Int)+1)=some (-1):=by
   intro h0
   obtain⟨m,rfl⟩:∃m,n=m+1:=⟨n-1,by omega⟩
   grind[e4,B5]
  rw[e4];generalize fixF (B5 S _) n=k at f d;unfold B5 a8;cases r with
  |nil=>simp[iu,gW,kX]
  |cons b t=>
   have g:=iP di a;have j:(b::t).length=t.length+1:=rfl;simp only[ng a,bz,aK];rw[bZ ⟨(h4 a).1,trivial⟩];simp only[jC a,g,n0,mN];unfold gW;by_cases h:b=96
   ·grind[kX]
   simp only[h,bF,aU,cr];rw[bZ ⟨(h4 a).1,trivial⟩];by_cases e:b=92
   ·subst e;simp only[bz,aK,cH];cases t with
    |nil=>
     have:W (ax S []+1)=(S.length:Int)+1:=by grind[iu,dV]
     rw[this];exact d (by omega)
    |cons c u=>grind[iP,dZ,List.length_cons]
   ·simp only[e,bF,aU,cr];grind[dZ]
theorem alB{S r:aa}(di:S.length<=1000000)(a:r<:+S):Ad S (ax S r)=some (kX S (gW r)):=by unfold Ad a8;rw[Mx a,aO rfl];grind[alA,eL,gm]
theorem alC(l:aa)(hl:(l.length:Int)<=1048576)(i g:Int->Option (Int×Int))(y:∀d,i d=g d)(z:∀d,∃v,g d=some v):∀(m:Nat)(d k:Int),0<=d->d<=k->k<=2000000->(l.length:Int)-k<m->0<m->
  ∃v,fixF (LC l i) m (d,k)=some v/\fixF (BI l g) m (d,k)=some v:=by
 intro m;induction m with
 |zero=>omega
 |succ m j=>
  intro d k aG o A hm _;have hk:0<=k:=by omega
  simp only[fixF,LC,BI,a4,a8];by_cases ad:k<(l.length:Int)
  ·simp only[ad,hk,bz,aK,cH,nJ];rw[dV (x:=k+1) (by omega) (by omega),dV (x:=k+2) (by omega) (by omega),dV (x:=d+1) (by omega) (by omega),dV (x:=d-1) (by omega) (by omega)];have Iz:0<=k+1:=by omega
   have a:=λ(e:Int)(ad:0<=e)(c:e<=k+1)=>j e (k+1) ad c (by omega) (by omega) (by omega);have u0:=a d (by omega) (by omega);have u1:=a (d+1) (by omega) (by omega);by_cases c:k+1<(l.length:Int)
   ·have f:¬k+1=(l.length:Int):=by omega
    simp only[c,f,Iz,bz,bF,aK,aU,cH,nJ,implies_true];generalize ((at' l k).toNat:Int)=b;generalize ((at' l (k+1)).toNat:Int)=n;by_cases p:b=39
    ·grind
    by_cases q:b=34
    ·grind
    by_cases r:b=92
    ·grind
    by_cases s:b=96
    ·grind
    by_cases t:b=40
    ·grind
    by_cases h:b=41
    ·subst h;by_cases aB:0<d
     ·have u:=a (d-1) (by omega) (by omega);grind
     grind
    grind
   ·have w:((0:UInt8).toNat:Int)=0:=rfl;simp only[c,bF,aU,w,eB,false_implies,implies_true,cH];generalize ((at' l k).toNat:Int)=b;have f:k+1=(l.length:Int):=by omega
    simp only[f,bz];rw[<-f];by_cases p:b=39
    ·grind
    by_cases q:b=34
    ·grind
    by_cases r:b=92
    ·grind
    by_cases s:b=96
    ·grind
    by_cases t:b=40
    ·grind
    by_cases h:b=41
    ·subst h;by_cases aB:0<d
     ·have u:=a (d-1) (by omega) (by omega);grind
     grind
    grind
  ·simp only[ad,bF,aU];simp_all
theorem alD{S r:aa}(di:S.length<=1000000)(a:r<:+S):EO S (ax S r)=some (qw S (h1 0 r)):=by
 have bf:=Yv di a;have h0:0<=ax S r:=by grind[eL,ax]
 have hle:= @oV r S;obtain⟨v,ad,b⟩:=alC S (by omega) (λx=>some ((-1),(W (x+2)))) (λx=>some ((-1),(W (x+2)))) (λ_=>rfl) (λd=>⟨_,rfl⟩) bB 0 (ax S r) (by omega) h0 (by omega) (by grind[gm]) (by simp[gm]);have c:EO S (ax S r)=some v:=by unfold EO a8;rw[Mx a,aO rfl];exact ad
 have e:BJ S (ax S r)=some v:=by unfold BJ a8;rw[IG a,aO rfl];exact b
 grind
theorem alE{S d:aa}{tabs:Bool}{r:aa}(di:S.length<=1000000)(a:r<:+S):Eu S (ax S r) d tabs=some (match ny d tabs r with|some q=>ax S q|none=> -1):=by
 have bf:=Yq (d:=d) (tabs:=tabs) di a;have h0:0<=ax S r:=by grind[eL,ax]
 have hle:= @oV r S;obtain⟨v,r1,b⟩:=aj0 S d tabs (by omega) bB (ax S r) h0 hle (by grind[gm]) (by simp[gm]);have c:Eu S (ax S r) d tabs=some v:=by unfold Eu;rw[Mx a,aO rfl];exact r1
 have e:BC S (ax S r) d tabs=some v:=by unfold BC;rw[IG a,aO rfl];exact b
 grind
theorem SG{S r:aa}(di:S.length<=1000000)(a:r<:+S):yr S (ax S r)=some (bt r):=by
 have ad:¬ax S r<0:=by grind[eL,ax]
 unfold yr Lc;by_cases b:(S.length:Int)<=ax S r
 ·have c:r=[]:=yN.1 (show ax S r=S.length by have:= @oV r S;omega);simp_all[bt,lh,xJ,List.isPrefixOf]
 ·simp only[ad,b,bF,aU];rw[aO rfl];unfold a8;show fixF (HO S (ax S r) lh λ_=>some []) bB 0=_;rw[(Ya S (ax S r) (by omega) (by omega) (by omega) lh (by decide) (by decide) (λ_=>some []) bB 0 (by omega) (by decide) (by rw[gm];decide) (by simp[gm])).1];rw[RZ a];grind[bt,Lib.hasPrefix,List.isPrefixOf,List.find?,lh]
theorem My(w:aa)(l:bl)(hl:l.length<=1000):yt w l=some (l.contains w):=by
 have a:∀(n i:Nat),l.length-i<n->i<=l.length->fixF (HQ w l λ_=>some false) n (i:Int)=some ((l.drop i).contains w):=by
  intro n;induction n with
  |zero=>omega
  |succ n b=>
   intro i aw bf;rw[e4];generalize fixF (HQ w l _) n=k at b;unfold HQ;by_cases c:i<l.length
   ·have d:(i:Int)<(l.length:Int):=by omega
    have e:l.drop i=at' l (i:Int)::l.drop (i+1):=by rw[NF c];simp_all[at',abZ,ab2]
    simp only[d,bz,aK];rw[bZ ⟨by omega,trivial⟩,dV (by omega) (by omega),e];by_cases he:at' l (i:Int)=w
    ·grind
    ·have:=b (i+1) (by omega) (by omega);have f:(i:Int)+1=((i+1:Nat):Int):=by omega
     simp only[he,bF,aU,f];rw[this];have:(w==at' l (i:Int))=false:=by grind
     rw[List.contains_cons,this,Bool.false_or]
   grind
 unfold yt a8;have:=a bB 0 (by grind[gm]) (by omega);grind
theorem Zu(w:aa):yu w=some (qg w):=by unfold yu;rw[aO (My w _ (by decide))];rfl
theorem Zv(w:aa):Ev w=some (rF w):=by unfold Ev;rw[aO (My w _ (by decide))];rfl
theorem Fy(w:aa):vK w=some (eZ w):=by unfold vK;rw[aO (My w _ (by decide))];rfl
structure cf where
 S:aa
 ne:Int
def cf.st(e:cf)(r:aa)(pd:ao)(tr:Bool):ah:=(e.S,ax e.S r,e.ne,pd,0,0,[],[],tr)
def cf.tt(e:cf)(pd:ao):ah:=(e.S,e.S.length,e.ne,pd,0,0,[],[],true)
structure cD(e:cf)(r:aa)(pd:ao):Prop where
 b0:e.S.length<=1000000
 nl:c_ e.S
 IV:e.S≠[]
 sfx:r<:+e.S
 jO:ep pd+100*r.length<=100*e.S.length
theorem cD.mono{e:cf}{r r':aa}{pd:ao}(h:cD e r pd)(ad:r'<:+r):cD e r' pd:=
 ⟨h.b0,h.nl,h.IV,ad.trans h.sfx,by have:=h.jO;grind⟩
structure n4(e:cf)(r0:aa)(st:ah):Prop where
 s:st.1=e.S
 lo:ax e.S r0<=st.2.1
 bf:st.2.1<=(e.S.length:Int)+1+r0.length
 nd:st.2.2.2.2.2.2.1.length+ep st.2.2.2.1<=100*e.S.length+1000
 op:st.2.2.2.2.2.2.2.1.length<=r0.length+1
def iD(q:Bool)(e:cf)(r0:aa)(nd:aa)(ds:ao)(st:ah):Prop:=
 (st.2.2.2.2.1=1/\st.2.2.2.2.2.2.1=nd/\st.2.2.2.1=ds/\n4 e r0 st/\(e.S.length:Int)<=st.2.1)\/(q=true/\nd=[]/\st=e.tt ds)
def iQ(e:cf)(r0:aa)(st:ah):Prop:=st.2.2.2.2.1=2/\n4 e r0 st
def gg(e:cf)(r:aa)(pd:ao)(st:ah):Prop:=∃tr,st=e.st r pd tr/\(r=[]->tr=false)
def bM{α β:Type}(q:Bool)(e:cf)(r0:aa)(m:dD α)(pr:β->ah)(cv:α->aa->β->Prop)(y:Option β):Prop:=∃b,y=some b/\match m with
 | .ok a r pd=>r<:+r0/\cD e r pd/\gg e r pd (pr b)/\cv a r b
 | .more _ nd ds=>iD q e r0 nd ds (pr b)
 | .bad _=>iQ e r0 (pr b)
 | .deep _=>iQ e r0 (pr b)
theorem n4.mono{e:cf}{r0 r1:aa}{st:ah}(h:n4 e r0 st)(ad:r0<:+r1):n4 e r1 st:=by
 have:=ad.length_le;have a:ax e.S r1<=ax e.S r0:=by grind[ax]
 exact⟨h.s,by have:=h.lo;omega,by have:=h.bf;omega,h.nd,by have:=h.op;omega⟩
theorem iD.mono{q:Bool}{e:cf}{r0 r1:aa}{nd:aa}{ds:ao}{st:ah}(h:iD q e r0 nd ds st)(ad:r0<:+r1):iD q e r1 nd ds st:=by
 rcases h with⟨a,b,c,d,f⟩|h
 ·exact .inl ⟨a,b,c,d.mono ad,f⟩
 ·exact .inr h
theorem iD.up{q:Bool}{e:cf}{r0:aa}{nd:aa}{ds:ao}{st:ah}(h:iD false e r0 nd ds st):iD q e r0 nd ds st:=by
 rcases h with h|h
 ·exact .inl h
 grind
theorem iD.z{e:cf}{r0:aa}{nd:aa}{ds:ao}{st:ah}(h:iD false e r0 nd ds st):st.2.2.2.2.1=1/\st.2.2.2.2.2.2.1=nd/\st.2.2.2.1=ds/\n4 e r0 st/\(e.S.length:Int)<=st.2.1:=by
 rcases h with h|h
 ·exact h
 grind
theorem iQ.mono{e:cf}{r0 r1:aa}{st:ah}(h:iQ e r0 st)(ad:r0<:+r1):iQ e r1 st:=⟨h.1,h.2.mono ad⟩
theorem bM.mono{q:Bool}{α β:Type}{e:cf}{r0 r1:aa}{m:dD α}{pr:β->ah}{cv:α->aa->β->Prop}{y:Option β}(h:bM q e r0 m pr cv y)(ad:r0<:+r1):bM q e r1 m pr cv y:=by obtain⟨b,a,h⟩:=h;refine⟨b,a,?_⟩;grind[trans,iD.mono,iQ.mono]
theorem bM.dW{q:Bool}{α β:Type}{e:cf}{r0:aa}{m:dD α}{pr:β->ah}{cv:α->aa->β->Prop}{y a:Option β}(h:bM q e r0 m pr cv y)(b:a=y):bM q e r0 m pr cv a:=b▸h
theorem bM.iC{q n:Bool}{α o p β j:Type}{C:dD o->dD p}(l:c3 C){e:cf}{r0 r:aa}{pd:ao}{m:ak α}{k:α->ak o}{pr:β->ah}{cv:α->aa->β->Prop}{g:j->ah}{cv':p->aa->j->Prop}{y:Option β}{K:β->Option j}
  (h:bM n e r0 (m r pd) pr cv y)
  (hk:∀a r1 aD b,m r pd= .ok a r1 aD->r1<:+r0->cD e r1 aD->gg e r1 aD (pr b)->cv a r1 b->bM q e r0 (C (k a r1 aD)) g cv' (K b))
  (hm:∀op nd ds b,m r pd= .more op nd ds->iD n e r0 nd ds (pr b)->∃c,K b=some c/\iD q e r0 nd ds (g c))
  (s:∀b,iQ e r0 (pr b)->∃c,K b=some c/\iQ e r0 (g c)):
  bM q e r0 (C (Go.Eng.ae m k r pd)) g cv' (au y K):=by
 obtain⟨b,t,h⟩:=h;rw[t,aO rfl];unfold Go.Eng.ae;cases i:m r pd with
 |ok a r1 aD=>grind
 |more op nd ds=>rw[i] at h;obtain⟨c,d,f⟩:=hm op nd ds b i h;rw[l.more];exact⟨c,d,f⟩
 |bad q=>rw[i] at h;obtain⟨c,d,f⟩:=s b h;rw[l.bad];exact⟨c,d,f⟩
 |deep q=>rw[i] at h;obtain⟨c,d,f⟩:=s b h;rw[l.deep];exact⟨c,d,f⟩
theorem vZ(e:cf)(r:aa)(a b c:Int)(d:ao)(f:aa)(g:bl)(h:Bool):gz (e.S,ax e.S r,a,d,b,c,f,g,h)=some (decide (r=[])):=by
 unfold gz;have:((e.S.length:Int)<=ax e.S r)↔r=[]:=by rw[<-yN (S:=e.S)];have:= @oV r e.S;omega
 grind
theorem v3{e:cf}{r:aa}(j:r<:+e.S)(a c d:Int)(f:ao)(g:aa)(h:bl)(i:Bool):ig (e.S,ax e.S r,a,f,c,d,g,h,i)=some (r.headD 0):=by
 unfold ig;rw[vZ,aO rfl];cases r with
 |nil=>rfl
 |cons b t=>simp only[reduceCtorEq,bF,aU];simp_all[bZ,h4,jC]
theorem SH(b:UInt8):z9 b=some (gb b):=by grind[z9,gb,RT,IB]
theorem IW{e:cf}{r:aa}(a:e.S.length<=1000000)(b:r<:+e.S)(c d f:Int)(g:ao)(h:aa)(i:bl)(j:Bool):hH (e.S,ax e.S r,c,g,d,f,h,i,j)=some (bt r):=by unfold hH;rw[SG a b];rfl
theorem xm(e:cf)(pd:ao):e.tt pd=e.st [] pd true:=by rfl
def Fz(e:cf)(r:aa)(pd:ao)(tr:Bool)(y:Option ah):Prop:=match bq r with
 |some r'=>∃a,y=some (e.st r' pd a)/\(a=tr\/a=true)
 |none=>y=some (e.tt pd)
theorem alF{e:cf}{x0:ah}{tr:Bool}(c:x0.1=e.S){j:Int->Option ah}(di:e.S.length<=1000000):∀(n:Nat)(r:aa),r.length<n->r<:+e.S->fixF (Ep x0 tr j) n (ax e.S r)=j (ax e.S (lg r)):=by
 intro n;induction n with
 |zero=>omega
 |succ n d=>
  intro r aw a;rw[e4];generalize fixF (Ep x0 tr j) n=k at d;unfold Ep;rw[c];rw[vZ,aO rfl];cases r with
  |nil=>rfl
  |cons b t=>
   simp only[reduceCtorEq,bF,e7,aK];rw[bZ (λ_=>h4 a),jC a,iP di a];simp only[pK];unfold lg;by_cases f:b=10
   ·grind
   ·simp only[f,bF,e7,aK,cr];grind[List.length_cons,dZ]
theorem alG{e:cf}{pd:ao}(di:e.S.length<=1000000)(x0:ah)(m:∃r0 tr0,x0=e.st r0 pd tr0):∀(n:Nat)(r:aa)(tr:Bool),r.length<n->r<:+e.S->
  Fz e r pd tr (fixF (B3 x0 λx=>some (x0.1,x.1,x0.2.2.1,x0.2.2.2.1,x0.2.2.2.2.1,x0.2.2.2.2.2.1,x0.2.2.2.2.2.2.1,x0.2.2.2.2.2.2.2.1,x.2)) n (ax e.S r,tr)):=by
 obtain⟨r0,tr0,rfl⟩:=m;intro n;induction n with
 |zero=>omega
 |succ n d=>
  intro r tr aw a;rw[e4];generalize fixF (B3 (e.st r0 pd tr0) _) n=k at d;unfold B3 a8;dsimp only;have he:gz ((e.st r0 pd tr0).1,ax e.S r,(e.st r0 pd tr0).2.2.1,(e.st r0 pd tr0).2.2.2.1,(e.st r0 pd tr0).2.2.2.2.1,(e.st r0 pd tr0).2.2.2.2.2.1,(e.st r0 pd tr0).2.2.2.2.2.2.1,(e.st r0 pd tr0).2.2.2.2.2.2.2.1,tr)=some (decide (r=[])):=vZ e r _ _ _ _ _ _ _;rw[he,aO rfl];unfold Fz;cases r with
  |nil=>rw[lX];exact⟨tr,rfl,.inl rfl⟩
  |cons b t=>
   have j:t.length<n:=by grind
   simp only[reduceCtorEq,bF,e7,aK];have f:(e.st r0 pd tr0).1=e.S:=rfl;rw[f];rw[bZ (h4 a),jC a,SH,aO rfl,iP di a];by_cases g:gb b=true
   ·rw[Fg g,g];exact d t tr j (dZ a)
   have o:gb b=false:=by grind
   rw[o];simp only[aU,mN,Yh];by_cases l:b=92
   ·subst l;cases t with
    |nil=>
     rw[Yk];refine⟨tr,?_,.inl rfl⟩;have h0:decide (ax e.S []<(e.S.length:Int))=false:=by simp[iu]
     simp only[bz,aK,h0,aU];rfl
    |cons c u=>
     simp only[bz,aK,ng (dZ a)];rw[bZ (λ_=>⟨(h4 (dZ a)).1,trivial⟩),jC (dZ a)];simp only[pK];by_cases aF:c=10
     ·subst aF;have p:W (ax e.S (92::10::u)+2)=ax e.S u:=ku (w:=[92,10]) di a;rw[p,RV];simp only[bz,aK];by_cases hu:u=[]
      ·subst hu;rw[bh rfl];have:=d [] true (by grind) List.nil_suffix;unfold Fz at this;rw[lX] at this;obtain⟨q,ad,s⟩:=this;have:q=true:=by rcases s with rfl|rfl<;>rfl
       subst this;simp only;rw[xm];exact ad
      ·rw[aP hu];have:=d u true (by grind) (dZ (dZ a));unfold Fz at this;grind
     ·rw[RU aF];simp only[aF,bF,aU,show¬((92:UInt8)=35) by decide];exact⟨tr,rfl,.inl rfl⟩
   ·have v:decide (b=92)=false:=by grind
    rw[v];simp only[aU];rw[bZ (λh=>by cases h)];by_cases i:b=35
    ·subst i;rw[RW];simp only[bz,aK];have aG:fixF (Ep (e.st r0 pd tr0) tr λy=>k (y,tr)) bB (ax e.S (35::t))=k (ax e.S (lg (35::t)),tr):=alF (e:=e) rfl di _ _ (lq (lL (eL a) di)) a;rw[aG];have:lg (35::t)=lg t:=by rfl
     rw[this];exact d _ tr (Nat.lt_of_le_of_lt (Aq t) j) ((EZ t).trans (dZ a))
    ·rw[RX g i l];simp only[i,bF,aU];exact⟨tr,rfl,.inl rfl⟩
theorem alI{e:cf}{r:aa}{pd:ao}{tr:Bool}(h:cD e r pd):Fz e r pd tr (g4 (e.st r pd tr)):=by unfold g4 a8;exact alG h.b0 _ ⟨r,tr,rfl⟩ bB r tr (lq (lL (eL h.sfx) h.b0)) h.sfx
theorem c_.ia{r S:aa}(h:c_ S)(a:r<:+S):c_ r:=by
 obtain⟨u,rfl⟩:=a;induction u with
 |nil=>exact h
 |cons b u c=>exact c h.tail
theorem Zw{r r':aa}(d:c_ r)(k:r≠[])(a:bq r=some r'):r'≠[]:=by
 have e:∀(n:Nat)(r r':aa),r.length<=n->c_ r->r≠[]->bq r=some r'->r'≠[]:=by
  intro n;induction n with
  |zero=>grind
  |succ n f=>
   intro r r' aw d k a;cases r with
   |nil=>grind
   |cons b t=>
    have l:t.length<=n:=by grind
    have g:b≠10->t≠[]:=by
     intro i h0;subst h0;rcases d with h|⟨s,h⟩
     ·cases h
     ·have:=ma List.getLast? h;grind
    by_cases i:gb b=true
    ·rw[Fg i] at a;exact f t r' l d.tail (g (by rintro rfl;exact absurd i (by decide))) a
    by_cases o:b=35
    ·subst o;rw[RW] at a;have bc:=g (by decide);have aG:lg t≠[]:=by
      have:∀t:aa,c_ t->t≠[]->lg t≠[]:=by
       intro t;induction t with
       |nil=>simp
       |cons c u j=>
        intro m _;unfold lg;by_cases aF:c=10
        ·grind
        ·rw[aP aF];refine j m.tail ?_;rintro rfl;rcases m with h|⟨s,h⟩
         ·cases h
         ·have:=ma List.getLast? h;grind
      exact this t d.tail bc
     exact f _ r' (lL (Aq t) l) (d.tail.ia (EZ t)) aG a
    by_cases p:b=92
    ·subst p;have bc:=g (by decide);cases t with
     |nil=>grind
     |cons c u=>
      by_cases aF:c=10
      ·subst aF;rw[RV] at a;by_cases hu:u=[]
       ·grind
       ·rw[aP hu] at a;exact f u r' (by grind) d.tail.tail hu a
      grind[RU]
    grind[RX]
 exact e _ r r' (cX _) d k a
theorem xn{e:cf}{r:aa}{pd:ao}{st:ah}(h:cD e r pd)(g:gg e r pd st):(∃r' b,bq r=some r'/\g4 st=some b/\gg e r' pd b/\cD e r' pd/\r'<:+r/\bq r'=some r')\/(bq r=none/\g4 st=some (e.tt pd)):=by
 obtain⟨tr,rfl,k⟩:=g;have:=alI (tr:=tr) h;unfold Fz at this;cases a:bq r with
 |none=>grind
 |some r'=>
  rw[a] at this;obtain⟨c,ad,l⟩:=this;have d:=dU a;refine .inl ⟨r',_,rfl,ad,⟨c,rfl,λi=>?_⟩,h.mono d,d,kG _ _ _ (cX _) a⟩;subst i;by_cases f:r=[]
  ·subst f;have j:g4 (e.st [] pd tr)=some (e.st [] pd tr):=by
    unfold g4 a8
    obtain⟨n,aw⟩:∃n,bB=n+1:=⟨bB-1,by rw[gm]⟩
    dsimp only;rw[aw,e4];unfold B3;dsimp only;have he:gz ((e.st [] pd tr).1,(e.st [] pd tr).2.1,(e.st [] pd tr).2.2.1,(e.st [] pd tr).2.2.2.1,(e.st [] pd tr).2.2.2.2.1,(e.st [] pd tr).2.2.2.2.2.1,(e.st [] pd tr).2.2.2.2.2.2.1,(e.st [] pd tr).2.2.2.2.2.2.2.1,(e.st [] pd tr).2.2.2.2.2.2.2.2)=some (decide (([]:aa)=[])):=vZ e [] _ _ _ _ _ _ _;rw[he,aO rfl];rfl
   rw[j] at ad;have:=ma (λx=>x.2.2.2.2.2.2.2.2) (Option.some.inj ad);have m:tr=c:=this;grind
  ·exact absurd rfl (Zw (h.nl.ia h.sfx) f a)
theorem CR(e:cf)(pd:ao):g4 (e.tt pd)=some (e.tt pd):=by
 rw[xm];unfold g4 a8
 obtain⟨n,aw⟩:∃n,bB=n+1:=⟨bB-1,by rw[gm]⟩
 dsimp only;rw[aw,e4];unfold B3;dsimp only;have he:gz ((e.st [] pd true).1,(e.st [] pd true).2.1,(e.st [] pd true).2.2.1,(e.st [] pd true).2.2.2.1,(e.st [] pd true).2.2.2.2.1,(e.st [] pd true).2.2.2.2.2.1,(e.st [] pd true).2.2.2.2.2.2.1,(e.st [] pd true).2.2.2.2.2.2.2.1,(e.st [] pd true).2.2.2.2.2.2.2.2)=some (decide (([]:aa)=[])):=vZ e [] _ _ _ _ _ _ _;rw[he,aO rfl];rfl
theorem bM.rep{q:Bool}{σ α τ β:Type}{e:cf}{f:σ->ak (σ⊕α)}{pr:β->ah}{cv:α->aa->β->Prop}{en:σ->aa->ao->τ->Prop}{body:(τ->Option β)->τ->Option β}
  (c:∀(k:τ->Option β)(s:σ)(r:aa)(pd:ao)(x:τ),cD e r pd->en s r pd x->(∀a,∃k',k a=body k' a)->(∀s' r' b a,r'<:+r->cD e r' b->r'.length<r.length->en s' r' b a->bM q e r (b7 f s' r' b) pr cv (k a))->bM q e r (cP f r (f s r pd)) pr cv (body k x)):
  ∀(n:Nat)(s:σ)(r:aa)(pd:ao)(x:τ),r.length+1<n->cD e r pd->en s r pd x->bM q e r (b7 f s r pd) pr cv (fixF body n x):=by
 intro n;induction n with
 |zero=>omega
 |succ n d=>
  intro s r pd x aw g he;rw[cq,e4];refine c _ s r pd x g he (λa=>?_) λs' r' b a ad h j i=>(d s' r' b a (by omega) h i).mono ad
  obtain⟨m,rfl⟩:∃m,n=m+1:=⟨n-1,by omega⟩
  exact⟨_,e4⟩
theorem bM.inl{q:Bool}{σ α β:Type}{e:cf}{f:σ->ak (σ⊕α)}{r0 r r':aa}{a:ao}{s':σ}{pr:β->ah}{cv:α->aa->β->Prop}{y:Option β}(hl:r'.length<r.length)(h:bM q e r0 (b7 f s' r' a) pr cv y):bM q e r0 (cP f r (.ok (.inl s') r' a)) pr cv y:=by simp_all[cP,bh]
theorem v7{e:cf}{r:aa}{pd:ao}(h:cD e r pd):r.length+1<bB:=by have:=h.b0;have:=eL h.sfx;grind[gm]
theorem MA{α:Type}[Inhabited α]{l:List α}{i:Nat}(bf:i<l.length):l.drop i=at' l (i:Int)::l.drop (i+1):=by grind[List.drop_eq_getElem_cons,at',List.getElem?_eq_getElem]
theorem alK{ds:ao}{j:aa->Option ah}(e:ds.length<=1000000000):∀(n i:Nat)(x:aa),ds.length-i<n->i<=ds.length->x.length+ep (ds.drop i)<=1000000000->fixF (HK ds j) n ((i:Int),x)=j (x++lG (ds.drop i)):=by
 intro n;induction n with
 |zero=>omega
 |succ n b=>
  intro i x aw bf f;rw[e4];generalize fixF (HK ds j) n=k at b;unfold HK;dsimp only;by_cases c:i<ds.length
  ·have a:(i:Int)<(ds.length:Int):=by omega
   have aG:=MA c;have hl:ep (ds.drop i)=(at' ds (i:Int)).1.length+1+ep (ds.drop (i+1)):=by grind[ep,lG]
   simp only[a,bz,aK];rw[bZ ⟨by omega,trivial⟩,bZ (by omega),bZ (by grind)];have d:W ((i:Int)+1)=((i+1:Nat):Int):=by grind[dV]
   rw[d,b (i+1) _ (by omega) (by omega) (by grind),aG];simp[lG]
  ·have a:¬(i:Int)<(ds.length:Int):=by omega
   simp only[a,decide_false,cond_false];grind[List.drop_eq_nil_of_le,lG]
theorem alL{a:aa}{j:ao×aa->Option ah}(l:a.length<=2000000):∀(n i:Nat)(nd:aa)(ds:ao),a.length-i<n->i<=a.length->nd.length+ep ds+(a.length-i)<=1000000000->ds.length<=1000000000->fixF (HL a j) n ((i:Int),ds,nd)=j ((cQ nd ds (a.drop i)).2,(cQ nd ds (a.drop i)).1):=by
 intro n;induction n with
 |zero=>omega
 |succ n d=>
  intro i nd ds aw bf m e;rw[e4];generalize fixF (HL a j) n=k at d;unfold HL a8;dsimp only;by_cases f:i<a.length
  ·have b:(i:Int)<(a.length:Int):=by omega
   have aG:=MA f;have g:W ((i:Int)+1)=((i+1:Nat):Int):=by grind[dV]
   have h:ch a (i:Int) ((i+1:Nat):Int)=[at' a (i:Int)]:=by simp_all[ch,Jx]
   simp only[b,bz,aK,g];rw[bZ (by omega),h,bZ (by grind),bZ ⟨by omega,trivial⟩];simp only[pK];rw[aG];unfold cQ;by_cases c:at' a (i:Int)=10
   ·rw[if_pos c];simp only[c,decide_true,cond_true];have h0:(0:Int)=((0:Nat):Int):=rfl;rw[h0,alK e bB 0 (nd++[10]) (by grind[gm]) (by omega) (by grind)];simp only[List.drop_zero];grind[lG,List.length_append,List.length_cons,ep,List.length_nil]
   grind
  ·have b:¬(i:Int)<(a.length:Int):=by omega
   simp only[b,bF,aU];rw[wm (by omega)];rfl
theorem CS(a b c f:Int)(S nd:aa)(ds:ao)(op:bl)(tr:Bool)(x:aa)(d:x.length<=2000000)(g:nd.length+ep ds+x.length<=1000000000)(e:ds.length<=1000000000):
  vI (S,a,b,ds,c,f,nd,op,tr) x=some (S,a,b,(cQ nd ds x).2,c,f,(cQ nd ds x).1,op,tr):=by
 unfold vI a8;dsimp only;have h0:(0:Int)=((0:Nat):Int):=rfl;rw[h0,alL d bB 0 nd ds (by grind[gm]) (by omega) (by omega) e];simp
theorem tH:∀(l:ao),l.length<=ep l
 |[]=>by simp
 |a::b=>by have:=tH b;simp[ep,lG] at this⊢;omega
def n5(e:cf)(r0:aa)(nd:aa)(ds:ao)(st:ah):Prop:=st.2.2.2.2.1=1/\st.2.2.2.2.2.2.1=nd/\st.2.2.2.1=ds/\n4 e r0 st/\(e.S.length:Int)<=st.2.1
theorem n5.s{q:Bool}{e:cf}{r0:aa}{nd:aa}{ds:ao}{st:ah}(h:n5 e r0 nd ds st):iD q e r0 nd ds st:= .inl h
theorem n5.mono{e:cf}{r0 r1:aa}{nd:aa}{ds:ao}{st:ah}(h:n5 e r0 nd ds st)(ad:r0<:+r1):n5 e r1 nd ds st:=⟨h.1,h.2.1,h.2.2.1,h.2.2.2.1.mono ad,h.2.2.2.2⟩
theorem FA{e:cf}{pd:ao}{tr:Bool}{x:aa}(h:cD e [] pd)(b:x.length<=100):∃a,g5 (e.st [] pd tr) x=some a/\n5 e [] (cQ [] pd x).1 (cQ [] pd x).2 a:=by
 have aB:=h.jO;have c:=h.b0;have hl:=AI x [] pd;simp only[A5] at hl aB;have d:=tH pd;refine⟨(e.S,ax e.S [],e.ne,(cQ [] pd x).2,1,0,(cQ [] pd x).1,[],tr),?_,rfl,rfl,rfl,⟨rfl,u5 (ax e.S []),?_,?_,?_⟩,?_⟩
 ·unfold g5 a8 cf.st;simp only[bz,aK];rw[CS _ _ _ _ _ _ _ _ _ _ (by omega) (by grind) (by omega),aO rfl]
 ·grind[ax,iu]
 ·grind
 ·simp
 simp[ax,iu,u5]
theorem xo{e:cf}{r1 r0 nd:aa}{ds:ao}{st:ah}{nm x:aa}(h:n5 e r1 nd ds st)(ad:r1<:+r0)(h0:r0<:+e.S)(y:nm=[]\/r1.length<r0.length)(z:nd.length+ep ds+x.length<=100*e.S.length+1000)(di:e.S.length<=1000000)(A:x.length<=1000):
  ∃k,gA st nm x=some k/\n5 e r0 (cQ nd ds x).1 (cQ nd ds x).2 k:=by
 obtain⟨a,b,c,d,SJ,f,g,op,tr⟩:=st;obtain⟨l,m,n,r,i⟩:=h;simp only at l m n i;subst l m n;have hl:=AI x g d;have o:=ad.length_le;have s:=h0.length_le;have B:ax e.S r0<=ax e.S r1:=by grind[ax]
 have C:=tH d;obtain⟨p,t,u,v,w⟩:=r;simp only at p t u v w;subst p
 have q:∀j,vI (e.S,b,c,d,1,f,g,j,tr) x=some (e.S,b,c,(cQ g d x).2,1,f,(cQ g d x).1,j,tr):=λj=>CS _ _ _ _ _ _ _ _ _ _ (by omega) (by omega) (by omega)
 unfold gA a8;simp only[bz,aK];by_cases aw:nm=[]
 ·subst aw;simp only[bz,g8,aU];rw[q,aO rfl];exact⟨_,rfl,rfl,rfl,rfl,⟨rfl,by grind,by grind,by grind,by grind⟩,i⟩
 ·have D:r1.length<r0.length:=by grind
  simp only[aw,bF,e7,aK];rw[bZ (by grind),q,aO rfl];exact⟨_,rfl,rfl,rfl,rfl,⟨rfl,by grind,by grind,by grind,by grind⟩,i⟩
theorem pN{st:ah}{nm x:aa}(h:st.2.2.2.2.1≠1):gA st nm x=some st:=by simp_all[gA,bF,aU]
theorem SK:∀(x nd:aa)(ds:ao),(10:UInt8)∉x->cQ nd ds x=(nd++x,ds)
 |[],nd,ds,_=>by simp[cQ]
 |b::x,nd,ds,h=>by have a:b≠10:=λc=>h (by grind);simp_all[cQ,aP,SK]
theorem SL{q:Bool}{e:cf}{r0 r:aa}{pd:ao}{tr:Bool}{o:Option aa}{nm x:aa}(h:cD e r pd)(h0:r<:+r0)(b:∀q,o=some q->q<:+r)(c:(10:UInt8)∉x)(i:x.length<=r.length+100)(j:r0≠[])(d:∀q,o=some q->q=[]->tr=false):
  bM q e r0 (match o with|some r'=>dD.ok () r' pd|none=> .more [nm] x pd) (λst=>st) (λ_ _ _=>True) (sm (e.st r pd tr) (kX e.S o) nm x):=by
 cases o with
 |some q=>
  have a:=b q rfl;have ad:¬ax e.S q<0:=by have:=eL (a.trans h.sfx);grind[ax]
  refine⟨e.st q pd tr,?_,a.trans h0,h.mono a,⟨tr,rfl,d q rfl⟩,trivial⟩;unfold sm;simp only[kX,ad,bF,aU];rfl
 |none=>
  have aB:=h.jO;have k:=h.b0;have l:=tH pd;have m:=eL h.sfx;have hm:g5 (e.st [] pd tr) x=some (e.S,ax e.S [],e.ne,pd,1,0,x,[],tr):=by unfold g5 a8 cf.st;simp only[bz,aK];rw[CS _ _ _ _ _ _ _ _ _ _ (by omega) (by grind) (by omega),aO rfl,SK _ _ _ c];rfl
  refine⟨(e.S,ax e.S [],e.ne,pd,1,0,x,[nm],tr),?_,?_⟩
  ·unfold sm;simp only[kX,show((-1:Int)<0) from by decide,decide_true,cond_true];have f:((e.st r pd tr).1,((e.st r pd tr).1.length:Int),(e.st r pd tr).2.2.1,(e.st r pd tr).2.2.2.1,(e.st r pd tr).2.2.2.2.1,(e.st r pd tr).2.2.2.2.2.1,(e.st r pd tr).2.2.2.2.2.2.1,(e.st r pd tr).2.2.2.2.2.2.2.1,(e.st r pd tr).2.2.2.2.2.2.2.2)=e.st [] pd tr:=by rfl
   rw[f,hm,aO rfl];exact bZ (by simp)
  ·have g:ax e.S r0<=ax e.S []:=by grind[ax,List.length_nil]
   refine .inl ⟨rfl,rfl,rfl,⟨rfl,g,?_,?_,?_⟩,?_⟩
   ·grind[ax,iu]
   ·grind
   ·simp
   simp[ax,iu,u5]
theorem Zx{q:Bool}{e:cf}{r0 r:aa}{pd:ao}{tr:Bool}{o:Option aa}{x:UInt8}(h:cD e r pd)(h0:r<:+r0)(a:∀q,o=some q->q<:+r)(d:x≠10)(b:r0≠[])(c:∀q,o=some q->q=[]->tr=false):
  bM q e r0 (match o with|some r'=>dD.ok () r' pd|none=> .more [[x]] [x] pd) (λst=>st) (λ_ _ _=>True) (sm (e.st r pd tr) (kX e.S o) [x] [x]):=
 SL h h0 a (by grind) (by simp) b c
theorem alM{x0:ah}{i0:Nat}{j:aa->Option ah}(c:i0<=x0.2.2.2.1.length)(h:x0.2.2.2.1.length<=1000000000):∀(n i:Nat)(x:aa),(x0.2.2.2.1.length-i0)-i<n->i<=x0.2.2.2.1.length-i0->x.length+ep ((x0.2.2.2.1.drop i0).drop i)<=1000000000->
  fixF (HN x0 (i0:Int) j) n ((i:Int),x)=j (x++lG ((x0.2.2.2.1.drop i0).drop i)):=by
 have d:ch x0.2.2.2.1 (i0:Int) (x0.2.2.2.1.length:Int)=x0.2.2.2.1.drop i0:=by simp[ch,Jx,JE]
 have e:(x0.2.2.2.1.drop i0).length=x0.2.2.2.1.length-i0:=Gh;intro n;induction n with
 |zero=>omega
 |succ n b=>
  intro i x aw bf l;rw[e4];generalize fixF (HN x0 (i0:Int) j) n=k at b;unfold HN;dsimp only;rw[d];generalize x0.2.2.2.1.drop i0=ds at*;by_cases f:i<ds.length
  ·have a:(i:Int)<(ds.length:Int):=by omega
   have aG:=MA f;have hl:ep (ds.drop i)=(at' ds (i:Int)).1.length+1+ep (ds.drop (i+1)):=by grind[ep,lG]
   simp only[a,bz,aK];rw[bZ ⟨by omega,trivial⟩,bZ (by omega),bZ (by grind)];have g:W ((i:Int)+1)=((i+1:Nat):Int):=by grind[dV]
   rw[g,b (i+1) _ (by omega) (by omega) (by grind),aG];simp[lG]
  ·have a:¬(i:Int)<(ds.length:Int):=by omega
   simp only[a,decide_false,cond_false];grind[List.drop_eq_nil_of_le,lG]
theorem alN{e:cf}{r0:aa}{pd:ao}{tr:Bool}{j:Int->Option ah}(di:e.S.length<=1000000)(p:ep pd<=100000000):∀(n i:Nat)(q:aa),pd.length-i<n->i<=pd.length->q<:+e.S->
  match l6 (pd.drop i) q with
  | .inl r'=>fixF (B4 (e.st r0 pd tr) j) n ((i:Int),ax e.S q)=j (ax e.S r')
  | .inr nd=>fixF (B4 (e.st r0 pd tr) j) n ((i:Int),ax e.S q)=some (e.S,(e.S.length:Int),e.ne,[],1,0,nd,[[60,60]],false):=by
 have r:=tH pd;intro n;induction n with
 |zero=>omega
 |succ n d=>
  intro i q aw bf c;rw[e4];generalize fixF (B4 (e.st r0 pd tr) j) n=k at d;unfold B4 a8;dsimp only;have f:(e.st r0 pd tr).1=e.S:=rfl;have g:(e.st r0 pd tr).2.2.2.1=pd:=rfl;rw[f,g];by_cases l:i<pd.length
  ·have a:(i:Int)<(pd.length:Int):=by omega
   have aG:=MA l;rw[aG];simp only[a,bz,aK];rw[bZ (show 0<=(i:Int)/\True from⟨by omega,trivial⟩),alE di c,aO rfl,dV (x:=(i:Int)+1) (by omega) (by omega)];unfold l6;cases m:ny (at' pd (i:Int)).1 (at' pd (i:Int)).2 q with
   |none=>
    simp only[show((-1:Int)<0) from by decide,bz,aK];rw[bZ (by omega)]
    have:=alM (x0:=e.st r0 pd tr) (i0:=i) (j:=λo=>some (e.S,(e.S.length:Int),(e.st r0 pd tr).2.2.1,[],1,(e.st r0 pd tr).2.2.2.2.2.1,o,([([60,60]:aa)]:bl),false)) bf (by grind) bB 0 [] (by grind[gm]) (by omega) (by
     show 0+ep ((pd.drop i).drop 0)<=_;rw[xI];have:ep (pd.drop i)<=ep pd:=by have h:=Zr (pd.take i) (pd.drop i);grind[List.take_append_drop]
     omega)
    have h0:(e.st r0 pd tr).2.2.2.2.2.2.1=[]:=rfl;rw[h0];refine Eq.trans this ?_;show some (e.S,(e.S.length:Int),e.ne,([]:ao),(1:Int),(0:Int),[]++lG ((pd.drop i).drop 0),[[60,60]],false)=_;grind
   |some b=>
    have s:b<:+e.S:=((Rm _ _ _ q [] b (cX _) m).1).trans c;have h0:¬ax e.S b<0:=by grind[eL,ax]
    grind
  ·have a:¬(i:Int)<(pd.length:Int):=by omega
   rw[wm (by omega)];simp only[a,bF,aU];rfl
theorem Zy{q:Bool}{e:cf}{t:aa}{pd:ao}{tr:Bool}(h:cD e (10::t) pd):bM q e (10::t) (iW (10::t) pd) (λst=>st) (λ_ _ _=>True) (Aa (e.st (10::t) pd tr)):=by
 have aB:=h.jO;have l:=h.b0;have c:t<:+e.S:=dZ h.sfx;have m:=eL c;have a:=alN (e:=e) (r0:=10::t) (pd:=pd) (tr:=tr) (j:=λd=>some (e.S,d,e.ne,[],0,0,[],[],false)) h.b0 (by omega) bB 0 t (by grind[tH,gm]) (by omega) c;rw[xI] at a;have i:W (ax e.S (10::t)+1)=ax e.S t:=iP h.b0 h.sfx;have g:Aa (e.st (10::t) pd tr)=fixF (B4 (e.st (10::t) pd tr) λd=>some (e.S,d,e.ne,[],0,0,[],[],false)) bB ((0:Nat),ax e.S t):=by unfold Aa a8;show fixF _ bB ((0:Int),W (ax e.S (10::t)+1))=_;rw[i];rfl
 unfold iW;simp only;cases b:l6 pd t with
 |inl r'=>rw[b] at a;simp only at a⊢;have f:=(vO pd t [] r' b).1;have hl:=f.length_le;refine⟨e.st r' [] false,?_,f.trans (ee 10 t),⟨h.b0,h.nl,h.IV,f.trans c,by grind[ep,lG]⟩,⟨false,rfl,λ_=>rfl⟩,trivial⟩;rw[g];exact a
 |inr nd=>
  rw[b] at a;simp only at a⊢;have k:=SA pd t nd b;refine⟨_,g.trans a,.inl ⟨rfl,rfl,rfl,⟨rfl,?_,?_,?_,?_⟩,?_⟩⟩
  ·grind[ax,oV]
  ·grind
  ·grind[ep,lG]
  ·simp
  simp
theorem SM{t:aa}{pd:ao}{a:Unit}{r1:aa}{aD:ao}(h:iW (10::t) pd= .ok a r1 aD):r1<:+t/\aD=[]:=by
 unfold iW at h;simp only at h;cases b:l6 pd t with
 |inl r'=>rw[b] at h;cases h;exact⟨(vO pd t [] _ b).1,rfl⟩
 |inr nd=>grind
theorem FB{e:cf}{r:aa}{pd:ao}{st:ah}(h:cD e r pd)(B:gg e r pd st):bM true e r (cR r pd) (λst=>st) (λ_ r' _=>bq r'=some r'/\ar r'≠ .line) (oi st):=by
 unfold oi a8;have C:st.2.2.2.1=pd/\st.2.2.2.2.2.2.2.1=[]:=by obtain⟨tr,rfl,_⟩:=B;exact⟨rfl,rfl⟩
 rw[C.1,C.2]
 have I:∀(N:Nat)(b:Bool)(r:aa)(pd:ao)(st:ah),r.length+1<N->cD e r pd->gg e r pd st->bq r=some r->∀r0:aa,r<:+r0->(ar r= .line->r.length<=r0.length)->bM true e r0 (cP gu r0 (if ar r= .line then ae iW (λ_=>aY (.inl true)) r pd else .ok (.inr b) r pd)) (λst=>st) (λ_ r' _=>bq r'=some r'/\ar r'≠ .line) (fixF (yx λx=>some x) N st):=by
  intro N;induction N with
  |zero=>omega
  |succ N D=>
   intro b r pd st X p J K r0 E _;rw[e4]
   obtain⟨M,L⟩:∃M,N=M+1:=⟨N-1,by omega⟩
   have s:∀x:ah,(x.2.2.2.2.1≠0\/∃ds,x=e.tt ds)->fixF (yx λx=>some x) N x=some x:=by
    intro x F;rw[L,e4];unfold yx;dsimp only;rcases F with F|⟨ds,rfl⟩
    ·simp_all[bF,cY,eB,cr,aU]
    ·have l:ig (e.tt ds)=some 0:=by rw[xm];exact v3 (e:=e) (r:=[]) oA _ _ _ _ _ _ _
     have h0:(e.tt ds).2.2.2.2.1=0:=rfl;rw[show ig ((e.tt ds).1,(e.tt ds).2.1,(e.tt ds).2.2.1,(e.tt ds).2.2.2.1,(e.tt ds).2.2.2.2.1,(e.tt ds).2.2.2.2.2.1,(e.tt ds).2.2.2.2.2.2.1,(e.tt ds).2.2.2.2.2.2.2.1,(e.tt ds).2.2.2.2.2.2.2.2)=some 0 from l];rw[gf,h0];rfl
   generalize Y:fixF (yx λx=>some x) N=k at D s;obtain⟨tr,rfl,O⟩:=J;unfold yx a8;dsimp only;have l:ig ((e.st r pd tr).1,(e.st r pd tr).2.1,(e.st r pd tr).2.2.1,(e.st r pd tr).2.2.2.1,(e.st r pd tr).2.2.2.2.1,(e.st r pd tr).2.2.2.2.2.1,(e.st r pd tr).2.2.2.2.2.2.1,(e.st r pd tr).2.2.2.2.2.2.2.1,(e.st r pd tr).2.2.2.2.2.2.2.2)=some (r.headD 0):=v3 p.sfx _ _ _ _ _ _ _;rw[l,gf];have h0:(e.st r pd tr).2.2.2.2.1=0:=rfl;rw[h0];simp only[bz,cH,aK,pK];by_cases hl:ar r= .line
   ·rw[bh hl];obtain⟨t,rfl⟩:=vT hl;simp only[zk,bz,aK];refine bM.iC c3.k ((Zy (q:=false) p).mono E) (λ_ r1 aD c P s1 Q v _=>?_) (λop nd ds c Z G=>?_) (λc o=>?_)
    ·have R:c.2.2.2.2.1=0:=by obtain⟨S,rfl,_⟩:=v;rfl
     have H:c.2.2.2.1=aD/\c.2.2.2.2.2.2.2.1=[]:=by obtain⟨S,rfl,_⟩:=v;exact⟨rfl,rfl⟩
     rw[R,H.1,H.2];simp only[bz,aK];have SO:r1.length<(10::t).length:=by have:=(SM P).1.length_le;grind
     have T:r1.length<r0.length:=by grind
     show bM true e r0 (cP gu r0 (.ok (.inl true) r1 aD)) _ _ _;refine bM.inl T ?_;rw[cq];rcases xn Q v with⟨d,a,f,g,m,w,i,y⟩|⟨f,g⟩
     ·have z:gu true r1 aD=(if ar d= .line then ae iW (λ_=>aY (.inl true)) d aD else .ok (.inr true) d aD):=by
       by_cases j:ar d= .line
       ·obtain⟨u,rfl⟩:=vT j;simp_all[bh,ts]
       simp_all[aP,pJ]
      rw[z,g,aO rfl];have A:a=(a.1,a.2.1,a.2.2.1,aD,a.2.2.2.2.1,a.2.2.2.2.2.1,a.2.2.2.2.2.2.1,([]:bl),a.2.2.2.2.2.2.2.2):=by obtain⟨U,rfl,_⟩:=m;rfl
      rw[<-A];exact(D true d aD a (by grind) w m y r1 i (λ_=>i.length_le)).mono s1
     ·rw[g,aO rfl];have:gu true r1 aD= .more [] (cQ [] aD []).1 (cQ [] aD []).2:=db (iB f);rw[this];refine⟨e.tt aD,?_,.inr ⟨rfl,rfl,rfl⟩⟩;exact s (e.tt aD) (.inr ⟨aD,rfl⟩)
    ·have ad:=G.z.1;refine⟨c,?_,G.up⟩;grind
    ·refine⟨c,?_,o⟩;rw[o.1];simp only[show¬((2:Int)=0) by decide,bF,aU];have:=s c (.inl (by rw[o.1];decide));have V:c=(c.1,c.2.1,c.2.2.1,c.2.2.2.1,2,c.2.2.2.2.2.1,c.2.2.2.2.2.2.1,c.2.2.2.2.2.2.2.1,c.2.2.2.2.2.2.2.2):=by rw[<-o.1]
     grind
   ·rw[aP hl];have W:decide (r.headD 0=10)=false:=by
     cases r with
     |nil=>rfl
     |cons b t=>
      have:b≠10:=by rintro rfl;grind[ar]
      grind
    rw[W];simp only[aU];exact⟨_,rfl,E,p,⟨tr,rfl,O⟩,K,hl⟩
 rw[qq,cq];rcases xn h B with⟨d,a,f,g,m,w,i,y⟩|⟨f,g⟩
 ·rw[g,aO rfl];have A:a=(a.1,a.2.1,a.2.2.1,pd,a.2.2.2.2.1,a.2.2.2.2.2.1,a.2.2.2.2.2.2.1,([]:bl),a.2.2.2.2.2.2.2.2):=by obtain⟨U,rfl,_⟩:=m;rfl
  rw[<-A];have z:gu false r pd=(if ar d= .line then ae iW (λ_=>aY (.inl true)) d pd else .ok (.inr false) d pd):=by
   by_cases j:ar d= .line
   ·obtain⟨u,rfl⟩:=vT j;rw[bh j,ts f]
   ·rw[aP j,pJ f j]
  rw[z];exact I bB false d pd a (by have:=i.length_le;have:=h.b0;have:=eL h.sfx;grind[gm]) w m y r i (λ_=>i.length_le)
 ·rw[g,aO rfl];have:gu false r pd= .more [] (cQ [] pd []).1 (cQ [] pd []).2:=db (iB f);rw[this];refine⟨e.tt pd,?_,.inr ⟨rfl,rfl,rfl⟩⟩
  obtain⟨n,aw⟩:∃n,bB=n+1:=⟨bB-1,by rw[gm]⟩
  dsimp only;rw[aw,e4];unfold yx;dsimp only;have l:ig ((e.tt pd).1,(e.tt pd).2.1,(e.tt pd).2.2.1,pd,(e.tt pd).2.2.2.2.1,(e.tt pd).2.2.2.2.2.1,(e.tt pd).2.2.2.2.2.2.1,[],(e.tt pd).2.2.2.2.2.2.2.2)=some 0:=by have:=v3 (e:=e) (r:=[]) oA e.ne 0 0 pd [] [] true;rw[iu] at this;exact this
  rw[l,gf];rfl
def gv(b:UInt8):Bool:=(decide (97<=b)&&decide (b<=122))||decide (b=123)||decide (b=125)||decide (b=33)
def ja(r:aa):aa:=if r.dropWhile gv≠[]/\cW (r.dropWhile gv)=true then r.takeWhile gv else []
theorem alP(b:UInt8):((b.toNat:Int)=33)↔b=33:=q2 (c:=33)
theorem Zz(b:UInt8):((b.toNat:Int)=125)↔b=125:=q2 (c:=125)
theorem alQ{e:cf}{x0:ah}{j:Int->Option aa}(d:x0.1=e.S)(di:e.S.length<=1000000):∀(n:Nat)(r:aa),r.length<n->r<:+e.S->fixF (HP x0 j) n (ax e.S r)=j (ax e.S (r.dropWhile gv)):=by
 intro n;induction n with
 |zero=>omega
 |succ n f=>
  intro r aw c;rw[e4];generalize fixF (HP x0 j) n=k at f;unfold HP;rw[d];cases r with
  |nil=>simp[iu,a4]
  |cons b t=>
   have g:0<=ax e.S (b::t)/\ax e.S (b::t)<(e.S.length:Int):=h4 c;have a:∀p:Prop,(p->0<=ax e.S (b::t)/\ax e.S (b::t)<(e.S.length:Int)):=λp _=>g
   rw[bZ (a _),bZ (λ_=>a _),bZ (λ_=>a _),bZ (λ_=>a _),bZ (λ_=>a _)];simp only[ng c,bz,aK,jC c,iP di c,So,Sp,CH,Zz,alP];have aF:(bif(bif(bif(bif decide (97<=b) then decide (b<=122) else false) then true else decide (b=123)) then true else decide (b=125)) then true else decide (b=33))=gv b:=by simp[gv,decide]
   grind[gv,List.dropWhile_cons_of_pos,List.length_cons,dZ,List.dropWhile_cons_of_neg]
theorem v8{e:cf}{r:aa}{pd:ao}{tr:Bool}(h:cD e r pd):lF (e.st r pd tr)=some (ja r):=by
 unfold lF a8;have s:(e.st r pd tr).1=e.S:=rfl;have u:(e.st r pd tr).2.1=ax e.S r:=rfl;have hl:=alQ (e:=e) (x0:=e.st r pd tr) (j:=λc=>(a4 (((decide (c<(e.S.length:Int)))=true)->0<=c/\c<(e.S.length:Int))<|(cY ((decide (c<(e.S.length:Int)))=true) (z9 (at' e.S c)) false λ(f:Bool)=>(a4 ((f=false)->((decide (c<(e.S.length:Int)))=true)->0<=c/\c<(e.S.length:Int))<|(cY ((bif f then true else(decide (((at' e.S c).toNat:Int)=(10:Int))))=false/\(decide (c<(e.S.length:Int)))=true) (yr e.S c) [] λ(m:aa)=>(bif(bif(decide (c<(e.S.length:Int))) then(bif(bif f then true else(decide (((at' e.S c).toNat:Int)=(10:Int)))) then true else(!(decide (m=[])))) else false) then(a4 (0<=ax e.S r/\ax e.S r<=c/\c<=(e.S.length:Int))<|some (ch e.S (ax e.S r) c)) else some ([]))))))) rfl h.b0 bB r (lq (lL (eL h.sfx) h.b0)) h.sfx;refine Eq.trans hl ?_;have i:r.dropWhile gv<:+r:=List.dropWhile_suffix _;have d:=i.trans h.sfx;have k:0<=ax e.S r/\ax e.S r<=ax e.S (r.dropWhile gv)/\ax e.S (r.dropWhile gv)<=(e.S.length:Int):=by have:=i.length_le;have:=eL h.sfx;grind[ax]
 have n:ch e.S (ax e.S r) (ax e.S (r.dropWhile gv))=r.takeWhile gv:=by rw[ID h.sfx i];have o:=Ub (p:=gv) (l:=r);generalize r.takeWhile gv=a at*;generalize r.dropWhile gv=b at*;rw[<-o];simp
 unfold ja;cases q:r.dropWhile gv with
 |nil=>simp[iu,a4,cY]
 |cons b t=>
  rw[q] at d k n;have g:=h4 d;rw[bZ (λ_=>g)];simp only[ng d,bz,jC d,SH,gf,cH];refine Eq.trans (bZ (λ_ _=>⟨g.1,trivial⟩)) ?_;simp only[SG h.b0 d,gf,pK,and_true,aK];have v:cW (b::t)=(gb b||decide (b=10)|| !decide (bt (b::t)=[])):=by show(gb b||(b==10)||(bt (b::t)!=[]))=_;grind
  grind[gb,a4,bt]
theorem MC{b:UInt8}(h:gv b=true):gb b=false/\b≠10/\b≠92/\b≠39/\b≠34/\b≠96/\b≠36/\b≠35/\oR b=false:=by
 have ad:(97<=b.toNat/\b.toNat<=122)\/b.toNat=123\/b.toNat=125\/b.toNat=33:=by
  unfold gv at h;simp only[A3,g7,Ud,Dm] at h;have a:(97:UInt8).toNat=97:=rfl;have c:(122:UInt8).toNat=122:=rfl;rw[a,c] at h;rcases h with((h|h)|h)|h
  ·omega
  ·simp_all
  ·simp_all
  simp_all
 have d:b=UInt8.ofNat b.toNat:=by simp
 generalize b.toNat=n at*;subst d;have:n=97\/n=98\/n=99\/n=100\/n=101\/n=102\/n=103\/n=104\/n=105\/n=106\/n=107\/n=108\/n=109\/n=110\/n=111\/n=112\/n=113\/n=114\/n=115\/n=116\/n=117\/n=118\/n=119\/n=120\/n=121\/n=122\/n=123\/n=125\/n=33:=by omega
 rcases this with rfl|rfl|rfl|rfl|rfl|rfl|rfl|rfl|rfl|rfl|rfl|rfl|rfl|rfl|rfl|rfl|rfl|rfl|rfl|rfl|rfl|rfl|rfl|rfl|rfl|rfl|rfl|rfl|rfl<;>decide
theorem ZA{b:UInt8}{t:aa}(h:gv b=true):cW (b::t)=false:=by obtain⟨ad,a,_,_,_,_,_,_,c⟩:=MC h;show(gb b||b==10||bt (b::t)!=[])=false;grind[nY]
theorem alS{b:UInt8}{t:aa}(h:gv b=true):fQ (b::t)=false:=by simp_all[MC,sD]
theorem ZB:∀(r:aa),cW (r.dropWhile gv)=true->c5 r=(r.takeWhile gv,true)
 |[],_=>by decide
 |b::t,h=>by
  cases a:gv b with
  |true=>rw[T8 a] at h;obtain⟨ad,c,d,e,f,g,i,j,k⟩:=MC a;unfold c5;simp_all[ZA,aP,alS,ZB,List.takeWhile_cons_of_pos]
  |false=>simp_all[JB,c5,bh,Uc]
theorem CT(b:UInt8)(t:aa):ar (b::t)=if b=10 then Tok.line else if bt (b::t)≠[] then .op (bt (b::t)) else .word (c5 (b::t)).1 (c5 (b::t)).2:=rfl
theorem rM{r w:aa}(e:c_ r)(i:w≠[])(f:w.all gv=true):ja r=w↔ar r= .word w true:=by
 unfold ja;constructor
 ·intro h;split at h
  ·rename_i aF;have aB:=ZB r aF.2;cases r with
   |nil=>simp_all
   |cons b t=>
    have j:gv b=true:=by grind[gv,List.takeWhile_cons_of_neg,absurd]
    simp_all[MC,CT,aP,nY]
  grind
 ·intro h;cases r with
  |nil=>grind[ar]
  |cons b t=>
   have aB:c5 (b::t)=(w,true):=by grind[CT,Prod.ext]
   obtain⟨v,a⟩:=(E4 _ _ aB).1;have he:=Sg _ _ aB;rw[<-a,o5] at he;have g:v≠[]:=by
    rintro rfl;rw[rS] at a;rcases e with h0|⟨s,h0⟩
    ·cases h0
    grind[gv,List.all_eq_true,absurd]
   have aG:v.dropWhile gv=v/\v.takeWhile gv=[]:=by
    cases v with
    |nil=>simp
    |cons c u=>grind[gv,ZA,List.dropWhile_cons_of_neg,List.takeWhile_cons_of_neg]
   have d:∀x∈w,gv x=true:=o4.1 f
   rw[<-a,List.dropWhile_append_of_pos d,aG.1,bh ⟨g,he⟩,List.takeWhile_append_of_pos d,aG.2,rS]
theorem IZ{r w:aa}(a:c_ r)(b:w≠[])(c:w.all gv=true):decide (ja r=w)=cB (ar r) w:=by have:=rM a b c;grind[cB,ja,decide_eq_true,decide_eq_false,ar]
theorem ZC{r:aa}{L:bl}(a:c_ r)(bn:∀w∈L,w≠[]/\w.all gv=true):L.contains (ja r)=(match ar r with| .word w true=>L.contains w|_=>false):=by
 rw[Bool.eq_iff_iff];constructor
 ·intro h;have hm:=List.contains_iff_mem.1 h;obtain⟨ad,b⟩:=bn _ hm;have:=(rM a ad b).1 rfl;grind
 grind[ar,List.contains_iff_mem,rM]
theorem alT{r:aa}(a:c_ r):qg (ja r)=(match ar r with| .word w true=>qg w|_=>false):=by unfold qg;exact ZC a (by decide)
theorem alU{r:aa}(a:c_ r):rF (ja r)=(match ar r with| .word w true=>rF w|_=>false):=by unfold rF;exact ZC a (by decide)
theorem mS{r o:aa}(a:o≠[]):ar r= .op o↔bt r=o:=by
 constructor
 ·intro h;exact(iq h).1.symm
 ·intro h;cases r with
  |nil=>simp_all[bt,lh,xJ,List.isPrefixOf,absurd]
  |cons b t=>
   have c:b≠10:=by rintro rfl;rw[nY (by decide)] at h;grind
   simp_all[CT,aP,bh]
theorem ZD{r:aa}(a:c_ r):(decide (bt r=[40])||qg (ja r))=gX (ar r):=by rw[alT a];grind[gX,bt,mS,ar,decide_eq_false]
theorem alV{e:cf}{x0:ah}{j:Int->Option Bool}(c:x0.1=e.S)(di:e.S.length<=1000000):∀(n:Nat)(r:aa),r.length<n->r<:+e.S->fixF (HR x0 j) n (ax e.S r)=j (ax e.S (r.dropWhile ca)):=by
 intro n;induction n with
 |zero=>omega
 |succ n d=>
  intro r aw a;rw[e4];generalize fixF (HR x0 j) n=k at d;unfold HR;rw[c];cases r with
  |nil=>simp[iu,a4]
  |cons b t=>
   have g:=h4 a;rw[bZ (λ_=>g),bZ (λ_=>g)];simp only[ng a,bz,aK,jC a,iP di a,Sq,Sr];have aF:(bif decide (48<=b) then decide (b<=57) else false)=ca b:=by simp[ca,decide]
   grind[ca,List.dropWhile_cons_of_pos,List.length_cons,dZ,List.dropWhile_cons_of_neg]
theorem SP{e:cf}{r:aa}{pd:ao}{tr:Bool}(h:cD e r pd):Ac (e.st r pd tr)=some (decide (r.dropWhile ca≠r)&&eZ (bt (r.dropWhile ca))):=by
 unfold Ac a8;have b:r.dropWhile ca<:+r:=List.dropWhile_suffix _;have hl:=alV (e:=e) (x0:=e.st r pd tr) (j:=λa=>cY ((decide (ax e.S r<a))=true) (yr e.S a) [] λ(c:aa)=>(cY ((decide (ax e.S r<a))=true) (vK c) false λ(d:Bool)=>some (bif(decide (ax e.S r<a)) then d else false))) rfl h.b0 bB r (lq (lL (eL h.sfx) h.b0)) h.sfx;refine Eq.trans hl ?_;rw[SG h.b0 (b.trans h.sfx),gf];have g:decide (ax e.S r<ax e.S (r.dropWhile ca))=decide (r.dropWhile ca≠r):=by
  by_cases f:r.dropWhile ca=r
  ·grind
  ·have:(r.dropWhile ca).length<r.length:=by
    rcases NL (r.dropWhile ca).length r.length with ad|ad
    ·exact ad
    ·exact absurd (b.eq_of_length (Nat.le_antisymm b.length_le ad)) f
   grind[ax,ca]
 grind[Fy,gf,decide,ca]
theorem MD(r:aa):(eZ (bt r)||(decide (r.dropWhile ca≠r)&&eZ (bt (r.dropWhile ca))))=eZ (bt (r.dropWhile ca)):=by
 by_cases h:r.dropWhile ca=r
 ·grind
 ·have h0:bt r=[]:=by
   cases r with
   |nil=>simp_all
   |cons b t=>
    cases a:ca b with
    |true=>simp_all[nY,AB]
    |false=>simp_all
  simp_all[eZ]
theorem SQ{e:cf}{r:aa}{pd:ao}{tr:Bool}(h:cD e r pd)(k:Nat)(hk:k<=1000):tj (e.st r pd tr) k=some ((r.drop k).headD 0):=by
 unfold tj;have hl:=eL h.sfx;have g:=h.b0;have ad:(e.st r pd tr).2.1=ax e.S r:=rfl;have c:(e.st r pd tr).1=e.S:=rfl;have aB:0<=ax e.S r/\ax e.S r<=(e.S.length:Int):=by grind[ax]
 have d:W (ax e.S r+(k:Int))=ax e.S r+k:=dV (by omega) (by omega);rw[ad,c,d];by_cases i:k<r.length
 ·have a:r.drop k<:+e.S:=(lK k r).trans h.sfx;have f:ax e.S r+(k:Int)=ax e.S (r.drop k):=by grind[ax,List.length_drop]
  rw[f];cases aG:r.drop k with
  |nil=>grind
  |cons b t=>rw[aG] at a;simp only[ng a,bz,aK];simp_all[bZ,h4,trivial,trans,jC]
 grind[ax,List.drop_eq_nil_of_le]
theorem sI{α β b:Type}{m:Option α}{f:α->Option β}{g:β->Option b}:au (au m f) g=au m (λa=>au (f a) g):=by cases m<;>rfl
theorem SR{α β:Type}{b:Bool}{x y:Option α}{g:α->Option β}:au (bif b then x else y) g=bif b then au x g else au y g:=by grind
theorem n6{α β:Type}{a:α}{g:α->Option β}:au (some a) g=g a:=rfl
theorem ZE{R:bg}{a b:aa}:∀(n:Nat)(x:ah),fixF (w2 R λst=>au (gA st a b) λy=>some y) n x=au (fixF (w2 R λst=>some st) n x) λst=>gA st a b
 |0,x=>rfl
 |n+1,x=>by
  rw[e4,e4];have c:=ZE (R:=R) (a:=a) (b:=b) n;generalize fixF (w2 R λst=>au (gA st a b) λy=>some y) n=cm at c;generalize fixF (w2 R λst=>some st) n=o at c;obtain⟨e,f,g,i,d,j,k,l,m⟩:=x;unfold w2 a8;dsimp only;by_cases h:d=0
  ·subst h;simp only[bz,aK,sI,SR,c,n6];rfl
  ·simp only[h,bF,aU,n6];cases gA (e,f,g,i,d,j,k,l,m) a b<;>rfl
theorem ZF{R:bg}{a b:aa}:∀(n:Nat)(x:ah),fixF (w7 R λst=>au (gA st a b) λy=>some y) n x=au (fixF (w7 R λst=>some st) n x) λst=>gA st a b
 |0,x=>rfl
 |n+1,x=>by
  rw[e4,e4];have c:=ZF (R:=R) (a:=a) (b:=b) n;generalize fixF (w7 R λst=>au (gA st a b) λy=>some y) n=cm at c;generalize fixF (w7 R λst=>some st) n=o at c;obtain⟨e,f,g,i,d,j,k,l,m⟩:=x;unfold w7 a8;dsimp only;by_cases h:d=0
  ·subst h;simp only[bz,aK,sI,SR,c,n6];rfl
  ·simp only[h,bF,aU,n6];cases gA (e,f,g,i,d,j,k,l,m) a b<;>rfl
theorem cD.yX{e:cf}{b:UInt8}{t:aa}{pd:ao}(h:cD e (b::t) pd)(a:b≠10):t≠[]:=by
 rintro rfl;have:=h.nl.ia h.sfx;rcases this with ad|⟨s,ad⟩
 ·cases ad
 ·have:=ma List.getLast? ad;grind
theorem c_.last{t:aa}(h:c_ t)(a:t≠[]){x:aa}{b:UInt8}(he:t=x++[b]):b=10:=by
 rcases h with ad|⟨s,ad⟩
 ·grind
 simp_all
theorem alW:∀(n:Nat)(r q:aa),r.length<=n->gW r=some q->∃x,r=x++96::q:=by
 intro n;induction n with
 |zero=>simp_all[n7,Nat.le_zero,gW]
 |succ n d=>
  intro r q aw h;cases r with
  |nil=>grind
  |cons b t=>
   unfold gW at h;split at h
   ·simp_all
   ·split at h
    ·cases t with
     |nil=>cases h
     |cons c u=>obtain⟨x,a⟩:=d u q (by simp only[mv] at aw;omega) h;exact⟨b::c::x,by rw[a];rfl⟩
    ·obtain⟨x,a⟩:=d t q (by simp only[mv] at aw;omega) h;exact⟨b::x,by rw[a];rfl⟩
theorem ZG:∀(r q:aa),gk r=some q->∃x,r=x++39::q
 |[],q,h=>by grind[gk]
 |b::t,q,h=>by
  unfold gk at h;split at h
  ·rename_i a;cases h;subst a;exact⟨[],rfl⟩
  ·obtain⟨x,c⟩:=ZG t q h;exact⟨b::x,by rw[c];rfl⟩
theorem SS{t x q:aa}{c:UInt8}(aF:c≠10)(h:c_ t)(he:t=x++c::q):q≠[]:=by rintro rfl;exact aF (h.last (by simp_all) he)
structure kv(R:bg)(n:Nat):Prop where
 im:∀(e:cf),e.ne=30- (n:Int)->∀(t:aa)(pd:ao)(tr:Bool),cD e (36::t) pd->bM false e (36::t) (a7 true n (36::t) pd) (λst=>st) (λ_ _ _=>True) (R.vo (e.st (36::t) pd tr))
theorem FD{e:cf}{r0 r:aa}{pd:ao}{f:Unit->ak (Unit⊕Unit)}{part:ak Unit}{y:Option ah}{β:Type}{pr:β->ah}{cv:Unit->aa->β->Prop}{k:ah->Option β}
  (hm:bM false e r0 (part r pd) (λst=>st) (λ_ _ _=>True) y) (hl:∀a r' c,part r pd= .ok a r' c->r'.length<r.length)
  (hk:∀r' c g,r'<:+r0->cD e r' c->r'.length<r.length->gg e r' c g->bM false e r0 (b7 f () r' c) pr cv (k g))
  (h:∀x,x.2.2.2.2.1≠0->∃b,k x=some b/\pr b=x):
  bM false e r0 (cP f r (ae part (λ_=>aY (.inl ())) r pd)) pr cv (au y k):=by
 refine bM.iC c3.k hm (λa r1 aD d i s1 j l _=>?_) (λop nd ds d _ m=>?_) (λd n=>?_)
 ·have:=hl a r1 aD i;exact bM.inl this (hk r1 aD d s1 j this l)
 ·obtain⟨b,o,p⟩:=h d (by rw[m.z.1];decide);grind
 ·obtain⟨b,o,p⟩:=h d (by rw[n.1];decide);grind
theorem SU{e:cf}{t:aa}{pd:ao}{tr:Bool}(h:cD e (92::t) pd):w1 (e.st (92::t) pd tr)=some (e.st (t.drop 1) pd tr):=by
 have b:=h.yX (by decide);cases t with
 |nil=>grind
 |cons c u=>
  have a:W (ax e.S (92::c::u)+2)=ax e.S u:=ku (w:=[92,c]) h.b0 h.sfx;unfold w1;have ad:(e.st (92::c::u) pd tr).2.1=ax e.S (92::c::u):=rfl;rw[ad,a];have:¬((e.st (92::c::u) pd tr).1.length:Int)<ax e.S u:=by have:= @oV u e.S;show¬(e.S.length:Int)<ax e.S u;omega
  simp only[this,bF,aU];rfl
theorem SV{e:cf}{t r0:aa}{pd:ao}{tr:Bool}(h:cD e (96::t) pd)(h0:96::t<:+r0):bM false e r0 (jr gW [96] t pd) (λst=>st) (λ_ _ _=>True) (au (Ad e.S (W (ax e.S (96::t)+1))) λy=>sm (e.st (96::t) pd tr) y [96] [96]):=by rw[iP h.b0 h.sfx,alB h.b0 (dZ h.sfx),aO rfl];unfold jr;have b:=(h.nl.ia h.sfx).tail;refine Zx h h0 (λq a=>(E9 _ _ q (cX _) a).trans (ee _ _)) (by decide) (by grind) λq a c=>?_;obtain⟨x,d⟩:=alW _ _ _ (cX _) a;grind[absurd,SS]
theorem ZH{e:cf}{t r0:aa}{pd:ao}{tr:Bool}(h:cD e (39::t) pd)(h0:39::t<:+r0):bM false e r0 (jr gk [39] t pd) (λst=>st) (λ_ _ _=>True) (au (B7 e.S (W (ax e.S (39::t)+1))) λy=>sm (e.st (39::t) pd tr) y [39] [39]):=by rw[iP h.b0 h.sfx,alz h.b0 (dZ h.sfx),aO rfl];unfold jr;have b:=(h.nl.ia h.sfx).tail;refine Zx h h0 (λq a=>(Av _ q a).trans (ee _ _)) (by decide) (by grind) λq a c=>?_;grind[ZG,absurd,SS]
theorem I0(fr:Bool)(n:Nat){t:aa}{pd:ao}(h:fQ (36::t)=false):a7 fr n (36::t) pd= .ok () t pd:=by rw[Fv];unfold dw;rw[sD] at h;grind
theorem SW(fr:Bool)(n:Nat){t:aa}{pd:ao}{a:Unit}{r':aa}{b:ao}(h:a7 fr n (36::t) pd= .ok a r' b):r'.length<(36::t).length:=by
 cases c:fQ (36::t) with
 |true=>exact(l_ fr n).lt c h
 |false=>grind[I0]
theorem CU(fr:Bool)(n:Nat)(dq:Option (ak Unit))(t:aa)(pd:ao):cA (a7 fr n) dq (36::t) pd=a7 fr n (36::t) pd:=by
 unfold cA;simp only;rw[aP (by decide),aP (by decide)];cases a:fQ (36::t) with
 |true=>simp
 |false=>grind[I0]
theorem FE{D:ak Unit}{dq:Option (ak Unit)}{b:UInt8}{t:aa}{pd:ao}(a:b≠92)(c:b≠96)(d:b≠36)(e:dq=none\/(b≠39/\b≠34)):cA D dq (b::t) pd= .ok () t pd:=by
 unfold cA;simp only;have f:fQ (b::t)=false:=by grind[sD]
 grind
section
variable{R:bg}{n:Nat}(hD:kv R n){e:cf}(bc:e.ne=30- (n:Int))
include hD bc
theorem alX{r:aa}{pd:ao}{tr:Bool}(h:cD e r pd):bM false e r (iX 34 (cA (a7 true n) none) r pd) (λst=>st) (λ_ _ _=>True) (fixF (w2 R λst=>some st) bB (e.st r pd tr)):=by
 unfold iX;refine bM.rep (en:=λ_ r pd x=>∃tr,x=e.st r pd tr) (λk s r pd x c l L hk=>?_) bB () r pd _ (v7 h) h ⟨tr,rfl⟩;obtain⟨tr,rfl⟩:=l
 have E:∀x:ah,x.2.2.2.2.1≠0->k x=some x:=by intro x l;obtain⟨k',ad⟩:=L x;simp_all[w2]
 have F:∀x:ah,x.2.2.2.2.1≠0->∃b,k x=some b/\b=x:=λx l=>⟨x,E x l,rfl⟩
 have G:∀r' d m,r'<:+r->cD e r' d->r'.length<r.length->gg e r' d m->bM false e r (b7 (λ_ r pd=>match r with
  |[]=>b3 [] r pd
  |b::t=>if b=34 then .ok (.inr ()) t pd else(ae (cA (a7 true n) none) λ_=>aY (.inl ())) r pd) () r' d) (λst=>st) (λ_ _ _=>True) (k m):=λr' d m M a2 a3 N=>hk () r' d m M a2 a3 (by obtain⟨tr,ad,_⟩:=N;grind)
 unfold w2 a8 cf.st;dsimp only;simp only[bz,aK];rw[vZ,aO rfl];cases r with
 |nil=>
  simp only[bz,aK];obtain⟨o,O,H⟩:=FA (tr:=tr) (x:=[]) c (by simp);have P:g5 (e.S,ax e.S [],e.ne,pd,0,0,[],[],tr) []=some o:=O;rw[P,aO rfl];refine⟨o,?_,?_⟩
  ·exact E o (by rw[H.1];decide)
  ·exact H.s
 |cons b t=>
  have j:t<:+b::t:=ee b t;have I:=iP c.b0 c.sfx;simp only[reduceCtorEq,bF,aU];have Q:∀p u v w y z A,ig (e.S,ax e.S (b::t),p,w,u,v,y,z,A)=some b:=λp u v w y z A=>v3 c.sfx p u v w y z A
  rw[Q];simp only[n6,n1,mN,n0,qv,I];by_cases J:b=34
  ·subst J;simp only[bz,aK,cH];exact⟨_,rfl,j,c.mono j,⟨tr,rfl,λS=>absurd S (c.yX (by decide))⟩,trivial⟩
  simp only[J,bF,aU,cr];by_cases B:b=92
  ·subst B;simp only[bz,aK];have aB:w1 (e.S,ax e.S (92::t),e.ne,pd,0,0,[],[],tr)=some (e.st (t.drop 1) pd tr):=SU c;rw[aB,aO rfl];have aG:t.drop 1<:+92::t:=(lK 1 t).trans j;have hl:(t.drop 1).length<(92::t).length:=by grind
   have i:ae (cA (a7 true n) none) (λ_=>(aY (.inl ()):ak (Unit⊕Unit))) (92::t) pd= .ok (.inl ()) (t.drop 1) pd:=by rfl
   rw[i];exact bM.inl hl (hk () _ pd _ aG (c.mono aG) hl ⟨tr,rfl⟩)
  simp only[B,bF,aU];by_cases C:b=96
  ·subst C;simp only[bz,aK];have i:cA (a7 true n) none (96::t) pd=jr gW [96] t pd:=by rfl
   have:=FD (f:=λ_ r pd=>match r with
    |[]=>b3 [] r pd
    |b::t=>if b=34 then .ok (.inr ()) t pd else(ae (cA (a7 true n) none) λ_=>aY (.inl ())) r pd) (part:=cA (a7 true n) none) (r:=96::t) (pd:=pd) (pr:=λst=>st) (cv:=λ_ _ _=>True) (k:=k) (by rw[i];exact SV (tr:=tr) c fT) (λa r' d g=>by
     rw[i] at g;unfold jr at g;cases K:gW t with
     |none=>grind
     |some q=>rw[K] at g;cases g;have:=(E9 _ _ _ (cX _) K).length_le;grind) G F
   rw[I,sI] at this;exact this
  simp only[C,bF,aU];by_cases D:b=36
  ·subst D;simp only[bz,aK];exact FD (part:=cA (a7 true n) none) (by rw[CU];exact hD.im e bc t pd tr c) (λa r' d g=>by rw[CU] at g;exact SW true n g) G F
  ·simp only[D,bF,aU];have i:ae (cA (a7 true n) none) (λ_=>(aY (.inl ()):ak (Unit⊕Unit))) (b::t) pd= .ok (.inl ()) t pd:=by unfold ae;rw[FE B C D (.inl rfl)];rfl
   rw[i];exact bM.inl (by simp) (hk () _ pd _ j (c.mono j) (by simp) ⟨tr,rfl⟩)
theorem ZI{t r0:aa}{pd:ao}{tr:Bool}(h:cD e (34::t) pd)(h0:34::t<:+r0)(j:r0<:+e.S):bM false e r0 (eF (a7 true n) t pd) (λst=>st) (λ_ _ _=>True) (Ey R (e.st (34::t) pd tr)):=by
 have k:=iP h.b0 h.sfx;have d:t<:+34::t:=ee 34 t;have g:=h.mono d;unfold Ey a8;have l:((e.st (34::t) pd tr).1,W ((e.st (34::t) pd tr).2.1+1),(e.st (34::t) pd tr).2.2.1,(e.st (34::t) pd tr).2.2.2.1,(e.st (34::t) pd tr).2.2.2.2.1,(e.st (34::t) pd tr).2.2.2.2.2.1,(e.st (34::t) pd tr).2.2.2.2.2.2.1,(e.st (34::t) pd tr).2.2.2.2.2.2.2.1,(e.st (34::t) pd tr).2.2.2.2.2.2.2.2)=e.st t pd tr:=by show(e.S,W (ax e.S (34::t)+1),e.ne,pd,(0:Int),(0:Int),([]:aa),([]:bl),tr)=_;rw[k];rfl
 rw[l];have m:=ZE (R:=R) (a:=[34]) (b:=[34]) bB (e.st t pd tr);refine bM.dW ?_ m;obtain⟨f,o,c⟩:=alX hD bc (tr:=tr) g;rw[o,aO rfl];unfold eF ak.named ak.aJ;have i:=aI.CD (n:=11) (aI.part (xh true n▸(tG true n).dl) (dq:=none) (λq h=>by cases h)) 34 t pd;cases hm:iX 34 (cA (a7 true n) none) t pd with
 |ok a r1 aD=>rw[hm] at c;obtain⟨p,a2,a3,_⟩:=c;refine⟨f,pN ?_,p.trans (d.trans h0),a2,a3,trivial⟩;obtain⟨v,rfl,_⟩:=a3;show(0:Int)≠1;decide
 |more op nd ds=>rw[hm] at c i;simp only[d_] at i;have aB:=g.jO;obtain⟨r,s,u⟩:=xo (nm:=[34]) (x:=[34]) (r0:=r0) (r1:=t) c.z (d.trans h0) j (.inr (by grind)) (by grind) h.b0 (by simp);exact⟨r,s,u.s⟩
 |bad q=>rw[hm] at c;exact⟨f,pN (by rw[c.1];decide),iQ.mono c (d.trans h0)⟩
 |deep q=>rw[hm] at c;exact⟨f,pN (by rw[c.1];decide),iQ.mono c (d.trans h0)⟩
theorem alY{r:aa}{pd:ao}{tr:Bool}(h:cD e r pd):bM false e r (iX 125 (cA (a7 true n) (some (eF (a7 true n)))) r pd) (λst=>st) (λ_ _ _=>True) (fixF (w7 R λst=>some st) bB (e.st r pd tr)):=by
 unfold iX;refine bM.rep (en:=λ_ r pd x=>∃tr,x=e.st r pd tr) (λk s r pd x d m N hk=>?_) bB () r pd _ (v7 h) h ⟨tr,rfl⟩;obtain⟨tr,rfl⟩:=m
 have K:∀x:ah,x.2.2.2.2.1≠0->k x=some x:=by intro x m;obtain⟨k',ad⟩:=N x;rw[ad];unfold w7;grind
 have o:∀x:ah,x.2.2.2.2.1≠0->∃b,k x=some b/\b=x:=λx m=>⟨x,K x m,rfl⟩
 have p:∀r' i u,r'<:+r->cD e r' i->r'.length<r.length->gg e r' i u->bM false e r (b7 (λ_ r pd=>match r with
  |[]=>b3 [] r pd
  |b::t=>if b=125 then .ok (.inr ()) t pd else(ae (cA (a7 true n) (some (eF (a7 true n)))) λ_=>aY (.inl ())) r pd) () r' i) (λst=>st) (λ_ _ _=>True) (k u):=λr' i u O a2 a3 P=>hk () r' i u O a2 a3 (by obtain⟨tr,ad,_⟩:=P;grind)
 unfold w7 a8 cf.st;dsimp only;simp only[bz,aK];rw[vZ,aO rfl];cases r with
 |nil=>
  simp only[bz,aK];obtain⟨v,Q,L⟩:=FA (tr:=tr) (x:=[]) d (by simp);have S:g5 (e.S,ax e.S [],e.ne,pd,0,0,[],[],tr) []=some v:=Q;rw[S,aO rfl];refine⟨v,?_,?_⟩
  ·exact K v (by rw[L.1];decide)
  ·exact L.s
 |cons b t=>
  have j:t<:+b::t:=ee b t;have w:=iP d.b0 d.sfx;simp only[reduceCtorEq,bF,aU];have T:∀y z A B C D E,ig (e.S,ax e.S (b::t),y,B,z,A,C,D,E)=some b:=λy z A B C D E=>v3 d.sfx y z A B C D E
  rw[T];simp only[n6,n1,mN,n0,qv,q1,Zz,w];by_cases M:b=125
  ·subst M;simp only[bz,aK,cH];exact⟨_,rfl,j,d.mono j,⟨tr,rfl,λU=>absurd U (d.yX (by decide))⟩,trivial⟩
  simp only[M,bF,aU,cr];by_cases F:b=92
  ·subst F;simp only[bz,aK];have aB:w1 (e.S,ax e.S (92::t),e.ne,pd,0,0,[],[],tr)=some (e.st (t.drop 1) pd tr):=SU d;rw[aB,aO rfl];have aG:t.drop 1<:+92::t:=(lK 1 t).trans j;have hl:(t.drop 1).length<(92::t).length:=by grind
   have g:ae (cA (a7 true n) (some (eF (a7 true n)))) (λ_=>(aY (.inl ()):ak (Unit⊕Unit))) (92::t) pd= .ok (.inl ()) (t.drop 1) pd:=by rfl
   rw[g];exact bM.inl hl (hk () _ pd _ aG (d.mono aG) hl ⟨tr,rfl⟩)
  simp only[F,bF,aU];by_cases G:b=39
  ·subst G;simp only[bz,aK];have g:cA (a7 true n) (some (eF (a7 true n))) (39::t) pd=jr gk [39] t pd:=by rfl
   have:=FD (f:=λ_ r pd=>match r with
    |[]=>b3 [] r pd
    |b::t=>if b=125 then .ok (.inr ()) t pd else(ae (cA (a7 true n) (some (eF (a7 true n)))) λ_=>aY (.inl ())) r pd) (part:=cA (a7 true n) (some (eF (a7 true n)))) (r:=39::t) (pd:=pd) (pr:=λst=>st) (cv:=λ_ _ _=>True) (k:=k) (by rw[g];exact ZH (tr:=tr) d fT) (λa r' i c=>by
     rw[g] at c;unfold jr at c;cases l:gk t with
     |none=>grind
     |some q=>rw[l] at c;cases c;have:=(Av _ _ l).length_le;grind) p o
   rw[w,sI] at this;exact this
  simp only[G,bF,aU];by_cases H:b=34
  ·subst H;simp only[bz,aK];have g:cA (a7 true n) (some (eF (a7 true n))) (34::t) pd=eF (a7 true n) t pd:=by rfl
   refine FD (part:=cA (a7 true n) (some (eF (a7 true n)))) (by rw[g];exact ZI hD bc d fT d.sfx) (λa r' i c=>?_) p o;rw[g] at c;have:=((aq.double (l_ true n)).sfx c).length_le;grind
  simp only[H,bF,aU];by_cases I:b=96
  ·subst I;simp only[bz,aK];have g:cA (a7 true n) (some (eF (a7 true n))) (96::t) pd=jr gW [96] t pd:=by rfl
   have:=FD (f:=λ_ r pd=>match r with
    |[]=>b3 [] r pd
    |b::t=>if b=125 then .ok (.inr ()) t pd else(ae (cA (a7 true n) (some (eF (a7 true n)))) λ_=>aY (.inl ())) r pd) (part:=cA (a7 true n) (some (eF (a7 true n)))) (r:=96::t) (pd:=pd) (pr:=λst=>st) (cv:=λ_ _ _=>True) (k:=k) (by rw[g];exact SV (tr:=tr) d fT) (λa r' i c=>by
     rw[g] at c;unfold jr at c;cases l:gW t with
     |none=>grind
     |some q=>rw[l] at c;cases c;have:=(E9 _ _ _ (cX _) l).length_le;grind) p o
   rw[w,sI] at this;exact this
  simp only[I,bF,aU];by_cases J:b=36
  ·subst J;simp only[bz,aK];exact FD (part:=cA (a7 true n) (some (eF (a7 true n)))) (by rw[CU];exact hD.im e bc t pd tr d) (λa r' i c=>by rw[CU] at c;exact SW true n c) p o
  ·simp only[J,bF,aU];have g:ae (cA (a7 true n) (some (eF (a7 true n)))) (λ_=>(aY (.inl ()):ak (Unit⊕Unit))) (b::t) pd= .ok (.inl ()) t pd:=by unfold ae;rw[FE F I J (.inr ⟨G,H⟩)];rfl
   rw[g];exact bM.inl (by simp) (hk () _ pd _ j (d.mono j) (by simp) ⟨tr,rfl⟩)
end
def jt:Ctx->aa
 | .text=>[]| .paren=>[41]| .item=>[59,59]|_=>[119]
def oW:Ctx->bl
 | .qh=>[[125]]| .rG=>[ih]| .qi=>[ij,h2,fa]| .kh=>[fa]| .pE=>[gO]| .done=>[iN]|_=>[]
def xp:Ctx->Bool->Bool
 | .text,_=>false
 | .paren,_=>true
 | .item,no=>no
 |_,no=> !no
structure ow(R:bg)(n:Nat):Prop where
 im:∀(e:cf)(c:Ctx)(no:Bool),xp c no=true->e.ne=30- (n:Int)->∀(r:aa)(pd:ao)(st:ah),cD e r pd->gg e r pd st->bM false e r ((aS true n).ls c no r pd) (λb=>b.2) (λa _ b=>b.1=(a:Int)) (R.nQ st (jt c) (oW c) (!no))
def cf.up(e:cf):cf:=⟨e.S,e.ne+1⟩
theorem n4.tJ{e:cf}{r:aa}{st:ah}(h:n4 e.up r st):n4 e r st:=⟨h.s,h.lo,h.bf,h.nd,h.op⟩
theorem cD.xq{e:cf}{r:aa}{pd:ao}(h:cD e r pd):cD e.up r pd:=⟨h.b0,h.nl,h.IV,h.sfx,h.jO⟩
theorem cD.tJ{e:cf}{r:aa}{pd:ao}(h:cD e.up r pd):cD e r pd:=⟨h.b0,h.nl,h.IV,h.sfx,h.jO⟩
theorem pQ{e:cf}{r r0:aa}{pd:ao}{tr:Bool}(p:Int)(h:cD e r pd)(h0:r<:+r0):∃st,hy (e.st r pd tr) p=some st/\iQ e r0 st:=by
 refine⟨_,rfl,rfl,rfl,?_,?_,?_,?_⟩
 ·show ax e.S r0<=ax e.S r;grind[ax]
 ·show ax e.S r<=_;have:= @oV r e.S;omega
 ·show([]:aa).length+ep pd<=_;have:=h.jO;grind
 ·show([]:bl).length<=_;simp
theorem alZ{j:aa->Option ah}{a:(Int×aa)->Option ah}(x:aa):EP j a (0,x)=j x:=rfl
theorem al0{j:aa->Option ah}{a:(Int×aa)->Option ah}(k:Nat)(x:aa)(c:x.length+k<=100000000):EP j a (((k+1:Nat):Int),x)=a ((k:Int),x++[41]):=by
 unfold EP;dsimp only;have h0:(0:Int)<((k+1:Nat):Int):=by omega
 have b:W (((k+1:Nat):Int)-1)=(k:Int):=by grind[dV]
 rw[decide_eq_true h0,aK,bZ (by grind),b]
theorem ZK{j:aa->Option ah}:∀(n k:Nat)(x:aa),k<n->x.length+k<=100000000->fixF (EP j) n ((k:Int),x)=j (x++List.replicate k 41):=by
 intro n;induction n with
 |zero=>omega
 |succ n a=>
  intro k x h b;rw[e4];cases k with
  |zero=>simp[alZ,trans,List.replicate_zero,List.append_nil]
  |succ k=>grind[al0,List.length_append,List.length_singleton,List.append_assoc]
def yY(st:ah):ah:=(st.1,W (st.2.1+1),W (st.2.2.1-1),st.2.2.2.1,st.2.2.2.2.1,st.2.2.2.2.2.1,st.2.2.2.2.2.2.1,st.2.2.2.2.2.2.2.1,st.2.2.2.2.2.2.2.2)
def sJ(st:ah):ah:=(st.1,st.2.1,W (st.2.2.1-1),st.2.2.2.1,st.2.2.2.2.1,st.2.2.2.2.2.1,st.2.2.2.2.2.2.1,st.2.2.2.2.2.2.2.1,st.2.2.2.2.2.2.2.2)
theorem n4.yY{e:cf}{r1 r0:aa}{st:ah}(h:n4 e r1 st)(ad:r1<:+r0)(h0:r0<:+e.S)(hl:r1.length<r0.length)(f:e.S.length<=1000000):n4 e r0 (yY st):=by
 have a:=h.lo;have b:=h.bf;have g:=eL h0;have i:0<=ax e.S r1:=by grind[ax]
 have c:ax e.S r0<=ax e.S r1:=by grind[ax]
 have d:W (st.2.1+1)=st.2.1+1:=dV (by omega) (by omega);refine⟨h.s,?_,?_,h.nd,?_⟩
 ·show _<=W (st.2.1+1);omega
 ·show W (st.2.1+1)<=_;omega
 ·have:=h.op;show st.2.2.2.2.2.2.2.1.length<=_;omega
theorem al3{e:cf}{r1:aa}{st:ah}(h:n4 e r1 st)(a:r1<:+e.S)(d:e.S.length<=1000000)(hl:(e.S.length:Int)<=st.2.1):(e.S.length:Int)<=(yY st).2.1:=by have b:=h.bf;have f:=eL a;have c:W (st.2.1+1)=st.2.1+1:=dV (by omega) (by omega);show _<=W (st.2.1+1);omega
theorem n4.sJ{e:cf}{r0:aa}{st:ah}(h:n4 e r0 st):n4 e r0 (sJ st):=⟨h.s,h.lo,h.bf,h.nd,h.op⟩
theorem SX{α:Type}{m:ak α}{x n r:aa}{pd:ao}{a:α}{r1:aa}{aD:ao}(h:m r pd= .ok a r1 aD):((m.aJ x).named n) r pd= .ok a r1 aD:=by grind[ak.named,ak.aJ]
theorem SY{α:Type}{m:ak α}{x n r:aa}{pd:ao}{op:bl}{nd:aa}{ds:ao}(h:m r pd= .more op nd ds):((m.aJ x).named n) r pd= .more (n::op) (cQ nd ds x).1 (cQ nd ds x).2:=by grind[ak.named,ak.aJ]
theorem ZM{α:Type}{m:ak α}{x n r q:aa}{pd:ao}(h:m r pd= .bad q):((m.aJ x).named n) r pd= .bad q:=by grind[ak.named,ak.aJ]
theorem ZN{α:Type}{m:ak α}{x n r q:aa}{pd:ao}(h:m r pd= .deep q):((m.aJ x).named n) r pd= .deep q:=by grind[ak.named,ak.aJ]
theorem jR{α β:Type}{m:ak α}{k:α->ak β}{r q:aa}{pd:ao}(h:m r pd= .deep q):ae m k r pd= .deep q:=by grind[ae]
section
variable{R:bg}{n:Nat}(gJ:∀m,n=m+1->kv R m/\ow R m)(aw:n<=30){e:cf}(bc:e.ne=30- (n:Int))
include gJ aw bc
theorem al4{t:aa}{pd:ao}{tr:Bool}(h:cD e (36::t) pd):bM false e (36::t) (a7 true n (36::t) pd) (λst=>st) (λ_ _ _=>True) (H_ R (e.st (36::t) pd tr)):=by
 have C:t<:+36::t:=ee 36 t;have bT:=iP h.b0 h.sfx;have tA:=h.yX (by decide);have MB:tj (e.st (36::t) pd tr) 1=some (t.headD 0):=SQ h 1 (by decide);have H:tj (e.st (36::t) pd tr) 2=some ((t.drop 1).headD 0):=SQ h 2 (by decide);unfold H_;rw[MB];simp only[n6,CG,CH];rw[H,gf];cases t with
 |nil=>grind
 |cons c u=>
  simp only[zk,Gg,xI];have MF:c::u<:+e.S:=dZ h.sfx;have z:u<:+36::c::u:=(ee c u).trans C;by_cases aF:c=40
  ·subst aF;simp only[bz,cH,aK];have k5:u≠[]:=(h.mono C).yX (by decide);cases u with
   |nil=>grind
   |cons d v=>
    simp only[zk];by_cases aG:d=40
    ·
     subst aG;simp only[bz,aK];have mz:W (ax e.S (36::40::40::v)+3)=ax e.S v:=ku (w:=[36,40,40]) h.b0 h.sfx;have l:v<:+36::40::40::v:=gP [36,40,40] v;have aB:a7 true n (36::40::40::v) pd=nB v pd:=by rw[Fv];rfl
     rw[aB];have ad:(e.st (36::40::40::v) pd tr).1=e.S:=rfl;have af:(e.st (36::40::40::v) pd tr).2.1=ax e.S (36::40::40::v):=rfl;rw[ad,af,mz,alD h.b0 (l.trans h.sfx),aO rfl];unfold nB a8;cases ag:h1 0 v with
     |bad q=>simp only[qw,show(decide ((-2:Int)= -2))=true from rfl,aK];obtain⟨st,g,f⟩:=pQ (tr:=tr) (ax e.S q) h fT;rw[g,aO rfl];exact⟨_,rfl,f.1,f.2.s,f.2.lo,f.2.bf,by have:=f.2.nd;have i:=h.jO;cases g;omega,by cases g;exact f.2.op⟩
     |ok q=>
      have D:=At 0 v q ag;have hl:=eL (D.trans (l.trans h.sfx));have h0:¬ax e.S q= -2:=by grind[ax]
      simp only[qw,h0,bF,aU];have i_:(0:Int)=((0:Nat):Int):=rfl;rw[i_,ZK bB 0 [] (by simp[gm]) (by simp)]
      have:=SL (q:=false) (tr:=tr) (o:=some q) (nm:=[36,40,40]) (x:=[]) h fT (λI E=>by grind) (by simp) (by simp) (by simp) (λI E lI=>by
       cases E;exfalso;have dA:=(h.nl.ia h.sfx).ia l
       have:∃x,v=x++41::q:=by
        have:∀(r:aa)(d:Nat)(q:aa),h1 d r= .ok q->∃x,r=x++41::q:=by
         intro r;induction r with
         |nil=>simp[h1]
         |cons b t a1=>
          intro d q i;unfold h1 at i;split at i
          ·cases i
          ·split at i
           ·grind
           ·split at i
            ·split at i
             ·grind
             ·split at i
              ·cases i
              ·split at i
               ·rename_i asl _ J;cases i;subst J;exact⟨[b],rfl⟩
               grind
            grind
        grind
       grind[SS])
      simp only[kX] at this;obtain⟨st,g,f⟩:=this;simp only[List.replicate_zero,rS];rw[g,aO rfl];exact⟨st,rfl,f⟩
     |more k=>have hk:=aI.SC v 0 k ag;have hl:=eL (l.trans h.sfx);have hb:=h.b0;simp only[qw,show(decide ((-1:Int)= -2))=false from rfl,aU];rw[ZK bB k [] (by grind[gm]) (by grind)];have:=SL (q:=false) (tr:=tr) (o:=none) (nm:=[36,40,40]) (x:=List.replicate k 41) h List.suffix_rfl (λI E=>by grind) (by simp) (by grind) (by simp) (λI E=>by grind);simp only[kX] at this;obtain⟨st,g,f⟩:=this;simp only[sV];rw[g,aO rfl];exact⟨st,rfl,f⟩
    ·
     simp only[aG,bF,aU];unfold a8 yy;have F:¬([36,40,40]:aa).isPrefixOf (36::40::d::v)=true:=by grind
     cases n with
     |zero=>
      have p:decide (30<=(e.st (36::40::d::v) pd tr).2.2.1)=true:=by show decide (30<=e.ne)=true;grind
      rw[p];have aB:a7 true 0 (36::40::d::v) pd= .deep (36::40::d::v):=by rw[Fv];unfold dw;rw[aP F,bh (by simp)];rfl
      rw[aB];obtain⟨st,g,f⟩:=pQ (tr:=tr) ((e.st (36::40::d::v) pd tr).2.1) h fT;simp only[aK,sI];rw[g,aO rfl,aO rfl];exact⟨_,rfl,by cases g;exact f⟩
     |succ m=>
      obtain⟨MG,tE⟩:=gJ m rfl;have p:decide (30<=(e.st (36::40::d::v) pd tr).2.2.1)=false:=by show decide (30<=e.ne)=false;grind
      rw[p];simp only[aU,n6,aK];have K:e.ne=(e.st (36::40::d::v) pd tr).2.2.1:=rfl;rw[<-K];have L:W (e.ne+1)=e.ne+1:=dV (by omega) (by omega);have M:W ((e.st (36::40::d::v) pd tr).2.1+2)=ax e.S (d::v):=ku (w:=[36,40]) h.b0 h.sfx;rw[L,M];have l:d::v<:+36::40::d::v:=z;have A:=(h.mono l).xq;have N:d::v≠[]:=by simp
      have hl:=tE.im e.up .paren true rfl (by show e.ne+1=_;omega) (d::v) pd (e.up.st (d::v) pd tr) A ⟨tr,rfl,λi=>absurd i N⟩;have aB:a7 true (m+1) (36::40::d::v) pd=sv (aS true m) (d::v) pd:=by rw[Fv];unfold dw js;rw[aP F,bh (by simp)];rfl
      rw[aB];have O:((e.st (36::40::d::v) pd tr).1,ax e.S (d::v),e.ne+1,(e.st (36::40::d::v) pd tr).2.2.2.1,(e.st (36::40::d::v) pd tr).2.2.2.2.1,(e.st (36::40::d::v) pd tr).2.2.2.2.2.1,(e.st (36::40::d::v) pd tr).2.2.2.2.2.2.1,(e.st (36::40::d::v) pd tr).2.2.2.2.2.2.2.1,(e.st (36::40::d::v) pd tr).2.2.2.2.2.2.2.2)=e.up.st (d::v) pd tr:=rfl;rw[O];obtain⟨b,g,f⟩:=hl;have v_:R.nQ (e.up.st (d::v) pd tr) [41] [] false=some b:=g;rw[v_,aO rfl];unfold sv;have B:=(tG true m).ls .paren true (d::v) pd;have j5:(d::v).length<(40::d::v).length:=by simp
      have hC:(40::d::v).length<(36::40::d::v).length:=by simp
      cases hk:(aS true m).ls .paren true (d::v) pd with
      |ok a r1 aD=>
       rw[hk] at f;obtain⟨P,a2,⟨s,a3,bO⟩,e3⟩:=f;dsimp only at a3;rw[aM (SX hk)];obtain⟨cV,e6⟩:=AF true m;rw[e6] at hk;obtain⟨hT,mB⟩:=yQ (by simp) hk;have gB:ar r1= .op [41]:=by grind[dE]
       rw[Fl hT gB];obtain⟨q,rfl⟩:=(iq gB).2.1;rw[o5];have j:gA b.2 [36,40] [41]=some b.2:=pN (by rw[a3];show(0:Int)≠1;decide);rw[j,aO rfl,a3];have D:q<:+[41]++q:=gP [41] q;have kH:W (ax e.S ([41]++q)+1)=ax e.S q:=ku (w:=[41]) h.b0 a2.sfx;have lI:q≠[]:=a2.yX (by decide);have qF:=(a2.tJ.mono D);refine⟨e.st q aD s,?_,D.trans (P.trans l),qF,⟨s,rfl,λi=>absurd i lI⟩,trivial⟩;show some (e.S,W (ax e.S ([41]++q)+1),W (e.ne+1-1),aD,(0:Int),(0:Int),([]:aa),([]:bl),s)=_;rw[kH,dV (by omega) (by omega)];have:e.ne+1-1=e.ne:=by omega
       rw[this];rfl
      |more op nd ds=>rw[hk] at f B;simp only[d_] at B;have Q:=A.jO;have S:e.up.S=e.S:=rfl;rw[S] at Q;obtain⟨T,U,V,X,Y⟩:=f.z;obtain⟨Z,al,bd⟩:=xo (e:=e) (nm:=[36,40]) (x:=[41]) (r1:=d::v) (r0:=40::d::v) (nd:=nd) (ds:=ds) ⟨T,U,V,X.tJ,Y⟩ (ee _ _) MF (.inr j5) (by grind) h.b0 (by simp);rw[al,aO rfl,db (SY hk)];obtain⟨q6,fZ,cU,G,lR⟩:=bd;exact⟨yY Z,rfl,.inl ⟨q6,fZ,cU,G.yY (ee _ _) h.sfx hC h.b0,al3 G MF h.b0 lR⟩⟩
      |bad q=>rw[hk] at f;have j:gA b.2 [36,40] [41]=some b.2:=pN (by rw[f.1];decide);rw[j,aO rfl,gZ (ZM hk)];exact⟨yY b.2,rfl,f.1,f.2.tJ.yY l h.sfx (by simp) h.b0⟩
      |deep q=>rw[hk] at f;have j:gA b.2 [36,40] [41]=some b.2:=pN (by rw[f.1];decide);rw[j,aO rfl,jR (ZN hk)];exact⟨yY b.2,rfl,f.1,f.2.tJ.yY l h.sfx (by simp) h.b0⟩
  ·simp only[aF,bF,aU,eB,cr];by_cases x1:c=123
   ·
    subst x1;simp only[bz,aK];unfold a8 yy;have F:¬([36,40,40]:aa).isPrefixOf (36::123::u)=true:=by simp
    have al8:¬([36,40]:aa).isPrefixOf (36::123::u)=true:=by simp
    cases n with
    |zero=>
     have p:decide (30<=(e.st (36::123::u) pd tr).2.2.1)=true:=by show decide (30<=e.ne)=true;grind
     rw[p];have aB:a7 true 0 (36::123::u) pd= .deep (36::123::u):=by rfl
     rw[aB];obtain⟨st,g,f⟩:=pQ (tr:=tr) ((e.st (36::123::u) pd tr).2.1) h fT;simp only[aK,sI];rw[g,aO rfl,aO rfl];exact⟨_,rfl,by cases g;exact f⟩
    |succ m=>
     obtain⟨MG,tE⟩:=gJ m rfl;have p:decide (30<=(e.st (36::123::u) pd tr).2.2.1)=false:=by show decide (30<=e.ne)=false;grind
     rw[p];simp only[aU,n6,aK];have K:e.ne=(e.st (36::123::u) pd tr).2.2.1:=rfl;rw[<-K];have L:W (e.ne+1)=e.ne+1:=dV (by omega) (by omega);rw[L];have O:((e.st (36::123::u) pd tr).1,(e.st (36::123::u) pd tr).2.1,e.ne+1,(e.st (36::123::u) pd tr).2.2.2.1,(e.st (36::123::u) pd tr).2.2.2.2.1,(e.st (36::123::u) pd tr).2.2.2.2.2.1,(e.st (36::123::u) pd tr).2.2.2.2.2.2.1,(e.st (36::123::u) pd tr).2.2.2.2.2.2.2.1,(e.st (36::123::u) pd tr).2.2.2.2.2.2.2.2)=e.up.st (36::123::u) pd tr:=rfl;rw[O];have aB:a7 true (m+1) (36::123::u) pd=((qV (a7 true m)).named [36,123]) u pd:=by rw[Fv];unfold dw js;rw[aP F,aP al8,bh (by simp)];show((aS true m).pm.named [36,123]) u pd=_;rw[Yw]
     rw[aB];unfold LF a8;have M:W ((e.up.st (36::123::u) pd tr).2.1+2)=ax e.S u:=ku (w:=[36,123]) h.b0 h.sfx;have IK:((e.up.st (36::123::u) pd tr).1,W ((e.up.st (36::123::u) pd tr).2.1+2),(e.up.st (36::123::u) pd tr).2.2.1,(e.up.st (36::123::u) pd tr).2.2.2.1,(e.up.st (36::123::u) pd tr).2.2.2.2.1,(e.up.st (36::123::u) pd tr).2.2.2.2.2.1,(e.up.st (36::123::u) pd tr).2.2.2.2.2.2.1,(e.up.st (36::123::u) pd tr).2.2.2.2.2.2.2.1,(e.up.st (36::123::u) pd tr).2.2.2.2.2.2.2.2)=e.up.st u pd tr:=by rw[M];rfl
     rw[IK];have ME:=ZF (R:=R) (a:=[36,123]) (b:=[125]) bB (e.up.st u pd tr);have A:=(h.mono z).xq;obtain⟨b,g,f⟩:=alY MG (e:=e.up) (by show e.ne+1=_;omega) (tr:=tr) A;rw[g,aO rfl] at ME;refine bM.dW ?_ (ma (λy=>au y _) ME);unfold qV;have B:=aI.CD (n:=11) (aI.yM (xh true m▸(tG true m).dl)) 125 u pd;have j5:u.length<(123::u).length:=by simp
     have hC:(123::u).length<(36::123::u).length:=by simp
     cases hk:iX 125 (cA (a7 true m) (some (eF (a7 true m)))) u pd with
     |ok a r1 aD=>
      rw[hk] at f;obtain⟨P,a2,⟨s,a3,bO⟩,e3⟩:=f;dsimp only at a3;rw[SX hk];have j:gA b [36,123] [125]=some b:=pN (by rw[a3];show(0:Int)≠1;decide);rw[j,aO rfl,a3];refine⟨e.st r1 aD s,?_,P.trans z,a2.tJ,⟨s,rfl,bO⟩,trivial⟩;show some (e.S,ax e.S r1,W (e.ne+1-1),aD,(0:Int),(0:Int),([]:aa),([]:bl),s)=_;rw[dV (by omega) (by omega)];have:e.ne+1-1=e.ne:=by omega
      rw[this];rfl
     |more op nd ds=>rw[hk] at f B;simp only[d_] at B;have Q:=A.jO;have S:e.up.S=e.S:=rfl;rw[S] at Q;obtain⟨T,U,V,X,Y⟩:=f.z;obtain⟨Z,al,bd⟩:=xo (e:=e) (nm:=[36,123]) (x:=[125]) (r1:=u) (r0:=36::123::u) (nd:=nd) (ds:=ds) ⟨T,U,V,X.tJ,Y⟩ z h.sfx (.inr (by omega)) (by grind) h.b0 (by simp);rw[al,aO rfl,SY hk];obtain⟨q6,fZ,cU,G,lR⟩:=bd;exact⟨sJ Z,rfl,.inl ⟨q6,fZ,cU,G.sJ,lR⟩⟩
     |bad q=>rw[hk] at f;have j:gA b [36,123] [125]=some b:=pN (by rw[f.1];decide);rw[j,aO rfl,ZM hk];exact⟨sJ b,rfl,f.1,(f.2.tJ.mono z).sJ⟩
     |deep q=>rw[hk] at f;have j:gA b [36,123] [125]=some b:=pN (by rw[f.1];decide);rw[j,aO rfl,ZN hk];exact⟨sJ b,rfl,f.1,(f.2.tJ.mono z).sJ⟩
   ·
    simp only[x1,bF,aU];have aQ:fQ (36::c::u)=false:=by grind[sD]
    rw[I0 true n aQ];refine⟨e.st (c::u) pd tr,?_,C,h.mono C,⟨tr,rfl,λi=>absurd i (by simp)⟩,trivial⟩;show some (e.S,W (ax e.S (36::c::u)+1),e.ne,pd,(0:Int),(0:Int),([]:aa),([]:bl),tr)=_;rw[bT];rfl
end
structure tK(r0:aa)(f:Bool)(r1:aa):Prop where
 sfx:r1<:+r0
 t:f=true->(c5 r0).2=(c5 r1).2/\((c5 r1).2=true->(c5 r0).1=r0.take (r0.length-r1.length)++(c5 r1).1)
 f:f=false->(c5 r0).2=false
theorem tK.start(r:aa):tK r true r:=⟨fT,λ_=>⟨rfl,λ_=>by simp⟩,λh=>by cases h⟩
theorem SZ{b:UInt8}{t:aa}(a:cW (b::t)=false)(h:b=92\/b=39\/b=34\/b=96\/fQ (b::t)=true):c5 (b::t)=([],false):=by simp_all[c5]
theorem al9{b:UInt8}{t:aa}(a:cW (b::t)=false)(h:¬(b=92\/b=39\/b=34\/b=96\/fQ (b::t)=true)):(c5 (b::t)).2=(c5 t).2/\((c5 t).2=true->(c5 (b::t)).1=b::(c5 t).1):=by
 have h0:c5 (b::t)=(match c5 t with|(w,true)=>(b::w,true)|(_,false)=>([],false)):=by rw[c5,a,aP (by simp),aP h];grind
 grind
theorem tK.al_{r0:aa}{f:Bool}{b:UInt8}{t r':aa}(bf:tK r0 f (b::t))(a:cW (b::t)=false)(h:b=92\/b=39\/b=34\/b=96\/fQ (b::t)=true)(c:r'<:+r0):tK r0 false r':=by
 refine⟨c,(λd=>by cases d),λ_=>?_⟩;cases f with
 |true=>rw[(bf.t rfl).1,SZ a h]
 |false=>exact bf.f rfl
theorem tK.byte{r0:aa}{f:Bool}{b:UInt8}{t:aa}(bf:tK r0 f (b::t))(c:cW (b::t)=false)(h:¬(b=92\/b=39\/b=34\/b=96\/fQ (b::t)=true)):tK r0 f t:=by
 have a:=bf.sfx;refine⟨(ee b t).trans a,λhf=>?_,bf.f⟩;obtain⟨ad,d⟩:=bf.t hf;obtain⟨g,e⟩:=al9 c h;refine⟨by grind,λaB=>?_⟩;rw[d (by grind),e aB];obtain⟨u,rfl⟩:=a;have i:(u++b::t).length- (b::t).length=u.length:=by simp
 have j:(u++b::t).length-t.length=(u++[b]).length:=by grind
 grind
theorem ZO{α β b:Type}{g:Prop}[Decidable g]{m:Option α}{d:α}{k:α->Option β}{G:β->Option b}:au (cY g m d k) G=cY g m d (λa=>au (k a) G):=by grind[cY,sI]
theorem ZP{R:bg}{j:Bool×ah->Option (aa×Bool×ah)}:∀(n:Nat)(x:Bool×ah),fixF (w3 R j) n x=au (fixF (w3 R λx=>some ([],x.1,x.2)) n x) λy=>j (y.2.1,y.2.2)
 |0,x=>rfl
 |n+1,x=>by
  rw[e4,e4];have a:=ZP (R:=R) (j:=j) n;generalize fixF (w3 R j) n=cm at a;generalize fixF (w3 R λx=>some ([],x.1,x.2)) n=c at a;obtain⟨f,d,e,g,i,b,k,l,m,o⟩:=x;unfold w3 a8;dsimp only;by_cases h:b=0
  ·subst h;simp only[bz,aK,sI,SR,ZO,a,n6]
  simp_all[n6]
theorem S0{R:bg}{e:cf}{r0:aa}{pd:ao}{tr:Bool}{b:aa×Bool×ah}(h:cD e r0 pd)(j:b.2.2.1=e.S)(d:qe R (e.st r0 pd tr)=some b):b.1.length<=e.S.length/\((e.S.length:Int)<=b.2.2.2.1->b.1=r0):=by
 unfold qe a8 at d;dsimp only at d;rw[ZP] at d;cases l:fixF (w3 R λx=>some ([],x.1,x.2)) bB (true,(e.st r0 pd tr).1,(e.st r0 pd tr).2.1,(e.st r0 pd tr).2.2.1,(e.st r0 pd tr).2.2.2.1,(e.st r0 pd tr).2.2.2.2.1,(e.st r0 pd tr).2.2.2.2.2.1,(e.st r0 pd tr).2.2.2.2.2.2.1,(e.st r0 pd tr).2.2.2.2.2.2.2.1,(e.st r0 pd tr).2.2.2.2.2.2.2.2) with
 |none=>rw[l] at d;cases d
 |some y=>
  rw[l,aO rfl] at d;obtain⟨v,f,g,k,m,n,o,p,q,r,s⟩:=y;dsimp only at d
  have t:∀(i:Int),a4 (0<=(e.st r0 pd tr).2.1/\(e.st r0 pd tr).2.1<=i/\i<=(g.length:Int)) (some (ch g (e.st r0 pd tr).2.1 i,f,(g,k,m,n,o,p,q,r,s)))=some b->b=(ch g (ax e.S r0) i,f,(g,k,m,n,o,p,q,r,s)):=by
   intro i bs;unfold a4 at bs;split at bs
   ·cases bs;rfl
   grind
  have u:∀(a c:Int),(ch g a c).length<=g.length:=by intro a c;unfold ch;grind
  by_cases aF:(g.length:Int)<k
  ·simp only[aF,bz,aK] at d;have:=t _ d;subst this;dsimp only at j⊢;subst j;exact⟨u _ _,λ_=>L8 h.sfx⟩
  ·simp only[aF,bF,aU] at d;have:=t _ d;subst this;dsimp only at j⊢;subst j;refine⟨u _ _,λhle=>?_⟩;have:k=(e.S.length:Int):=by omega
   rw[this];exact L8 h.sfx
section
variable{R:bg}{n:Nat}(hD:kv R n){e:cf}(bc:e.ne=30- (n:Int))
include hD bc
theorem FH{r0:aa}{pd0:ao}{tr0:Bool}(h:cD e r0 pd0):bM false e r0 (cI (a7 true n) r0 pd0) (λb=>b.2.2) (λ_ r' b=>b.1=r0.take (r0.length-r'.length)/\b.2.1=(c5 r0).2/\(b.2.1=true->b.1=(c5 r0).1)) (qe R (e.st r0 pd0 tr0)):=by
 unfold qe a8 cI;have ama:=eL h.sfx;have mx:=h.b0;have ZL:0<=ax e.S r0:=by grind[ax]
 refine bM.rep (en:=λ_ r pd (x:Bool×ah)=>∃tr,x.2=e.st r pd tr/\tK r0 x.1 r) (λk s r pd x c D mP hk=>?_) bB () r0 pd0 _ (v7 h) h ⟨tr0,rfl,tK.start r0⟩;obtain⟨f,x⟩:=x;obtain⟨tr,D,bf⟩:=D;dsimp only at D bf;subst D;have Z:=bf.sfx;have M:ax e.S r0<=ax e.S r:=by grind[ax]
 have j4:∀(g:Bool)(st:ah),st.1=e.S->ax e.S r0<=st.2.1->∃w,(bif decide ((st.1.length:Int)<st.2.1) then a4 (0<=ax e.S r0/\ax e.S r0<=(st.1.length:Int)/\(st.1.length:Int)<=(st.1.length:Int)) (some (ch st.1 (ax e.S r0) (st.1.length:Int),g,st))
   else a4 (0<=ax e.S r0/\ax e.S r0<=st.2.1/\st.2.1<=(st.1.length:Int)) (some (ch st.1 (ax e.S r0) st.2.1,g,st)))=some (w,g,st):=by
  intro g st ad F;by_cases aF:(st.1.length:Int)<st.2.1
  ·simp_all[bZ,oV]
  ·simp only[aF,bF,aU];simp_all[bZ]
 have fF:∀(x:Bool×ah),x.2.2.2.2.2.1≠0->x.2.1=e.S->ax e.S r0<=x.2.2.1->∃w,k x=some (w,x.1,x.2):=by intro x D ad F;obtain⟨k',jl⟩:=mP x;rw[jl];unfold w3;dsimp only;simp only[D,bF,aU];exact j4 x.1 x.2 ad F
 unfold w3 a8 cf.st;dsimp only;simp only[bz,aK];rw[vZ,aO rfl];cases r with
 |nil=>simp only[bz,aK];obtain⟨E,aZ,N⟩:=FA (tr:=tr) (x:=[]) c (by simp);have tI:g5 (e.S,ax e.S [],e.ne,pd,0,0,[],[],tr) []=some E:=aZ;rw[tI,aO rfl];obtain⟨w,l⟩:=j4 f E N.2.2.2.1.s (by have:=N.2.2.2.1.lo;omega);exact⟨_,l,N.s⟩
 |cons b t=>
  have m:t<:+b::t:=ee b t;have bT:=iP c.b0 c.sfx;simp only[reduceCtorEq,bF,aU];have nM:∀o p u v z A B,ig (e.S,ax e.S (b::t),o,v,p,u,z,A,B)=some b:=λo p u v z A B=>v3 c.sfx o p u v z A B
  have O:∀o p u v z A B,hH (e.S,ax e.S (b::t),o,v,p,u,z,A,B)=some (bt (b::t)):=λo p u v z A B=>IW c.b0 c.sfx o p u v z A B
  rw[nM];simp only[n6,SH,pK];rw[O,gf];have oo:(bif(bif gb b then true else decide (b=10)) then true else(!decide ((if(bif gb b then true else decide (b=10))=false then bt (b::t) else [])=[])))=cW (b::t):=by show _=(gb b||(b==10)||(bt (b::t)!=[]));grind
  rw[oo];by_cases l:cW (b::t)=true
  ·rw[bh l,l];simp only[aK];have P:¬(e.S.length:Int)<ax e.S (b::t):=by simp[oV]
   simp only[P,bF,aU];rw[bZ ⟨ZL,M,oV⟩];have g3:=ID h.sfx Z;refine⟨_,rfl,fT,c,⟨tr,rfl,λhh=>by cases hh⟩,g3,?_,?_⟩
   ·cases f with
    |true=>rw[(bf.t rfl).1];unfold c5;grind
    |false=>exact(bf.f rfl).symm
   ·intro hf;have GD:f=true:=hf;have:=(bf.t GD).2 (by unfold c5;grind);rw[this];show ch e.S (ax e.S r0) (ax e.S (b::t))=_;rw[g3];have aB:(c5 (b::t)).1=[]:=by unfold c5;grind
    grind
  have J:cW (b::t)=false:=by grind
  rw[aP l,J];simp only[aU,n1,mN,n0,qv,q1];have ub:∀(g:Bool),(∀r',r'<:+t->tK r0 g r')->∀r' d E,r'<:+t->cD e r' d->gg e r' d E->bM false e (b::t) (b7 (λ_ r pd=>match r with
    |[]=>b3 [] r pd
    |_::_=>if cW r then .ok (.inr ()) r pd else(ae (cA (a7 true n) (some (eF (a7 true n)))) λ_=>aY (.inl ())) r pd) () r' d) (λb=>b.2.2) (λ_ r' b=>b.1=r0.take (r0.length-r'.length)/\b.2.1=(c5 r0).2/\(b.2.1=true->b.1=(c5 r0).1)) (k (g,E)):=by
   intro g bs r' d E Q a2 a3;obtain⟨v5,rfl,_⟩:=a3;exact hk () r' d (g,e.st r' d v5) (Q.trans m) a2 (by grind) ⟨v5,rfl,bs r' Q⟩
  have L:∀(g:Bool)(y:Option ah)(K:ah->Option (aa×Bool×ah)),(∀r',r'<:+t->tK r0 g r')->bM false e (b::t) (cA (a7 true n) (some (eF (a7 true n))) (b::t) pd) (λst=>st) (λ_ _ _=>True) y->(∀a r' d,cA (a7 true n) (some (eF (a7 true n))) (b::t) pd= .ok a r' d->r'<:+t)->(∀st,K st=k (g,st))->
    bM false e (b::t) (cP (λ_ r pd=>match r with|[]=>b3 [] r pd|_::_=>if cW r then .ok (.inr ()) r pd else(ae (cA (a7 true n) (some (eF (a7 true n)))) λ_=>aY (.inl ())) r pd) (b::t) (ae (cA (a7 true n) (some (eF (a7 true n)))) (λ_=>aY (.inl ())) (b::t) pd)) (λb=>b.2.2) (λ_ r' b=>b.1=r0.take (r0.length-r'.length)/\b.2.1=(c5 r0).2/\(b.2.1=true->b.1=(c5 r0).1)) (au y K):=by
   intro g y K bs S g6 mc
   have ZV:∀st:ah,st.2.2.2.2.1≠0->n4 e (b::t) st->∃w,K st=some (w,g,st):=by intro st ad F;rw[mc];exact fF (g,st) ad F.s (by have:=F.lo;grind)
   refine bM.iC c3.k S (λa r1 aD C i s1 v1 gF _=>?_) (λop nd ds C _ gj=>?_) (λC dy=>?_)
   ·have G:=g6 a r1 aD i;rw[mc];exact bM.inl (by grind) (ub g bs r1 aD C G v1 gF)
   ·obtain⟨w,l⟩:=ZV C (by rw[gj.z.1];decide) gj.z.2.2.2.1;grind
   ·obtain⟨w,l⟩:=ZV C (by rw[dy.1];decide) dy.2;grind
  have H:(b=92\/b=39\/b=34\/b=96\/fQ (b::t)=true)->∀r',r'<:+t->tK r0 false r':=λG r' xj=>bf.al_ J G (xj.trans (m.trans Z))
  by_cases T:b=92
  ·subst T;simp only[bz,aK];have aB:w1 (e.S,ax e.S (92::t),e.ne,pd,0,0,[],[],tr)=some (e.st (t.drop 1) pd tr):=SU c;rw[aB,aO rfl];have aG:t.drop 1<:+t:=lK 1 t;have hl:(t.drop 1).length<(92::t).length:=by grind
   have j:ae (cA (a7 true n) (some (eF (a7 true n)))) (λ_=>(aY (.inl ()):ak (Unit⊕Unit))) (92::t) pd= .ok (.inl ()) (t.drop 1) pd:=by rfl
   rw[j];exact bM.inl hl (hk () _ pd (false,e.st (t.drop 1) pd tr) (aG.trans m) (c.mono (aG.trans m)) hl ⟨tr,rfl,H (.inl rfl) _ aG⟩)
  simp only[T,bF,aU];by_cases U:b=39
  ·subst U;simp only[bz,aK];have j:cA (a7 true n) (some (eF (a7 true n))) (39::t) pd=jr gk [39] t pd:=by rfl
   have:=L false _ (λst=>k (false,st)) (H (.inr (.inl rfl))) (by rw[j];exact ZH (tr:=tr) c fT) (λa r' d i=>by grind[jr,Av]) (λ_=>rfl)
   rw[sI] at this;exact this
  simp only[U,bF,aU];by_cases V:b=34
  ·subst V;simp only[bz,aK];have j:cA (a7 true n) (some (eF (a7 true n))) (34::t) pd=eF (a7 true n) t pd:=by rfl
   exact L false _ (λst=>k (false,st)) (H (.inr (.inr (.inl rfl)))) (by rw[j];exact ZI hD bc (tr:=tr) c fT c.sfx) (λa r' d i=>by rw[j] at i;exact(aq.double (l_ true n)).sfx i) (λ_=>rfl)
  simp only[V,bF,aU];by_cases W:b=96
  ·subst W;simp only[bz,aK];have j:cA (a7 true n) (some (eF (a7 true n))) (96::t) pd=jr gW [96] t pd:=by rfl
   have:=L false _ (λst=>k (false,st)) (H (.inr (.inr (.inr (.inl rfl))))) (by rw[j];exact SV (tr:=tr) c fT) (λa r' d i=>by
    rw[j] at i;unfold jr at i;cases aE:gW t with
    |none=>grind
    |some q=>rw[aE] at i;cases i;exact E9 _ _ _ (cX _) aE) (λ_=>rfl)
   rw[sI] at this;exact this
  simp only[W,bF,aU];by_cases X:b=36
  ·subst X;simp only[bz,aK];have MB:tj (e.S,ax e.S (36::t),e.ne,pd,0,0,[],[],tr) 1=some (t.headD 0):=SQ c 1 (by decide);rw[MB];simp only[n6,gf,CG,CH];have aQ:fQ (36::t)=(decide (t.headD 0=40)||decide (t.headD 0=123)):=by grind[sD]
   have Im:∀a r' d,cA (a7 true n) (some (eF (a7 true n))) (36::t) pd= .ok a r' d->r'<:+t:=by
    intro a r' d i;rw[CU] at i;have G:=((l_ true n).ex.sfx i);have hl:=SW true n i;rcases List.suffix_cons_iff.1 G with ad|ad
    ·grind
    omega
   have mn:=λg bs=>L g (R.vo (e.S,ax e.S (36::t),e.ne,pd,0,0,[],[],tr)) (λst=>k (g,st)) bs (by rw[CU];exact hD.im e bc t pd tr c) Im (λ_=>rfl);cases I:fQ (36::t) with
   |true=>
    rw[I] at aQ;have aF:(bif decide (t.headD 0=40) then true else decide ((if decide (t.headD 0=40)=false then t.headD 0 else 0)=123))=true:=by grind
    rw[aF];exact mn false (H (.inr (.inr (.inr (.inr I)))))
   |false=>
    rw[I] at aQ;have fp:decide (t.headD 0=40)=false/\decide (t.headD 0=123)=false:=by grind
    have aF:(bif decide (t.headD 0=40) then true else decide ((if decide (t.headD 0=40)=false then t.headD 0 else 0)=123))=false:=by grind
    rw[aF];simp only[aU];have Y:¬((36:UInt8)=92\/(36:UInt8)=39\/(36:UInt8)=34\/(36:UInt8)=96\/fQ (36::t)=true):=by grind
    have jF:=bf.byte J Y;have S:=hD.im e bc t pd tr c;obtain⟨C,bD,aW⟩:=S;have v_:R.vo (e.S,ax e.S (36::t),e.ne,pd,0,0,[],[],tr)=some C:=bD;rw[v_,aO rfl];rw[I0 true n I] at aW;obtain⟨Q,a2,⟨ov,rfl,bO⟩,_⟩:=aW;have j:ae (cA (a7 true n) (some (eF (a7 true n)))) (λ_=>(aY (.inl ()):ak (Unit⊕Unit))) (36::t) pd= .ok (.inl ()) t pd:=by unfold ae;rw[CU,I0 true n I];rfl
    rw[j];exact bM.inl (by simp) (hk () _ pd (f,e.st t pd ov) m a2 (by simp) ⟨ov,rfl,jF⟩)
  ·simp only[X,bF,aU,bT];have j:ae (cA (a7 true n) (some (eF (a7 true n)))) (λ_=>(aY (.inl ()):ak (Unit⊕Unit))) (b::t) pd= .ok (.inl ()) t pd:=by unfold ae;rw[FE T W X (.inr ⟨U,V⟩)];rfl
   have fD:fQ (b::t)=false:=by grind[sD]
   rw[j];exact bM.inl (by simp) (hk () _ pd (f,e.st t pd tr) m (c.mono m) (by simp) ⟨tr,rfl,bf.byte J (by grind)⟩)
end
theorem amf{t:aa}(h:gk t=none):dl (t++[39]) 39=some t:=by
 have:=IJ (t++[39]);have c:gk (t++[39])=some []:=by
  induction t with
  |nil=>decide
  |cons b t e=>
   unfold gk at h;by_cases a:b=39
   ·grind
   ·rw[aP a] at h;show(if b=39 then some (t++[39]) else gk (t++[39]))=some [];rw[aP a];grind[IJ]
 rw[c] at this;obtain⟨d,ad,f,g⟩:=this;have i:d=t:=by grind
 grind[Fm]
theorem amg:∀(n:Nat)(t:aa),t.length<=n->c_ t->t≠[]->eG t= .part->∃x c y,t=x++c::y/\(c=36\/c=96)/\(∀v,dl (x++c::v) 34=none)/\
  ∀(D:ak Unit),h3 D->∀pd a q g,iX 34 (cA D none) t pd= .ok a q g->q<:+y:=by
 intro n;induction n with
 |zero=>simp
 |succ n w=>
  intro t aw k bc f;cases t with
  |nil=>grind
  |cons b t=>
   have A:t.length<=n:=by grind
   by_cases h:b=34
   ·grind[Mj]
   by_cases aB:b=36\/b=96
   ·refine⟨[],b,t,rfl,aB,λv=>Mi 34 (.inr rfl) b aB v,λD hD pd a q g e=>?_⟩;unfold iX at e;rw[cq] at e;simp only[aP h] at e;have l:aq (iX 34 (cA D none)):=aq.xb 34 (aq.part hD (by simp)) (mK.part hD (by simp));cases hm:cA D none (b::t) pd with
    |ok G r1 aD=>
     have hl:=(mK.part hD (dq:=none) (by simp)) (by simp) hm;have B:=(aq.part hD (dq:=none) (by simp)).sfx hm;have C:r1<:+t:=by
      rcases List.suffix_cons_iff.1 B with ad|ad
      ·grind
      omega
     rw[aM hm] at e;unfold aY cP at e;simp only at e;rw[bh hl] at e;exact(l.sfx e).trans C
    |more op nd ds=>rw[db hm] at e;cases e
    |bad _=>rw[gZ hm] at e;cases e
    |deep _=>rw[jR hm] at e;cases e
   have i:b≠36/\b≠96:=by grind
   by_cases j:b=92
   ·subst j;have H:t≠[]:=by
     rintro rfl;rcases k with ad|⟨s,ad⟩
     ·cases ad
     ·have:=ma List.getLast? ad;grind
    cases t with
    |nil=>grind
    |cons c u=>
     rw[Mk] at f;have m:eG u= .part:=by cases hu:eG u<;>rw[hu] at f<;>simp[jh.add] at f⊢
     have o:u≠[]:=by rintro rfl;grind[eG]
     obtain⟨x,d,y,ad,p,z,E⟩:=w u (by grind) k.tail.tail o m;refine⟨92::c::x,d,y,by grind,p,λv=>?_,λD hD pd a q g e=>?_⟩
     ·grind[dl,Sa]
     ·have r:cA D none (92::c::u) pd= .ok () u pd:=by rfl
      rw[L4 (by decide) r (by grind)] at e;grind
   ·rw[Ml b h aB j] at f;have m:eG t= .part:=by cases hu:eG t<;>rw[hu] at f<;>simp[jh.add] at f⊢
    have o:t≠[]:=by rintro rfl;grind[eG]
    obtain⟨x,d,y,ad,p,z,E⟩:=w t A k.tail o m;refine⟨b::x,d,y,by grind,p,λv=>?_,λD hD pd a q g e=>?_⟩
    ·show dl (b::(x++d::v)) 34=none;rw[II 34 (.inr rfl) b j i.1 i.2 h (λF=>absurd F (by decide)),z];rfl
    ·have r:cA D none (b::t) pd= .ok () t pd:=FE j i.2 i.1 (.inl rfl);rw[L4 h r (by simp)] at e;grind
theorem amh{D:ak Unit}(hD:h3 D):∀(n:Nat)(t:aa)(pd:ao),t.length<=n->match eG t with
  | .closed _ r=>iX 34 (cA D none) t pd= .ok () r pd
  | .open_ _=>iX 34 (cA D none) t pd= .more [] [] pd
  | .part=>True:=by
 intro n;induction n with
 |zero=>intro t pd h;have:t=[]:=n7.1 (by omega);subst this;show iX 34 (cA D none) [] pd= .more [] [] pd;unfold iX;rw[cq];rfl
 |succ n f=>
  intro t pd aw;cases t with
  |nil=>simp_all
  |cons b t=>
   have i:t.length<=n:=by grind
   by_cases a:b=34
   ·subst a;simp[Mj,iX,cA,cq,cP]
   by_cases aB:b=36\/b=96
   ·grind[Sb]
   have g:b≠36/\b≠96:=by grind
   by_cases d:b=92
   ·subst d;cases t with
    |nil=>simp[Sc]
    |cons c u=>
     rw[Mk];have e:cA D none (92::c::u) pd= .ok () u pd:=by rfl
     have j:=L4 (c:=34) (b:=92) (by decide) e (by grind);have:=f u pd (by grind);grind[eG,jh.add,part]
   ·rw[Ml b a aB d];have e:cA D none (b::t) pd= .ok () t pd:=FE d g.2 g.1 (.inl rfl);have j:=L4 (c:=34) a e (by simp);have:=f t pd i;grind[eG,jh.add,part]
def MI(m:Option aa):Prop:=m=none\/∃d,m=some d/\d.contains 10=true
theorem MI.map{m:Option aa}(h:MI m)(x:aa):MI (m.map (x++·)):=by
 rcases h with rfl|⟨d,rfl,h⟩
 ·exact .inl rfl
 ·refine .inr ⟨x++d,rfl,?_⟩;grind
def AJ(r:aa)(pd:ao):dD Unit->Prop
 | .ok _ q a=>∃w,r=w++q/\((du r=none/\dl w 0=none)\/∃d,dl w 0=some d/\du r=some (d,q,[])/\a=pd)
 | .more _ nd ds=>(du r=none/\MI (dl (r++nd) 0))\/∃d,du r=some (d,[],nd)/\dl (r++nd) 0=some d/\ds=pd
 | .bad _=>du r=none
 | .deep _=>du r=none
theorem AJ.step{r u p x:aa}{pd:ao}{m:dD Unit}(h:AJ u pd m)(e:r=p++u)(ad:du r=(du u).map λq=>(x++q.1,q.2))(f:∀v,dl (p++v) 0=(dl v 0).map (x++·)):AJ r pd m:=by
 cases m with
 |ok a q g=>obtain⟨w,i,j⟩:=h;refine⟨p++w,by grind,?_⟩;grind
 |more op nd ds=>
  have c:dl (r++nd) 0=(dl (u++nd) 0).map (x++·):=by grind
  rcases h with⟨b,a2⟩|⟨d,b,a2,a3⟩
  ·left;rw[ad,b,c];exact⟨rfl,a2.map x⟩
  ·right;grind
 |bad q=>show du r=none;rw[ad,show du u=none from h];rfl
 |deep q=>show du r=none;rw[ad,show du u=none from h];rfl
theorem AJ.no{r:aa}{pd:ao}{m:dD Unit}(ad:du r=none)(c:∀a q b,m= .ok a q b->∃w,r=w++q/\dl w 0=none)(d:∀v,dl (r++v) 0=none):AJ r pd m:=by
 cases m with
 |ok a q b=>obtain⟨w,e,a2⟩:=c a q b rfl;exact⟨w,e,.inl ⟨ad,a2⟩⟩
 |more op nd ds=>exact .inl ⟨ad,.inl (d nd)⟩
 |bad q=>exact ad
 |deep q=>exact ad
theorem ami{D:ak Unit}(hD:h3 D):∀(n:Nat)(r:aa)(pd:ao),r.length<=n->c_ r->AJ r pd (cI D r pd):=by
 intro n;induction n with
 |zero=>
  intro r pd h _;have:r=[]:=n7.1 (by omega);subst this;have:cI D [] pd= .more [] [] pd:=by unfold cI;rw[cq];rfl
  rw[this];exact .inr ⟨[],by rw[du],by simp[Fm],rfl⟩
 |succ n m=>
  intro r pd aw f;cases r with
  |nil=>grind
  |cons b t=>
   have N:t.length<=n:=by grind
   by_cases V:cW (b::t)=true
   ·have O:cI D (b::t) pd= .ok () (b::t) pd:=by unfold cI;grind[cq,cP]
    have g:du (b::t)=some ([],b::t,[]):=by simp_all[du.eq_def,bh]
    rw[O];exact⟨[],rfl,.inr ⟨[],Fm,g,rfl⟩⟩
   have i:cW (b::t)=false:=by grind
   have E:∀a q l,cI D (b::t) pd= .ok a q l->∃w,b::t=b::w++q:=by
    intro a q l d;have e:=(aq.word hD).sfx d;have hl:=vP hD (by simp) i d;rcases List.suffix_cons_iff.1 e with ad|⟨w,ad⟩
    ·grind
    grind
   by_cases F:b=92
   ·subst F;have G:t≠[]:=by
     rintro rfl;rcases f with ad|⟨s,ad⟩
     ·cases ad
     ·have:=ma List.getLast? ad;grind
    cases t with
    |nil=>grind
    |cons c u=>
     have j:cA D (some (eF D)) (92::c::u) pd= .ok () u pd:=by rfl
     rw[CB i j (by grind)];refine(m u pd (by grind) f.tail.tail).step (p:=[92,c]) (x:=if c=10 then [] else [c]) rfl (by rw[du.eq_def];grind) λv=>?_;show dl (92::c::v) 0=_;rw[R9 0 (.inl rfl)];by_cases aF:c=10
     ·simp[aF]
     grind
   by_cases H:b=39
   ·subst H;have j:cA D (some (eF D)) (39::t) pd=jr gk [39] t pd:=by rfl
    cases e:gk t with
    |none=>
     have hm:cI D (39::t) pd= .more [[39]] [39] pd:=by
      unfold cI;rw[cq];simp only[i,eB,cr];have:cA D (some (eF D)) (39::t) pd= .more [[39]] [39] pd:=by grind[jr]
      rw[db this];rfl
     rw[hm];have g:du (39::t)=none:=by rw[du.eq_def];grind
     refine .inl ⟨g,.inr ⟨t,?_,?_⟩⟩
     ·grind[dl,R_,amf]
     ·have G:t≠[]:=by
       rintro rfl;rcases f with ad|⟨s,ad⟩
       ·cases ad
       ·have:=ma List.getLast? ad;grind
      rcases f.tail with ad|⟨s,ad⟩
      ·grind
      grind
    |some k=>
     have K:=IJ t;rw[e] at K;obtain⟨A,L,M,P⟩:=K;have Q:=yI t k e;have xl:cA D (some (eF D)) (39::t) pd= .ok () k pd:=by grind[jr]
     rw[CB i xl (by grind)];refine(m k pd (by omega) (f.tail.ia (Av _ _ e))).step (p:=39::A++[39]) (x:=A) (by grind) ?_ λv=>?_
     ·rw[du.eq_def];grind
     grind[R_]
   by_cases aB:b=36\/b=96
   ·have g:du (b::t)=none:=by simp_all[du.eq_def,aP,bh]
    refine AJ.no g (λa q l d=>?_) λv=>Mi 0 (.inl rfl) b aB _;obtain⟨w,ad⟩:=E a q l d;exact⟨b::w,ad,Mi 0 (.inl rfl) b aB w⟩
   have B:b≠36/\b≠96:=by grind
   by_cases I:b=34
   ·subst I;have j:cA D (some (eF D)) (34::t) pd=eF D t pd:=by rfl
    have C:=amh hD t.length t pd (cX _);have J:=YF _ t (cX _);have G:t≠[]:=by
     rintro rfl;rcases f with ad|⟨s,ad⟩
     ·cases ad
     ·have:=ma List.getLast? ad;grind
    cases e:eG t with
    |closed o k=>
     rw[e] at C J;obtain⟨A,L,M⟩:=J;have xl:cA D (some (eF D)) (34::t) pd= .ok () k pd:=by rw[j];exact SX C
     have Q:=EX t o k e;rw[CB i xl (by grind)];refine(m k pd (by omega) (f.tail.ia (Rq _ _ _ _ (Nat.le_refl _) e))).step (p:=34::A) (x:=o) (by grind) ?_ λv=>?_
     ·rw[du.eq_def];grind
     grind[dl,CL]
    |open_ o=>
     rw[e] at C J;have xl:cA D (some (eF D)) (34::t) pd= .more [[34]] [34] pd:=by rw[j];exact SY C
     have hm:cI D (34::t) pd= .more [[34]] [34] pd:=by unfold cI;rw[cq];simp only[i,eB,cr];rw[db xl];rfl
     rw[hm];have g:du (34::t)=some (o,[],[34]):=by rw[du.eq_def];grind
     refine .inr ⟨o,g,?_,rfl⟩;grind[dl,CL]
    |part=>
     have g:du (34::t)=none:=by rw[du.eq_def];grind
     obtain⟨x,c,y,L,M,P,R⟩:=amg _ t (cX _) f.tail G e;refine AJ.no g (λa q l d=>?_) λv=>?_
     ·
      have S:q<:+y:=by
       unfold cI at d;rw[cq] at d;simp only[i,eB,cr] at d;cases hm:cA D (some (eF D)) (34::t) pd with
       |ok T r1 aD=>
        rw[aM hm] at d;rw[j] at hm;have U:=hJ.1 (Cu.1 hm);have ad:=R D hD pd T r1 aD U;unfold aY cP at d;simp only at d;split at d
        ·exact((aq.word hD).sfx d).trans ad
        grind
       |more op nd ds=>rw[db hm] at d;cases d
       |bad _=>rw[gZ hm] at d;cases d
       |deep _=>rw[jR hm] at d;cases d
      obtain⟨z,rfl⟩:=S;grind[CL]
     grind[dl,CL,List.append_assoc]
   ·have j:cA D (some (eF D)) (b::t) pd= .ok () t pd:=FE F B.2 B.1 (.inr ⟨H,I⟩);rw[CB i j (by simp)];refine(m t pd N f.tail).step (p:=[b]) (x:=[b]) rfl (by rw[du.eq_def];grind) λv=>?_;show dl (b::v) 0=_;rw[II 0 (.inl rfl) b F B.1 B.2 I (λ_=>H)];rfl
theorem amk{e:cf}{x0:ah}{j:Int->Option ah}(o:x0.1=e.S)(di:e.S.length<=1000000):∀(n:Nat)(r:aa),r.length<n->r<:+e.S->fixF (HY x0 j) n (ax e.S r)=j (ax e.S (r.dropWhile ca)):=by
 intro n;induction n with
 |zero=>omega
 |succ n p=>
  intro r aw l;rw[e4];generalize fixF (HY x0 j) n=k at p;unfold HY;rw[o];cases r with
  |nil=>
   have m:∀a c d f g h i,ig (e.S,ax e.S [],a,f,c,d,g,h,i)=some 0:=λa c d f g h i=>v3 l a c d f g h i
   rw[m];rfl
  |cons b t=>
   have m:∀a c d f g h i,ig (e.S,ax e.S (b::t),a,f,c,d,g,h,i)=some b:=λa c d f g h i=>v3 l a c d f g h i
   rw[m];simp only[n6,gf,Sq,Sr];have aF:(bif decide (48<=b) then decide ((if decide (48<=b)=true then b else 0)<=57) else false)=ca b:=by grind[ca]
   rw[aF,iP di l];grind[List.dropWhile_cons_of_pos,dZ,List.dropWhile_cons_of_neg]
theorem MK{e:cf}{r:aa}{pd:ao}{tr:Bool}(h:cD e r pd)(d:r≠[]):vM (e.st r pd tr)=some (match ar r with| .word _ _=>false|_=>true):=by
 unfold vM;have a:ig (e.st r pd tr)=some (r.headD 0):=v3 h.sfx _ _ _ _ _ _ _;have c:hH (e.st r pd tr)=some (bt r):=IW h.b0 h.sfx _ _ _ _ _ _ _;rw[a];simp only[n6,pK];rw[c,gf];cases r with
 |nil=>grind
 |cons b t=>grind[CT]
theorem ZW(pd:ao):cQ [] pd [120]=([120],pd):=SK [120] [] pd (by decide)
theorem ZX{e:cf}{r q:aa}{pd:ao}{tr:Bool}(h:cD e q pd)(a:q<:+r):n4 e r (e.st q pd tr):=by
 refine⟨rfl,?_,?_,?_,?_⟩
 ·show ax e.S r<=ax e.S q;grind[ax]
 ·show ax e.S q<=_;have:= @oV q e.S;omega
 ·show([]:aa).length+ep pd<=_;have:=h.jO;grind
 ·show([]:bl).length<=_;simp
end Go.Eng
