/- Part 5 of what FnMore needs. No condition. -/
import Derived.Test.YthnjiffnjaaejaaGreatDoorFnMoreD
set_option linter.all false
namespace Go.Eng
open Go Go.Proofs
variable{D cX:ab Unit}{F ds:ag}{I an r r' r0 t u:H}{R:bl}{al no:Bool}{c:Ctx}{α σ:Type}{d m n:Nat}{e:cn}{f:σ->ab (σ⊕α)}
noncomputable def r7:aa->Option aa:=λx=>
 (ay (g_ x ([102,40,41]:H) ([])) λ(a:aa)=>some (tn a))
theorem apZ{q:H}{nd:H}{y:aa}(hm:oU e.up q nd ds y)(i:q<:+r)(aw:q.length<r.length)(Z:r<:+e.S)(j:e.S.length<=1000000)(k:nd.length+eA ds<=100*e.S.length+1000):∃b,r7 y=some b/\jh true e r nd ds b:=by
 obtain⟨M,U,f,a,c⟩:=hm;have d:=Z.length_le;have l:=a.op;have hu:e.up.S=e.S:=rfl;have g:ax e.up.S q=ax e.S q:=rfl;unfold r7;rw[acm (st:=y) M (by simp) (by omega) (by grind),aS rfl];have m:ax e.S r<=ax e.S q:=by grind[ax]
 have kB:=a.lo;have h:=a.bh;rw[hu] at h c;refine⟨_,rfl,.inl ⟨M,U,f,⟨a.s,?_,?_,a.nd,?_⟩,c⟩⟩
 ·show ax e.S r<=y.2.1;omega
 ·show y.2.1<=_;omega
 ·show([[102,40,41]]++y.2.2.2.2.2.2.2.1).length<=_;grind
theorem acr{q:H}{y:aa}(hm:js e.up q y)(b:q<:+r):∃a,r7 y=some a/\js e r a:=by unfold r7;rw[sG hm,aS rfl];exact⟨_,rfl,(js.mono (e:=e) ⟨hm.1,hm.2.uB.tn⟩ b)⟩
theorem ap0{q:H}(bj:e.ne=30- (n:Int))(af:n<=30):tn (e.up.st q F al)=e.st q F al:=by
 show(e.S,ax e.S q,W (e.ne+1-1),F,(0:Int),(0:Int),([]:H),([]:bs),al)=_;have M:e.ne+1-1=e.ne:=by omega
 rw[M,dO (by omega) (by omega)];rfl
theorem acs{q:H}(bj:e.ne=30- (n:Int))(af:n<=30):r7 (e.up.st q F al)=some (e.st q F al):=by unfold r7;rw[qx (by show(0:Int)≠1;decide),aS rfl,ap0 bj af]
theorem ap1(bj:e.ne=30- (n:Int))(af:n<=30):r7 (e.up.tt F)=some (e.tt F):=by grind[x7,acs]
noncomputable def Vp(R:bl):aa->Option aa:=λa=>
 (ay (g9 a) λ(d:Bool)=>(bif d then(ay (h2 a ([123,32,120,10,125]:H)) λ(e:aa)=>r7 e) else(ay (iz a) λ(c:H)=>(c1 ((decide (c=([40]:H)))=false) (mA a) [] λ(f:H)=>(c1 ((decide (c=([40]:H)))=false) (AX f) false λ(g:Bool)=>(bif(bif(decide (c=([40]:H))) then true else g) then(ay (A6 R a) λ(h:aa)=>r7 h) else(ay (ih a a.2.1) λ(b:aa)=>r7 (b.1,b.2.1,b.2.2.1,a.2.2.2.1,b.2.2.2.2.1,b.2.2.2.2.2.1,b.2.2.2.2.2.2.1,a.2.2.2.2.2.2.2.1,b.2.2.2.2.2.2.2.2))))))))
noncomputable def Vq(R:bl):aa->Option aa:=λx=>
 (ay (g9 x) λ(c:Bool)=>(bif c then(ay (h2 x ([41,32,123,32,120,10,125]:H)) λ(d:aa)=>r7 d) else(ay (iz x) λ(e:H)=>(bif(!(decide (e=([41]:H)))) then(ay (ih x x.2.1) λ(a:aa)=>r7 (a.1,a.2.1,a.2.2.1,x.2.2.2.1,a.2.2.2.2.1,a.2.2.2.2.2.1,a.2.2.2.2.2.2.1,x.2.2.2.2.2.2.2.1,a.2.2.2.2.2.2.2.2)) else(ay (pJ (setAt x (W (x.2.1+1)))) λ(b:aa)=>(bif(!(decide (b.2.2.2.2.1=0))) then(ay (g_ b ([]) ([123,32,120,10,125]:H)) λ(f:aa)=>r7 f) else Vp R b))))))
theorem ap2(R:bl)(I:aa):I5 R I=(bif(decide (28<I.2.2.1)) then
 (ay (ih I I.2.1) λ(a:aa)=>
 some (a.1,a.2.1,a.2.2.1,I.2.2.2.1,a.2.2.2.2.1,a.2.2.2.2.2.1,a.2.2.2.2.2.2.1,I.2.2.2.2.2.2.2.1,a.2.2.2.2.2.2.2.2))
 else
 (ay (h1 (I.1,(W (I.2.1+1)),(W (I.2.2.1+1)),I.2.2.2.1,I.2.2.2.2.1,I.2.2.2.2.2.1,I.2.2.2.2.2.2.1,I.2.2.2.2.2.2.2.1,I.2.2.2.2.2.2.2.2)) λ(b:aa)=>
 Vq R (b.1,b.2.1,b.2.2.1,I.2.2.2.1,b.2.2.2.2.1,b.2.2.2.2.2.1,b.2.2.2.2.2.2.1,I.2.2.2.2.2.2.2.1,b.2.2.2.2.2.2.2.2))):=rfl
noncomputable def GO(R:bl):aa->Option aa:=λa=>
 (ay (g9 a) λ(d:Bool)=>(bif d then h2 a ([123,32,120,10,125]:H) else(ay (iz a) λ(c:H)=>(c1 ((decide (c=([40]:H)))=false) (mA a) [] λ(e:H)=>(c1 ((decide (c=([40]:H)))=false) (AX e) false λ(f:Bool)=>(bif(bif(decide (c=([40]:H))) then true else f) then A6 R a else(ay (ih a a.2.1) λ(b:aa)=>some (b.1,b.2.1,b.2.2.1,a.2.2.2.1,b.2.2.2.2.1,b.2.2.2.2.2.1,b.2.2.2.2.2.2.1,a.2.2.2.2.2.2.2.1,b.2.2.2.2.2.2.2.2))))))))
noncomputable def OD(R:bl):aa->Option aa:=λx=>
 (ay (g9 x) λ(c:Bool)=>(bif c then h2 x ([41,32,123,32,120,10,125]:H) else(ay (iz x) λ(d:H)=>(bif(!(decide (d=([41]:H)))) then(ay (ih x x.2.1) λ(a:aa)=>some (a.1,a.2.1,a.2.2.1,x.2.2.2.1,a.2.2.2.2.1,a.2.2.2.2.2.1,a.2.2.2.2.2.2.1,x.2.2.2.2.2.2.2.1,a.2.2.2.2.2.2.2.2)) else(ay (pJ (setAt x (W (x.2.1+1)))) λ(b:aa)=>(bif(!(decide (b.2.2.2.2.1=0))) then g_ b ([]) ([123,32,120,10,125]:H) else GO R b))))))
theorem acu{β:Type}(c:Bool)(a b:Option α)(k:α->Option β):ay (bif c then a else b) k=bif c then ay a k else ay b k:=by grind
theorem ap3(R:bl)(x:aa):Vp R x=ay (GO R x) r7:=by unfold Vp GO;simp[tm,acu,abM,oV]
theorem ap4(R:bl)(x:aa):Vq R x=ay (OD R x) r7:=by unfold Vq OD;simp[tm,acu,oV,ap3]
theorem ap5{q:Bool}{X:dn Unit}{y:Option aa}(bj:e.ne=30- (n:Int))(af:n<=30)(h:bR q e.up an X (λst=>st) (λ_ _ _=>True) y)(M:an<:+r)(aw:an.length<r.length)(Z:r<:+e.S)(f:e.S.length<=1000000):bR true e r X (λst=>st) (λ_ _ _=>True) (ay y r7):=by
 obtain⟨b,rfl,h⟩:=h;rw[aS rfl];cases X with
 |ok a r' j=>obtain⟨g,av,⟨al,a3,i⟩,_⟩:=h;dsimp only at a3;subst a3;rw[acs bj af];exact⟨_,rfl,g.trans M,av.uB,⟨al,rfl,i⟩,trivial⟩
 |more op nd ds=>
  rcases h with h|⟨_,U,d⟩
  ·have c:oU e.up an nd ds b:=h;exact apZ c M aw Z f (by have:=c.2.2.2.1.nd;rw[c.2.1,c.2.2.1] at this;exact this)
  ·dsimp only at d;subst U d;rw[ap1 bj af];exact⟨_,rfl,.inr ⟨rfl,rfl,rfl⟩⟩
 |bad u=>exact acr h M
 |deep u=>exact acr h M
theorem bR.named{q:Bool}{α β:Type}{e:cn}{r0 r:H}{F:ag}{m:ab α}{x:H}{pr:β->aa}{cv:α->H->β->Prop}{y:Option β}(h:bR q e r0 (m r F) pr cv y):bR q e r0 (m.named x r F) pr cv y:=by unfold ab.named;cases hm:m r F<;>rw[hm] at h<;>exact h
def GP:H:=[41,32,123,32,120,10,125]
def zZ:H:=[123,32,120,10,125]
def Vr(l:dD):ab Unit:=N (bN zZ) λt=>if t= .eof then b5 zZ else if fJ t then N (l.cp t) λ_=>l.rd else b6
def Vs(l:dD):ab Unit:=N (bN GP) λt=>if t= .eof then b5 GP else if t= .op [41] then N (bV 1) λ_=>N (cQ.aG zZ) λ_=>Vr l else b6
section
variable(hp:∀m,n=m+1->ll R m/\ph R m)(hD:ll R n)(af:n<=30)(bj:e.ne=30- (n:Int))
include hp hD af bj
theorem ap6{st:aa}(h:cJ e r F)(d:gJ e r F st)(Y:bg r=some r):bR true e r (Vr (aW true n) r F) (λst=>st) (λ_ _ _=>True) (GO R st):=by
 unfold Vr;rw[aJ (bL Y)];have i:= @acp R n hp hD af e bj r F st h d Y;obtain⟨al,rfl,o⟩:=d;unfold GO;rw[rk,aS rfl];by_cases Z:r=[]
 ·subst Z;simp only[bz,aO];obtain⟨f,a,b⟩:=vH (al:=al) (x:=zZ) h (by decide);rw[show([123,32,120,10,125]:H)=zZ from rfl,a];exact⟨f,rfl,b.s⟩
 ·simp only[Z,bG,aY];have j:ar r≠ .eof:=λk=>Z (jd.1 k);rw[aM j,sF h,aS rfl,wW h];have l:=h.nl.iT h.sfx;have p:=abB l;by_cases g:bt r=[40]
  ·simp only[g,bz,c1,uR,cZ,aO];have aq:fJ (ar r)=true:=by grind
   rw[ba aq];have m:(aW true n).rd=gH (a9 true n):=by cases n<;>rfl
   grind
  ·simp only[g,bG];rw[gI,abr,gI];simp only[c9,aY];have c:oJ (jG r)=fJ (ar r):=by grind
   rw[c];by_cases aq:fJ (ar r)=true
   ·rw[aq,ba rfl];have m:(aW true n).rd=gH (a9 true n):=by cases n<;>rfl
    grind
   ·rw[aM aq,Hi.2 aq];simp only[aY];obtain⟨f,a,b⟩:=qz (al:=al) (e.st r F al).2.1 h gr;rw[a,aS rfl];exact⟨_,rfl,by cases a;exact b⟩
theorem ap8{x:aa}(h:cJ e u F)(y:DN e u F x):bR true e u (Vs (aW true n) u F) (λst=>st) (λ_ _ _=>True) (OD R x):=by
 unfold Vs OD;rcases y with⟨r,al,p,rfl,L,i,s,M⟩|⟨p,rfl⟩
 ·rw[aJ (bL p),rk,aS rfl];by_cases Z:r=[]
  ·subst Z;simp only[bz,aO];obtain⟨d,f,g⟩:=vH (al:=al) (x:=GP) i (by decide);rw[show([41,32,123,32,120,10,125]:H)=GP from rfl,f];exact⟨d,rfl,(g.mono s).s⟩
  ·simp only[Z,bG,aY];have z:ar r≠ .eof:=λj=>Z (jd.1 j);rw[aM z,sF i,aS rfl];by_cases l:bt r=[41]
   ·have m:ar r= .op [41]:=(mQ (by simp)).2 l;simp only[l,bz,hU,aY];rw[ba m];obtain⟨v,rfl⟩:=(ib m).2.1;have t:v<:+[41]++v:=gq [41] v;have A:=i.uD (by simp) (by decide);have B:setAt (e.st ([41]++v) F al) (W ((e.st ([41]++v) F al).2.1+1))=e.st v F al:=ts i 1 rfl;rw[B,aJ (show bV 1 ([41]++v) F= .ok () v F from rfl)];have o:=i.mono t;obtain⟨N,C,b⟩:=Gu o (st:=e.st v F al) ⟨al,rfl,λj=>absurd j A⟩;rw[C,aS rfl];have D:=aK.low (aK.lines (c:=0)) o;have k:v<:+u:=t.trans s;cases hm:cQ v F with
    |ok a an O=>rw[hm] at b;obtain⟨E,av,a3,G,P⟩:=b;rw[aJ (qA hm),a3.eta.2.2.2.2.1];simp only[bz,hU,aY];exact(ap6 hp hD af bj av a3 G).mono (E.trans k)
    |more op nd ds=>
     rw[hm] at b;rw[dx (tr hm)];have Q:=D _ _ _ hm;rcases b with b|⟨_,rfl,rfl⟩
     ·rw[b.1];simp only[show¬((1:Int)=0) by decide,bG,fp,aO];obtain⟨d,I,J⟩:=GK (q:=true) (x:=zZ) o (.inl b) k (by omega) (by decide);rw[show([123,32,120,10,125]:H)=zZ from rfl,I];exact⟨d,rfl,J⟩
     ·have K:(e.tt ds).2.2.2.2.1=0:=rfl;rw[K];simp only[bz,hU,aY];unfold GO;rw[pS,aS rfl];simp only[aO];obtain⟨d,f,g⟩:=GN (F:=ds) (x:=zZ) o (by omega) (by decide);rw[show([123,32,120,10,125]:H)=zZ from rfl,f];exact⟨d,rfl,(g.mono k).s⟩
    |bad w=>rw[hm] at b;rw[hS (vI hm),b.1];simp only[show¬((2:Int)=0) by decide,bG,fp,aO];rw[sG b];exact⟨_,rfl,b.mono k⟩
    |deep w=>rw[hm] at b;rw[km (vJ hm),b.1];simp only[show¬((2:Int)=0) by decide,bG,fp,aO];rw[sG b];exact⟨_,rfl,b.mono k⟩
   ·have m:ar r≠ .op [41]:=λj=>l ((mQ (by simp)).1 j);simp only[l,bG,fp,aO];rw[aM m];obtain⟨d,f,g⟩:=qz (al:=al) (e.st r F al).2.1 i s;rw[f,aS rfl];exact⟨_,rfl,by cases f;exact g⟩
 ·rw[dx (op:=[]) (by rw[jC p];rfl),pS,aS rfl];simp only[aO];obtain⟨d,f,g⟩:=DK (x:=GP) h.Bz (by decide);rw[show([41,32,123,32,120,10,125]:H)=GP from rfl,f];exact⟨d,rfl,(g.mono pt).s⟩
omit hp hD in
theorem ap9(a:n<2)(r:H)(F:ag):kU true (j0 true n) r F= .deep r:=by
 match n,a with
 |0,_=>rfl
 |1,_=>rfl
end
section
variable(hp:∀k m,n=m+1+k->ll R m/\ph R m)(af:n<=30)(bj:e.ne=30- (n:Int))
include hp af bj
theorem ap_(h:cJ e (40::u) F):bR true e (40::u) (kU true (j0 true n) (40::u) F) (λst=>st) (λ_ _ _=>True) (I5 R (e.st (40::u) F al)):=by
 rw[ap2];by_cases i:n<2
 ·have b:decide (28<(e.st (40::u) F al).2.2.1)=true:=by show decide (28<e.ne)=true;grind
  rw[b,ap9 af bj i];simp only[aO];obtain⟨y,c,j⟩:=qz (al:=al) (e.st (40::u) F al).2.1 h gr;rw[c,aS rfl];exact⟨_,rfl,by cases c;exact j⟩
 ·have b:decide (28<(e.st (40::u) F al).2.2.1)=false:=by show decide (28<e.ne)=false;grind
  rw[b];simp only[aY]
  obtain⟨m,rfl⟩:∃m,n=m+2:=⟨n-2,by omega⟩
  have l:W ((e.st (40::u) F al).2.2.1+1)=e.ne+1:=dO (by show-_<=e.ne+1;omega) (by grind);rw[l];have d:u<:+40::u:=eL _ u;have o:u≠[]:=h.zN (by decide);have f:=(h.mono d).yb;obtain⟨a,p,g⟩:=yh f (st:=e.up.st u F al) ⟨al,rfl,λr=>absurd r o⟩;have s:h1 ((e.st (40::u) F al).1,W ((e.st (40::u) F al).2.1+1),e.ne+1,(e.st (40::u) F al).2.2.2.1,(e.st (40::u) F al).2.2.2.2.1,(e.st (40::u) F al).2.2.2.2.2.1,(e.st (40::u) F al).2.2.2.2.2.2.1,(e.st (40::u) F al).2.2.2.2.2.2.2.1,(e.st (40::u) F al).2.2.2.2.2.2.2.2)=some a:=by rw[<-p];exact k2 h1 (ts (w:=[40]) (q:=u) h.yb 1 rfl)
  rw[s,aS rfl];have t:(a.1,a.2.1,a.2.2.1,(e.st (40::u) F al).2.2.2.1,a.2.2.2.2.1,a.2.2.2.2.2.1,a.2.2.2.2.2.2.1,(e.st (40::u) F al).2.2.2.2.2.2.2.1,a.2.2.2.2.2.2.2.2)=a:=by rcases g with⟨z,A, -,rfl, -⟩|⟨-,rfl⟩<;>rfl
  rw[t,ap4];have v:kU true (j0 true (m+2)) (40::u) F=((Vs (aW true (m+1))).named [102,40,41]) u F:=rfl;rw[v]
  have x:∀k,m+1=k+1->ll R k/\ph R k:=λk az=>hp 1 k (by omega)
  have:=ap8 x (hp 0 (m+1) (by omega)).1 (by omega) (e:=e.up) (by show e.ne+1=_;omega) f g;exact(ap5 bj af this d (by simp) h.sfx h.b4).named
end
def w1{X:Type}(D:ab Unit)(a:ab X)(B:H->Bool->ab X)(E:ab X):ab X:=N (dM D) λb=>if b then a else N (bN []) λt=>match t with
 | .word w p=>N (cR D) λ_=>B w p
 | .op o=>if o=[40] then b6 else E
 |_=>E
noncomputable def GQ(R:bl)(k:(Int×Int×Bool×aa)->Option aa)(a b:Int)(f:Bool):aa->Option aa:=λx=>
 (ay (g9 x) λ(e:Bool)=>(c1 (e=false) (jn x) (0:UInt8) λ(h:UInt8)=>(bif(bif e then true else(decide ((h.toNat:Int)=(10:Int)))) then some x else(ay (iz x) λ(d:H)=>(bif(decide (d=([40]:H))) then(bif(bif(bif(decide (a=1)) then(decide (b=0)) else false) then f else false) then(ay (I5 R x) λ(i:aa)=>some i) else(ay (ih x x.2.1) λ(c:aa)=>some (c.1,c.2.1,c.2.2.1,x.2.2.2.1,c.2.2.2.2.1,c.2.2.2.2.2.1,c.2.2.2.2.2.2.1,x.2.2.2.2.2.2.2.1,c.2.2.2.2.2.2.2.2))) else(ay (xI d) λ(g:Bool)=>(c1 (g=false) (CZ x) false λ(j:Bool)=>(bif(bif g then true else j) then(ay (FI R x) λ(l:aa)=>k (a,(W (b+1)),f,l)) else(bif(!(decide (d=[]))) then some x else(ay (rM R x) λ(z:H×Bool×aa)=>(c1 (z.2.1=true) (C3 z.1) false λ(m:Bool)=>k ((W (a+1)),b,(bif z.2.1 then m else false),z.2.2))))))))))))
theorem acv(R:bl)(j:aa->Option aa)(k:(Int×Int×Bool×aa)->Option aa)(a b:Int)(f:Bool)(x:aa):M3 R j k (a,b,f,x)=(bif(decide (x.2.2.2.2.1=0)) then
 (ay (h1 x) λ(c:aa)=>GQ R k a b f (c.1,c.2.1,c.2.2.1,x.2.2.2.1,c.2.2.2.2.1,c.2.2.2.2.2.1,c.2.2.2.2.2.2.1,x.2.2.2.2.2.2.2.1,c.2.2.2.2.2.2.2.2)) else j x):=rfl
section
variable(hD:ll R n)(bj:e.ne=30- (n:Int))
include hD bj
theorem Vv{X:Type}{C:dn X->dn Unit}(y:dg C){z:ab X}{B:H->Bool->ab X}{E:ab X}(vy:∀r F,C (E r F)= .ok () r F)
  {k:(Int×Int×Bool×aa)->Option aa} {a b:Int} {f:Bool} {x:aa} (h:cJ e r F) (aj:DN e r F x)
  (A:∀a b f (x:aa),x.2.2.2.2.1≠0->k (a,b,f,x)=some x)
  (hA:∀r' D L,r'<:+r->cJ e r' D->r'.length<r.length->gJ e r' D L->bR true e r (C (z r' D)) (λst=>st) (λ_ _ _=>True) (k (a,W (b+1),f,L)))
  (dd:∀j w p r' D L,bg r=some j->ar j= .word w p->r'<:+r->cJ e r' D->r'.length<r.length->gJ e r' D L->bR true e r (C (B w p r' D)) (λst=>st) (λ_ _ _=>True) (k (W (a+1),b,p&&l3 w,L)))
  (bk:∀j,bg r=some j->bt j=[40]->(bif(bif(decide (a=1)) then(decide (b=0)) else false) then f else false)=false):
  bR true e r (C (w1 (a9 true n) z B E r F)) (λst=>st) (λ_ _ _=>True) (GQ R k a b f x):=by
 unfold w1 GQ;rcases aj with⟨j,al,M,rfl,hL,d,l,O⟩|⟨M,rfl⟩
 ·rw[rk,aS rfl,GB d];by_cases Z:j=[]
  ·subst Z;simp only[bz,aO,c1,uR,cZ];rw[aJ (ti M (by decide))];simp only[fR,cZ];rw[aJ (bL O)];show bR true e r (C (E [] F)) _ _ _;rw[vy];exact⟨_,rfl,l,d,⟨al,rfl,hL⟩,trivial⟩
  ·rw[e3 Z,gI];simp only[c9,aY];have qw:ar j≠ .eof:=λhh=>Z (jd.1 hh);cases j with
   |nil=>grind
   |cons c t=>
    simp only[Aa,qu];have U:=N7 (c::t);have V:fm (bt ((c::t).dropWhile cd))=false->N (dM (a9 true n)) (λb=>if b then z else N (bN []) λt=>match t with
      | .word w p=>N (cR (a9 true n)) λ_=>B w p
      | .op o=>if o=[40] then b6 else E
      |_=>E) r F=(match ar (c::t) with
      | .word w p=>N (cR (a9 true n)) λ_=>B w p
      | .op o=>if o=[40] then b6 else E
      |_=>E) (c::t) F:=by
     intro hh;rw[aJ (ti M hh)];simp only[fR,cZ];rw[aJ (bL O)]
    have ff:iz (e.st (c::t) F al)=some (bt (c::t)):=sF d;rcases J4 (b:=c) (t:=t) with⟨P,Q⟩|⟨P,Q,S⟩|⟨P,Q,S⟩
    ·subst P;have aB:fm (bt ((10::t).dropWhile cd))=false:=by rfl
     rw[V aB,Q];simp only[bz,aO];rw[vy];exact⟨_,rfl,l,d,⟨al,rfl,hL⟩,trivial⟩
    ·simp only[P,bG,aY];rw[ff,aS rfl];by_cases J:bt (c::t)=[40]
     ·have aB:fm (bt ((c::t).dropWhile cd))=false:=by
       have aq:c=40:=by
        have hq:ar (c::t)= .op [40]:=by grind
        obtain⟨v,aC⟩:=(ib hq).2.1;grind
       subst aq;rfl
      rw[V aB,S,J,bk (c::t) M J];simp only[bz,aO,aY,c9];show bR true e r (C (.bad (c::t))) _ _ _;rw[y.bad];obtain⟨aL,a2,bc⟩:=qz (al:=al) (e.st (c::t) F al).2.1 d l;rw[a2,aS rfl];exact⟨_,rfl,by cases a2;exact bc⟩
     ·simp only[J,bG,aY];rw[Gr,aS rfl,UK d,gI];cases m:fm (bt ((c::t).dropWhile cd)) with
      |true=>
       rw[m] at U;have G:(bif fm (bt (c::t)) then true else if fm (bt (c::t))=false then(decide ((c::t).dropWhile cd≠c::t)&&true) else false)=true:=by grind
       rw[G];simp only[aO];have NZ:dM (a9 true n) r F=dM (a9 true n) (c::t) F:=by simp_all[dM,N,fI]
       have c8:N (dM (a9 true n)) (λb=>if b then z else N (bN []) λt=>match t with
         | .word w p=>N (cR (a9 true n)) λ_=>B w p
         | .op o=>if o=[40] then b6 else E
         |_=>E) r F=N (dM (a9 true n)) (λb=>if b then z else N (bN []) λt=>match t with
         | .word w p=>N (cR (a9 true n)) λ_=>B w p
         | .op o=>if o=[40] then b6 else E
         |_=>E) (c::t) F:=by
        grind[N]
       rw[c8];refine bR.je y ((UX hD bj (al:=al) d O m).mono l) (λvU an aD s JW s1 v1 hJ r2=>?_) (λop nd ds s _ T=>?_) (λs g=>?_)
       ·subst r2;rw[ba rfl];grind[tc,mO]
       ·exact⟨s,A _ _ _ _ (by rw[T.z.1];decide),T.up⟩
       ·exact⟨s,A _ _ _ _ (by rw[g.1];decide),g⟩
      |false=>
       rw[m] at U;have G:(bif fm (bt (c::t)) then true else if fm (bt (c::t))=false then(decide ((c::t).dropWhile cd≠c::t)&&false) else false)=false:=by grind
       rw[G,V m,S];simp only[Q,J,aY,bG,fp,aO,cZ];rw[vy];exact⟨_,rfl,l,d,⟨al,rfl,hL⟩,trivial⟩
    ·simp only[P,bG,aY];rw[ff,aS rfl];have J:¬bt (c::t)=[40]:=by grind
     simp only[J,bG,aY];rw[Gr,aS rfl,UK d,gI];cases m:fm (bt ((c::t).dropWhile cd)) with
     |true=>
      rw[m] at U;have G:(bif fm (bt (c::t)) then true else if fm (bt (c::t))=false then(decide ((c::t).dropWhile cd≠c::t)&&true) else false)=true:=by grind
      rw[G];simp only[aO];have NZ:dM (a9 true n) r F=dM (a9 true n) (c::t) F:=by simp_all[dM,N,fI]
      have c8:N (dM (a9 true n)) (λb=>if b then z else N (bN []) λt=>match t with
        | .word w p=>N (cR (a9 true n)) λ_=>B w p
        | .op o=>if o=[40] then b6 else E
        |_=>E) r F=N (dM (a9 true n)) (λb=>if b then z else N (bN []) λt=>match t with
        | .word w p=>N (cR (a9 true n)) λ_=>B w p
        | .op o=>if o=[40] then b6 else E
        |_=>E) (c::t) F:=by
       grind[N]
      rw[c8];refine bR.je y ((UX hD bj (al:=al) d O m).mono l) (λvU an aD s JW s1 v1 hJ r2=>?_) (λop nd ds s _ T=>?_) (λs g=>?_)
      ·subst r2;rw[ba rfl];grind[tc,mO]
      ·exact⟨s,A _ _ _ _ (by rw[T.z.1];decide),T.up⟩
      ·exact⟨s,A _ _ _ _ (by rw[g.1];decide),g⟩
     |false=>
      rw[m] at U;have G:(bif fm (bt (c::t)) then true else if fm (bt (c::t))=false then(decide ((c::t).dropWhile cd≠c::t)&&false) else false)=false:=by grind
      rw[G,V m,S];simp only[Q,aY,bz,hU];have hF:cV (c::t)=false:=(zJ O S).2;obtain⟨⟨g,fS,I⟩,hb,u⟩:=Gz hD bj (tr0:=al) d;have BF:I.1=e.S->g.length<=1000000:=λY=>k1 (UU d Y hb).1 h.b4;rw[hb,aS rfl];dsimp only at u⊢;cases hm:cR (a9 true n) (c::t) F with
      |ok aqa an aD=>rw[hm] at u;obtain⟨cH,av,a3, -,bQ,fh⟩:=u;rw[aJ hm];have K:=(zI g (iV (BF a3.eta.1))).2;grind[wJ,mO,gI]
      |more op nd ds=>rw[hm] at u;have i:jh false e (c::t) nd ds I:=u;have K:=(zI g (iV (BF i.z.2.2.2.1.s))).2;rw[dx hm,y.more,K,gI,A _ _ _ _ (by rw[i.z.1];decide)];exact⟨I,rfl,(i.mono l).up⟩
      |bad q=>rw[hm] at u;have i:js e (c::t) I:=u;have K:=(zI g (iV (BF i.2.s))).2;rw[hS hm,y.bad,K,gI,A _ _ _ _ (by rw[i.1];decide)];exact⟨I,rfl,i.mono l⟩
      |deep q=>rw[hm] at u;have i:js e (c::t) I:=u;have K:=(zI g (iV (BF i.2.s))).2;rw[km hm,y.deep,K,gI,A _ _ _ _ (by rw[i.1];decide)];exact⟨I,rfl,i.mono l⟩
 ·have eM:dM (a9 true n) r F= .more [] [] F:=by
   unfold dM;have:fI r F= .more [] [] F:=by unfold fI;rw[M];rfl
   grind[dx]
  rw[dx eM,y.more,pS,aS rfl];simp only[c1,uR,cZ,aO];exact⟨_,rfl,.inr ⟨rfl,rfl,rfl⟩⟩
end
def z2(D:ab Unit):Unit->ab (Unit⊕Unit):=λ_=>w1 D (aU (.inl ())) (λ_ _=>aU (.inl ())) (aU (.inr ()))
theorem Kf(D:ab Unit):gS true D=cD (z2 D) ():=by unfold gS z2 w1;grind
structure GR(a b:Int)(f:Bool)(r:H):Prop where
 g:1<=b\/2<=a\/(a=1/\f=false)
 a0:0<=a
 acw:0<=b
 aqb:a+r.length<=1000001
 aqc:b+r.length<=1000001
theorem GR.Oc{a b:Int}{f:Bool}(h:GR a b f r):(bif(bif(decide (a=1)) then(decide (b=0)) else false) then f else false)=false:=by obtain⟨g,a0,acw,_,_⟩:=h;grind
theorem GS{a:Int}(h0:0<=a)(h:a<=1000001):W (a+1)=a+1:=dO (by omega) (by omega)
noncomputable abbrev vK(R:bl):((Int×Int×Bool×aa)->Option aa)->(Int×Int×Bool×aa)->Option aa:=M3 R (λx=>some x)
section
variable(hD:ll R n)(bj:e.ne=30- (n:Int))
theorem GU{x y:aa}(a:DN e r F y)(b:gJ e r F x):(y.1,y.2.1,y.2.2.1,x.2.2.2.1,y.2.2.2.2.1,y.2.2.2.2.2.1,y.2.2.2.2.2.2.1,x.2.2.2.2.2.2.2.1,y.2.2.2.2.2.2.2.2)=y:=by obtain⟨al,rfl,_⟩:=b;rcases a with⟨c,d, -,rfl, -⟩|⟨-,rfl⟩<;>rfl
theorem Vw{k:(Int×Int×Bool×aa)->Option aa}{a b:Int}{f:Bool}{x:aa}(h:cJ e r F)(c:gJ e r F x):∃y,DN e r F y/\vK R k (a,b,f,x)=GQ R k a b f y:=by obtain⟨y,M,U⟩:=yh h c;refine⟨y,U,?_⟩;show M3 R (λx=>some x) k (a,b,f,x)=_;rw[acv,c.eta.2.2.2.2.1];simp only[bz,aO];rw[M,aS rfl,GU U c]
theorem acx{k:(Int×Int×Bool×aa)->Option aa}{a b:Int}{f:Bool}{x:aa}(h:x.2.2.2.2.1≠0):vK R k (a,b,f,x)=some x:=by simp_all[acv]
include hD bj
theorem acy{bF:Nat}{a b:Int}{f:Bool}{x:aa}(u:r.length+1<bF)(h:cJ e r F)(c:gJ e r F x)(bk:GR a b f r):bR true e r (gS true (a9 true n) r F) (λst=>st) (λ_ _ _=>True) (fixF (vK R) bF (a,b,f,x)):=by
 rw[Kf];refine bR.rep (en:=λ_ r F (y:Int×Int×Bool×aa)=>gJ e r F y.2.2.2/\GR y.1 y.2.1 y.2.2.1 r) (λk s r F y t l v az=>?_) bF () r F _ u h ⟨c,bk⟩;obtain⟨a,b,f,x⟩:=y;obtain⟨c,bk⟩:=l;dsimp only at c bk
 have z:∀a b f (x:aa),x.2.2.2.2.1≠0->k (a,b,f,x)=some x:=by intro a b f x c;obtain⟨k',M⟩:=v (a,b,f,x);grind[acx]
 obtain⟨y,l,he⟩:=Vw (R:=R) (k:=k) (a:=a) (b:=b) (f:=f) t c;rw[he];have D:=bk.aqc;have E:=bk.aqb;have d:=bk.a0;have i:=bk.acw;refine Vv hD bj (C:=dc (z2 (a9 true n)) r) dg.k (λ_ _=>rfl) t l z (λr' m A s1 o j q=>?_) (λB w p r' m A G I s1 o j q=>?_) (λB _ _=>bk.Oc)
 ·refine bR.inl j (az () r' m _ s1 o j ⟨q,?_⟩);dsimp only;rw[GS i (by omega)];exact⟨.inl (by omega),d,by omega,by omega,by omega⟩
 ·refine bR.inl j (az () r' m _ s1 o j ⟨q,?_⟩);dsimp only;rw[GS d (by omega)];refine⟨?_,by omega,i,by omega,by omega⟩;rcases bk.g with g|g|g
  ·omega
  ·omega
  omega
end
def DW(lo:Option dD)(D:ab Unit):ab Unit:=N (bN []) λt=>if t= .op [40] then N (kU true lo) λ_=>aU () else gS true D
theorem Kg(Y:bg r=some r)(d:fm (bt (r.dropWhile cd))=true){b:Bool}{a:ag}(h:dM D r F= .ok b an a):b=true:=by
 have c:fI r F= .ok (some (bt (r.dropWhile cd))) ((r.dropWhile cd).drop (bt (r.dropWhile cd)).length) F:=by simp_all[fI]
 unfold dM at h;rw[aJ c] at h;obtain⟨_,e,f,_,h⟩:=bW h;cases h;rfl
theorem aqd{d:H}(Y:bg r=some d)(f:bg d=some d)(aw:d.length<=r.length)(hD:gn D):gS true D r F=gS true D d F:=by
 have n:dM D r F=dM D d F:=by simp_all[dM,N,fI]
 have h:z2 D () r F=z2 D () d F:=by simp_all[z2,w1,N]
 rw[Kf,cL,cL,h];unfold dc;cases hm:z2 D () d F with
 |ok x r' s=>
  cases x with
  |inr a=>rfl
  |inl u=>
   have t:r'.length<d.length:=by
    have bk:=hm;unfold z2 w1 at bk;obtain⟨b,i,j,k,c⟩:=bW bk;cases b with
    |true=>simp only[c9] at c;cases c;exact tc hD k
    |false=>
     simp only[fR,cZ] at c;have g:i=d/\j=F:=by
      cases v:fm (bt (d.dropWhile cd)) with
      |true=>grind[Kg]
      |false=>simp_all[ti]
     rw[g.1,g.2,aJ (bL f)] at c;cases e:ar d with
     |eof=>rw[e] at c;cases c
     |line=>rw[e] at c;cases c
     |op o=>rw[e] at c;simp only at c;split at c<;>cases c
     |word w p=>rw[e] at c;simp only at c;obtain⟨_,y,z,l,m⟩:=bW c;cases m;exact wJ hD (zJ f e).1 (zJ f e).2 l
   grind
 |more op nd ds=>rfl
 |bad q=>rfl
 |deep q=>rfl
section
variable(hp:∀k m,n=m+1+k->ll R m/\ph R m)(hD:ll R n)(af:n<=30)(bj:e.ne=30- (n:Int))
theorem acB{gZ:Nat}(c:0<gZ):∀a b f (x:aa),x.2.2.2.2.1≠0->fixF (vK R) gZ (a,b,f,x)=some x:=by
 intro a b f x d
 obtain⟨m,rfl⟩:∃m,gZ=m+1:=⟨gZ-1,by omega⟩
 grind[fx,acx]
include hp hD af bj
theorem aqe{bF:Nat}{x:aa}(W:r.length+1<bF)(h:cJ e r F)(G:gJ e r F x):bR true e r (DW (j0 true n) (a9 true n) r F) (λst=>st) (λ_ _ _=>True) (fixF (vK R) bF (1,0,true,x)):=by
 obtain⟨gZ,rfl⟩:∃m,bF=m+1:=⟨bF-1,by omega⟩
 rw[fx];have D:=acB (R:=R) (gZ:=gZ) (by omega)
 have l:∀{a b:Int}{f:Bool}{r':H}{c:ag}{i:aa},r'.length<r.length->cJ e r' c->gJ e r' c i->GR a b f r'->bR true e r' (gS true (a9 true n) r' c) (λst=>st) (λ_ _ _=>True) (fixF (vK R) gZ (a,b,f,i)):=λM U I J=>acy hD bj (by omega) U I J
 generalize fixF (vK R) gZ=k at D l;obtain⟨y,K,he⟩:=Vw (R:=R) (k:=k) (a:=1) (b:=0) (f:=true) h G;rw[he];have X:=h.b4;have hle:=h.sfx.length_le;rcases K with⟨d,al,o,rfl,L,g,q,E⟩|⟨o,rfl⟩
 ·unfold DW;rw[aJ (bL o)];by_cases s:bt d=[40]
  ·have j:ar d= .op [40]:=(mQ (by simp)).2 s;rw[ba j];obtain⟨u,rfl⟩:=(ib j).2.1;have O:=ap_ hp af bj (al:=al) (u:=u) g;unfold GQ;rw[rk,aS rfl,GB g,e3 (by simp),gI];have P:(decide ((((40:UInt8)).toNat:Int)=(10:Int)))=false:=by decide
   have t:(([40]++u:H)).headD 0=40:=rfl;simp only[c9,aY,t,P];rw[sF g,aS rfl,s];simp only[bz,aO];have v:N (kU true (j0 true n)) (λ_=>aU ()) ([40]++u) F=kU true (j0 true n) ([40]++u) F:=Ge _ _ _;rw[v];exact bR.et (O.mono q) (DT _)
  ·have j:ar d≠ .op [40]:=λQ=>s ((mQ (by simp)).1 Q);rw[aM j,Kf,cL];have Y:=q.length_le;refine bR.mono ?_ q;refine Vv hD bj (C:=dc (z2 (a9 true n)) d) dg.k (λ_ _=>rfl) g (.inl ⟨d,al,E,rfl,L,g,gr,E⟩) D (λr' c i s1 z A B=>?_) (λS w p r' c i T V s1 z A B=>?_) (λS T V=>?_)
   ·refine bR.inl A ?_;rw[<-Kf];refine(l (by omega) z B ?_).mono s1;rw[GS (by omega) (by omega)];exact⟨.inl (by omega),by omega,by omega,by omega,by omega⟩
   ·refine bR.inl A ?_;rw[<-Kf];refine(l (by omega) z B ?_).mono s1;rw[GS (by omega) (by omega)];exact⟨.inr (.inl (by omega)),by omega,by omega,by omega,by omega⟩
   grind
 ·unfold DW;rw[dx (op:=[]) (nd:=[]) (ds:=F) (by rw[jC o];rfl)];unfold GQ;rw[pS,aS rfl];simp only[c1,uR,cZ,aO];exact⟨_,rfl,.inr ⟨rfl,rfl,rfl⟩⟩
end
noncomputable def OF(R:bl):aa->Option aa:=λx=>
 (ay (g9 x) λ(e:Bool)=>(bif e then(ay (h2 x ([120]:H)) λ(f:aa)=>some f) else(ay (iz x) λ(b:H)=>(ay (mA x) λ(y23:H)=>(c1 ((decide (b=([40]:H)))=false) (AX y23) false λ(g:Bool)=>(bif(bif(decide (b=([40]:H))) then true else g) then(ay (A6 R x) λ(h:aa)=>some h) else(ay (jn x) λ(c:UInt8)=>(c1 ((!(decide (b=[])))=true/\(decide ((c.toNat:Int)=(10:Int)))=false) (xI b) false λ(d:Bool)=>(c1 ((bif(decide ((c.toNat:Int)=(10:Int))) then true else(bif(!(decide (b=[]))) then(!d) else false))=false) (IK y23) false λ(i:Bool)=>(bif(bif(bif(decide ((c.toNat:Int)=(10:Int))) then true else(bif(!(decide (b=[]))) then(!d) else false)) then true else i) then(ay (ih x x.2.1) λ(a:aa)=>some (a.1,a.2.1,a.2.2.1,x.2.2.2.1,a.2.2.2.2.1,a.2.2.2.2.2.1,a.2.2.2.2.2.2.1,x.2.2.2.2.2.2.2.1,a.2.2.2.2.2.2.2.2)) else(ay (fixF (vK R) bB (0,0,false,x)) λ(j:aa)=>some j)))))))))))
theorem acC(R:bl)(I:aa):uf R I=ay (h1 I) λa=>OF R (a.1,a.2.1,a.2.2.1,I.2.2.2.1,a.2.2.2.2.1,a.2.2.2.2.2.1,a.2.2.2.2.2.2.1,I.2.2.2.2.2.2.2.1,a.2.2.2.2.2.2.2.2):=rfl
theorem Vx{b:ag}(h:cJ e r b)(c:eA F<=100*e.S.length+800):∃a,uf R (e.tt F)=some a/\oU e r (b8 [] F [120]).1 (b8 [] F [120]).2 a:=by rw[acC,DF,aS rfl];obtain⟨a,f,g⟩:=GN (F:=F) (x:=[120]) h c (by simp);have d:((e.tt F).1,(e.tt F).2.1,(e.tt F).2.2.1,(e.tt F).2.2.2.1,(e.tt F).2.2.2.2.1,(e.tt F).2.2.2.2.2.1,(e.tt F).2.2.2.2.2.2.1,(e.tt F).2.2.2.2.2.2.2.1,(e.tt F).2.2.2.2.2.2.2.2)=e.tt F:=rfl;rw[d];simp_all[OF,pS,aS]
section
variable(hp:∀k m,n=m+1+k->ll R m/\ph R m)(hD:ll R n)(af:n<=30)(bj:e.ne=30- (n:Int))
include hp hD af bj
theorem aqh(h:cJ e r F)(u:gJ e r F (e.st r F al))(Y:bg r=some r)(G:bt r≠[40]):bR true e r (w1 (a9 true n) (gS true (a9 true n)) (λw p=>if p&&l3 w then DW (j0 true n) (a9 true n) else gS true (a9 true n)) (aU ()) r F) (λst=>st) (λ_ _ _=>True) (fixF (vK R) bB (0,0,false,e.st r F al)):=by
 have v:r.length+1<bB:=wV h
 obtain⟨gZ,o⟩:∃m,bB=m+1:=⟨bB-1,by omega⟩
 rw[o,fx];rw[o] at v;clear o;have t:=acB (R:=R) (gZ:=gZ) (by omega)
 have q:∀{a b:Int}{f:Bool}{r':H}{c:ag}{d:aa},r'.length<r.length->cJ e r' c->gJ e r' c d->GR a b f r'->bR true e r' (gS true (a9 true n) r' c) (λst=>st) (λ_ _ _=>True) (fixF (vK R) gZ (a,b,f,d)):=λM U s z=>acy hD bj (by omega) U s z
 have g:∀{r':H}{c:ag}{d:aa},r'.length<r.length->cJ e r' c->gJ e r' c d->bR true e r' (DW (j0 true n) (a9 true n) r' c) (λst=>st) (λ_ _ _=>True) (fixF (vK R) gZ (1,0,true,d)):=λM U s=>aqe hp hD af bj (by omega) U s
 generalize fixF (vK R) gZ=k at t q g;obtain⟨y,A,he⟩:=Vw (R:=R) (k:=k) (a:=0) (b:=0) (f:=false) h u;rw[he];have I:=h.b4;have hle:=h.sfx.length_le;refine Vv hD bj (C:=λx=>x) dg.id (λ_ _=>rfl) h A t (λr' c d s1 i j l=>?_) (λB w p r' c d D E s1 i j l=>?_) (λB D E=>?_)
 ·refine(q j i l ?_).mono s1;rw[GS (by omega) (by omega)];exact⟨.inl (by omega),by omega,by omega,by omega,by omega⟩
 ·rw[GS (by omega) (by omega)];cases ah:(p&&l3 w) with
  |true=>rw[ba rfl];exact(g j i l).mono s1
  |false=>rw[aM (by simp)];exact(q j i l ⟨.inr (.inr ⟨rfl,rfl⟩),by omega,by omega,by omega,by omega⟩).mono s1
 ·rfl
theorem acE{st:aa}(h:cJ e r F)(J:gJ e r F st):bR true e r (fA true (j0 true n) (a9 true n) r F) (λst=>st) (λ_ _ _=>True) (uf R st):=by
 rw[acC];obtain⟨y,Q,K⟩:=yh h J;rw[Q,aS rfl,GU K J];rcases K with⟨a,al,v,rfl,L,d,i,o⟩|⟨v,rfl⟩
 ·unfold fA;rw[aJ (bL v)];unfold OF;rw[rk,aS rfl];by_cases Z:a=[]
  ·subst Z;simp only[bz,aO];obtain⟨s,g,j⟩:=vH (al:=al) (x:=[120]) d (by decide);rw[g];exact⟨s,rfl,(j.mono i).s⟩
  ·simp only[Z,bG,aY];have S:ar a≠ .eof:=λz=>Z (jd.1 z);rw[aM S,sF d,aS rfl,wW d,aS rfl,abr,gI];have M:=h.nl.iT d.sfx;have Bn:=abB M;have A:(bif decide (bt a=[40]) then true else if decide (bt a=[40])=false then oJ (jG a) else false)=fJ (ar a):=by grind
   rw[A];cases aq:fJ (ar a) with
   |true=>
    simp only[aO,c9]
    have T:∀m,n=m+1->ll R m/\ph R m:=λm hm=>hp 0 m (by omega)
    have B:=acp T hD af bj d ⟨al,rfl,L⟩ o aq;have U:rU (j0 true n) (ar a)=(aW true n).cp (ar a):=by rw[aa6]
    rw[U];exact bR.et (B.mono i) (DT _)
   |false=>
    simp only[aY,fR,cZ];rw[GB d,aS rfl];have C:ar a≠ .op [40]:=by grind[fJ]
    have V:bt a≠[40]:=λz=>C ((mQ (by simp)).2 z);have W:=aqh hp hD af bj d ⟨al,rfl,L⟩ o V;have zH:=aow M;have D:∀X:dn Unit,X= .bad a->bR true e r X (λst=>st) (λ_ _ _=>True) (ay (ih (e.st a F al) (e.st a F al).2.1) λ(f:aa)=>
      some (f.1,f.2.1,f.2.2.1,(e.st a F al).2.2.2.1,f.2.2.2.2.1,f.2.2.2.2.2.1,f.2.2.2.2.2.2.1,(e.st a F al).2.2.2.2.2.2.2.1,f.2.2.2.2.2.2.2.2)):=by
     rintro X rfl;obtain⟨s,g,j⟩:=qz (al:=al) (e.st a F al).2.1 d i;rw[g,aS rfl];exact⟨_,rfl,by cases g;exact j⟩
    cases a with
    |nil=>grind
    |cons c t=>
     simp only[Aa,qu];rcases J4 (b:=c) (t:=t) with⟨k,l⟩|⟨k,l,u⟩|⟨k,l,u⟩
     ·subst k;rw[l];simp only[bz,c1,uR,and_false,cZ,aO];exact D _ rfl
     ·rw[u];have E:q3 (jG (c::t))=false:=by grind
      rw[Gr,gI,abt,gI,E];have Y:decide (bt (c::t)=[])=false:=e3 l;simp only[k,Y,bG,fp,om,c9,aO,aY];have G:(if(!fm (bt (c::t)))=false then false else false)=false:=by simp
      rw[G];cases iS:fm (bt (c::t)) with
      |false=>simp only[fp,aO,fR,cZ];exact D _ rfl
      |true=>
       simp only[hU,aY,c9];refine bR.et (bR.mono ?_ i) (DT _);have I:fm (bt ((c::t).dropWhile cd))=true:=by grind[N7]
       have c8:N (dM (a9 true n)) (λ_=>gS true (a9 true n)) (c::t) F=w1 (a9 true n) (gS true (a9 true n)) (λw p=>if p&&l3 w then DW (j0 true n) (a9 true n) else gS true (a9 true n)) (aU ()) (c::t) F:=by
        unfold w1;cases hm:dM (a9 true n) (c::t) F with
        |ok b an O=>have:=Kg o I hm;subst this;rw[aJ hm,aJ hm,ba rfl]
        |more op nd ds=>grind[dx]
        |bad q=>grind[hS]
        |deep q=>grind[km]
       grind
     ·rw[u];have E:q3 (jG (c::t))=((di (c::t)).2&&q3 (di (c::t)).1):=by grind
      rw[Gr,gI,abt,gI,E];simp only[k,l,bz,bG,hU,aY,fR,false_and,c9];cases NZ:((di (c::t)).2&&q3 (di (c::t)).1) with
      |true=>simp only[aO,c9];exact D _ rfl
      |false=>
       simp only[aY,fR,cZ];refine bR.et (bR.mono ?_ i) (DT _);have c8:N (dM (a9 true n)) (λb=>if b then gS true (a9 true n) else N (cR (a9 true n)) λ_=>
         if(di (c::t)).2&&l3 (di (c::t)).1 then N (bN []) λt=>if t= .op [40] then N (kU true (j0 true n)) λ_=>aU () else gS true (a9 true n) else gS true (a9 true n)) (c::t) F=w1 (a9 true n) (gS true (a9 true n)) (λw p=>if p&&l3 w then DW (j0 true n) (a9 true n) else gS true (a9 true n)) (aU ()) (c::t) F:=by
        unfold w1;cases hm:dM (a9 true n) (c::t) F with
        |ok b an O=>
         rw[aJ hm,aJ hm];cases b with
         |true=>rfl
         |false=>
          simp only[fR,cZ,c9];have P:an=c::t/\O=F:=by
           cases iS:fm (bt ((c::t).dropWhile cd)) with
           |true=>grind[Kg]
           |false=>simp_all[ti]
          rw[P.1,P.2,aJ (bL o),u];rfl
        |more op nd ds=>grind[dx]
        |bad q=>grind[hS]
        |deep q=>grind[km]
       grind
 ·unfold fA;rw[dx (op:=[]) (by rw[jC v];rfl)];unfold OF;rw[pS,aS rfl];simp only[aO];obtain⟨s,g,j⟩:=DK (x:=[120]) h.Bz (by decide);rw[g];exact⟨s,rfl,(j.mono pt).s⟩
end
structure Vy(e:cn)(c2:ab Unit)(cB:aa->Option aa):Prop where
 im:∀{r:H}{F:ag}{st:aa},cJ e r F->gJ e r F st->bR true e r (c2 r F) (λst=>st) (λ_ _ _=>True) (cB st)
 tt:∀{r:H}{gU F:ag},cJ e r gU->eA F<=100*e.S.length+800->∃aL,cB (e.tt F)=some aL/\oU e r (b8 [] F [120]).1 (b8 [] F [120]).2 aL
 sfx:∀{r:H}{F:ag}{a:Unit}{r':H}{aE:ag},c2 r F= .ok a r' aE->r'<:+r
 pb:aK 50 c2
noncomputable def OG(tst:H->Bool)(w:Int)(cB k:aa->Option aa):aa->Option aa:=λx=>
 (ay (iz x) λ(b:H)=>(bif tst b then some x else(ay (pJ (setAt x (W (x.2.1+w)))) λ(a:aa)=>(bif(!(decide (a.2.2.2.2.1=0))) then(ay (g_ a ([]) ([120]:H)) λ(c:aa)=>some c) else(ay (cB a) λ(d:aa)=>k d)))))
noncomputable def yk(tst:H->Bool)(w:Int)(cB:aa->Option aa)(k:aa->Option aa):aa->Option aa:=λx=>
 (bif(decide (x.2.2.2.2.1=0)) then(ay (h1 x) λ(a:aa)=>OG tst w cB k (a.1,a.2.1,a.2.2.1,x.2.2.2.1,a.2.2.2.2.1,a.2.2.2.2.2.1,a.2.2.2.2.2.2.1,x.2.2.2.2.2.2.2.1,a.2.2.2.2.2.2.2.2)) else some x)
def oW(p:Tok->Bool)(w:Nat)(c2:ab Unit):ab Unit:=cD (λ_=>N (bN []) λt=>if p t=true then N (bV w) λ_=>N (cQ.aG [120]) λ_=>N c2 λ_=>aU (.inl ()) else aU (.inr ())) ()
section
variable{c2:ab Unit}{cB:aa->Option aa}(dy:Vy e c2 cB){p:Tok->Bool}{tst:H->Bool}{w:Nat}(ah:∀t,p t=true->∃o,t= .op o/\o.length=w/\0<w/\tst o=false)(x4:∀r,tst (bt r)=false->p (ar r)=true)(Vz:tst []=true)
include dy ah x4 Vz
theorem acF{st:aa}(h:cJ e r F)(T:gJ e r F st):bR true e r (oW p w c2 r F) (λst=>st) (λ_ _ _=>True) (fixF (yk tst w cB) bB st):=by
 unfold oW;refine bR.rep (en:=λ_ r F x=>gJ e r F x) (λk s r F x m f E az=>?_) bB () r F _ (wV h) h T
 have n:∀x:aa,x.2.2.2.2.1≠0->k x=some x:=by intro x f;obtain⟨k',M⟩:=E x;simp_all[yk]
 have vW:∀ds,k (e.tt ds)=some (e.tt ds):=by intro ds;obtain⟨k',M⟩:=E (e.tt ds);rw[M];unfold yk;have t:(e.tt ds).2.2.2.2.1=0:=rfl;rw[t,DF,aS rfl];have V:((e.tt ds).1,(e.tt ds).2.1,(e.tt ds).2.2.1,(e.tt ds).2.2.2.1,(e.tt ds).2.2.2.2.1,(e.tt ds).2.2.2.2.2.1,(e.tt ds).2.2.2.2.2.2.1,(e.tt ds).2.2.2.2.2.2.2.1,(e.tt ds).2.2.2.2.2.2.2.2)=e.tt ds:=rfl;rw[V];unfold OG;rw[GC ds m.b4,aS rfl,Vz];rfl
 unfold yk;rw[f.eta.2.2.2.2.1];simp only[bz,aO];obtain⟨y,X,G⟩:=yh m f;have I:=GU G f;rw[f.eta.2.2.2.1] at I;rw[X,aS rfl,f.eta.2.2.2.1,I];unfold OG;rcases G with⟨J,al,z,rfl,Y,g,K,iM⟩|⟨z,rfl⟩
 ·rw[aJ (bL z),sF g,aS rfl];cases Z:tst (bt J) with
  |true=>
   have j:¬p (ar J)=true:=by intro A;obtain⟨o,M,U,_,au⟩:=ah _ A;have:=(ib M).1;grind
   rw[aM j];simp only[aO];exact⟨_,rfl,K,g,⟨al,rfl,Y⟩,trivial⟩
  |false=>
   have j:=x4 _ Z;rw[ba j];simp only[aY];obtain⟨o,M,U,au,_⟩:=ah _ j;obtain⟨aQ,br,bY,dH⟩:=ib M;obtain⟨v,rfl⟩:=br;have L:v<:+o++v:=gq o v;have tl:=g.uD dH bY;have lC:setAt (e.st (o++v) F al) (W ((e.st (o++v) F al).2.1+(w:Int)))=e.st v F al:=ts g w U;have VA:bV w (o++v) F= .ok () v F:=by grind[bV]
   rw[lC,aJ VA];have l:=g.mono L;have i:v<:+r:=L.trans K;have fe:v.length<r.length:=by grind
   obtain⟨bP,bu,d⟩:=Gu l (st:=e.st v F al) ⟨al,rfl,λA=>absurd A tl⟩;rw[bu,aS rfl];have hC:=aK.low (aK.lines (c:=0)) l;cases hm:cQ v F with
   |ok a an aD=>
    rw[hm] at d;obtain⟨N,av,a3,bQ,fh⟩:=d;rw[aJ (qA hm),a3.eta.2.2.2.2.1];simp only[bz,hU,aY];refine bR.je (C:=dc _ r) dg.k ((dy.im av a3).mono (N.trans i)) (λaqa O b9 b bO jf fi zS _=>?_) (λop nd ds b _ B=>?_) (λb P=>?_)
    ·have l_:=(dy.sfx bO).length_le;have lQ:=N.length_le;have Q:O.length<r.length:=by omega
     exact bR.inl Q (az () O b9 b jf fi Q zS)
    ·rcases B with B|⟨_,rfl,R⟩
     ·exact⟨b,n b (by omega),.inl B⟩
     ·subst R;exact⟨_,vW ds,.inr ⟨rfl,rfl,rfl⟩⟩
    ·exact⟨b,n b (by rw[P.1];decide),P⟩
   |more op nd ds=>
    rw[hm] at d;rw[dx (tr hm)];have R:=hC _ _ _ hm;rcases d with d|⟨_,rfl,rfl⟩
    ·rw[d.1];simp only[show¬((1:Int)=0) by decide,bG,fp,aO];obtain⟨D,ai,bf⟩:=GK (q:=true) (x:=[120]) l (.inl d) i (by omega) (by decide);rw[ai];exact⟨D,rfl,bf⟩
    ·have t:(e.tt ds).2.2.2.2.1=0:=rfl;rw[t];simp only[bz,hU,aY];obtain⟨D,a2,S⟩:=dy.tt l (F:=ds) (by omega);rw[a2,aS rfl,n _ (by rw[S.1];decide)];exact⟨D,rfl,(S.mono i).s⟩
   |bad u=>rw[hm] at d;rw[hS (vI hm),d.1];simp only[show¬((2:Int)=0) by decide,bG,fp,aO];rw[sG d];exact⟨_,rfl,d.mono i⟩
   |deep u=>rw[hm] at d;rw[km (vJ hm),d.1];simp only[show¬((2:Int)=0) by decide,bG,fp,aO];rw[sG d];exact⟨_,rfl,d.mono i⟩
 ·rw[dx (op:=[]) (nd:=[]) (ds:=F) (by rw[jC z];rfl),GC F m.b4,aS rfl,Vz];exact⟨_,rfl,.inr ⟨rfl,rfl,rfl⟩⟩
end
def qC(t:Tok):Bool:=decide (t= .op [124])
def pV(t:Tok):Bool:=decide (t= .op [38,38])||decide (t= .op [124,124])
theorem DX(c2:ab Unit):fv c2=N (bN [120]) λt=>N (if cm t [33] then bV 1 else aU ()) λ_=>N c2 λ_=>oW qC 1 c2:=by simp[fv,oW,qC]
theorem OI(a:ab Unit):hR a=N a λ_=>oW pV 2 a:=by simp[hR,oW,pV]
noncomputable def OJ(R:bl):aa->Option aa:=λa=>fixF (yk (λo=> !(decide (o=([124]:H)))) 1 (uf R)) bB a
noncomputable def Ki(R:bl):aa->Option aa:=λx=>
 (ay (mA x) λ(b:H)=>(bif(decide (b=([33]:H))) then(ay (uf R (setAt x (W (x.2.1+1)))) λa=>OJ R a) else(ay (uf R x) λa=>OJ R a)))
theorem acG(R:bl)(I:aa):zo R I=ay (h1 I) λa=>Ki R (a.1,a.2.1,a.2.2.1,I.2.2.2.1,a.2.2.2.2.1,a.2.2.2.2.2.1,a.2.2.2.2.2.2.1,I.2.2.2.2.2.2.2.1,a.2.2.2.2.2.2.2.2):=rfl
theorem aqm(R:bl)(I:aa):I8 R I=ay (zo R I) λa=>fixF (yk (λo=>bif(!(decide (o=([38,38]:H)))) then(!(decide (o=([124,124]:H)))) else false) 2 (zo R)) bB a:=rfl
theorem GV{tst:H->Bool}{w:Int}{cB:aa->Option aa}{x:aa}(h:x.2.2.2.2.1≠0):fixF (yk tst w cB) bB x=some x:=by
 obtain⟨m,hm⟩:∃m,bB=m+1:=⟨bB-1,by rw[gM]⟩
 simp_all[fx,yk]
theorem acH{tst:H->Bool}{w:Int}{cB:aa->Option aa}(ds:ag)(b:e.S.length<=1000000)(c:tst []=true):fixF (yk tst w cB) bB (e.tt ds)=some (e.tt ds):=by
 obtain⟨m,hm⟩:∃m,bB=m+1:=⟨bB-1,by rw[gM]⟩
 rw[hm,fx];unfold yk;have a:(e.tt ds).2.2.2.2.1=0:=rfl;rw[a,DF,aS rfl];have d:((e.tt ds).1,(e.tt ds).2.1,(e.tt ds).2.2.1,(e.tt ds).2.2.2.1,(e.tt ds).2.2.2.2.1,(e.tt ds).2.2.2.2.2.1,(e.tt ds).2.2.2.2.2.2.1,(e.tt ds).2.2.2.2.2.2.2.1,(e.tt ds).2.2.2.2.2.2.2.2)=e.tt ds:=rfl;simp_all[OG,GC,aS]
theorem VB:([33]:H)≠[]/\([33]:H).all gW=true:=by decide
theorem Kj(n:Nat):∀l,j0 true n=some l->uj l:=by
 intro l h;cases n with
 |zero=>cases h
 |succ m=>cases h;simp[rW]
theorem aqn(n:Nat):∀l,j0 true n=some l->zM l:=by
 intro l h;cases n with
 |zero=>cases h
 |succ m=>cases h;simp[tk]
section
variable(hp:∀k m,n=m+1+k->ll R m/\ph R m)(hD:ll R n)(af:n<=30)(bj:e.ne=30- (n:Int))
include hp hD af bj
theorem acI:Vy e (fA true (j0 true n) (a9 true n)) (uf R) where
 im:=λh b=>acE hp hD af bj h b
 tt:=λh c=>Vx h c
 sfx:=by intro r F a r' d hm;exact(ae.command (λl aw=>Kj n l aw) (mO true n)).sfx hm
 pb:=by grind[Gm,aK.command,aqn]
theorem aqo{st:aa}(h:cJ e r F)(b:gJ e r F st):bR true e r (oW qC 1 (fA true (j0 true n) (a9 true n)) r F) (λst=>st) (λ_ _ _=>True) (OJ R st):=by
 refine acF (acI hp hD af bj) (λt a=>?_) (λr a=>?_) rfl h b
 ·exact⟨[124],KO a,rfl,by decide,rfl⟩
 ·have:bt r=[124]:=by grind
  exact decide_eq_true ((mQ (by simp)).2 this)
theorem aqp{c:H}(d:cJ e c F)(g:c=[]->al=false)(k:c<:+r)(z:bg c=some c):bR true e r (N (if cm (ar c) [33] then bV 1 else aU ()) (λ_=>N (fA true (j0 true n) (a9 true n)) λ_=>oW qC 1 (fA true (j0 true n) (a9 true n))) c F) (λst=>st) (λ_ _ _=>True) (Ki R (e.st c F al)):=by
 unfold Ki;rw[wW d,aS rfl];have l:=d.nl.iT d.sfx
 have m:∀{v:H}{al:Bool},cJ e v F->(v=[]->al=false)->v<:+r->bR true e r (N (fA true (j0 true n) (a9 true n)) (λ_=>oW qC 1 (fA true (j0 true n) (a9 true n))) v F) (λst=>st) (λ_ _ _=>True) (ay (uf R (e.st v F al)) λo=>OJ R o):=by
  intro v al h g p;refine bR.je (C:=λx=>x) dg.id ((acE hp hD af bj h ⟨al,rfl,g⟩).mono p) (λa an A b B s1 q s _=>?_) (λop nd ds b _ f=>?_) (λb i=>?_)
  ·exact(aqo hp hD af bj q s).mono s1
  ·rcases f with f|⟨_,rfl,t⟩
   ·exact⟨b,GV (by omega),.inl f⟩
   ·subst t;exact⟨_,acH ds h.b4 rfl,.inr ⟨rfl,rfl,rfl⟩⟩
  ·exact⟨b,GV (by rw[i.1];decide),i⟩
 by_cases aB:jG c=[33]
 ·have u:=(sD l VB.1 VB.2).1 aB;simp only[aB,bz,aO];rw[ba (by grind[cm])];obtain⟨v,rfl⟩:=(q8 u).1;have j:v<:+[33]++v:=gq _ v;rw[aJ (show bV 1 ([33]++v) F= .ok () v F from rfl)];have w:setAt (e.st ([33]++v) F al) (W ((e.st ([33]++v) F al).2.1+1))=e.st v F al:=ts d 1 rfl;rw[w];exact m (d.mono j) (λy=>absurd y (d.uD (by simp) (by decide))) (j.trans k)
 ·have bh:cm (ar c) [33]=false:=by grind[JY,VB]
  simp only[aB,bG,aY];rw[aM (by grind),J6];grind
theorem acJ{st:aa}(h:cJ e r F)(b:gJ e r F st):bR true e r (fv (fA true (j0 true n) (a9 true n)) r F) (λst=>st) (λ_ _ _=>True) (zo R st):=by
 rw[DX,acG];obtain⟨y,g,c⟩:=yh h b;rw[g,aS rfl,GU c b];rcases c with⟨j,al,a,rfl,k,l,m,p⟩|⟨a,rfl⟩
 ·rw[aJ (bL a)];grind[aqp]
 ·rw[dx (op:=[]) (by rw[jC a];rfl)];unfold Ki;rw[U8 h,aS rfl];simp only[reduceCtorEq,bG,aY];have q:=h.kk;obtain⟨d,i,f⟩:=Vx (R:=R) (F:=F) h (by omega);rw[i,aS rfl];have:=GV (tst:=λo=> !(decide (o=([124]:H)))) (w:=1) (cB:=uf R) (x:=d) (by rw[f.1];decide);exact⟨d,this,f.s⟩
theorem aqq{c:ag}(h:cJ e r c)(d:eA F<=100*e.S.length+800):∃a,zo R (e.tt F)=some a/\oU e r (b8 [] F [120]).1 (b8 [] F [120]).2 a:=by rw[acG,DF,aS rfl];have f:((e.tt F).1,(e.tt F).2.1,(e.tt F).2.2.1,(e.tt F).2.2.2.1,(e.tt F).2.2.2.2.1,(e.tt F).2.2.2.2.2.1,(e.tt F).2.2.2.2.2.2.1,(e.tt F).2.2.2.2.2.2.2.1,(e.tt F).2.2.2.2.2.2.2.2)=e.tt F:=rfl;rw[f];unfold Ki;rw[U8 h,aS rfl];simp only[reduceCtorEq,bG,aY];obtain⟨a,g,b⟩:=Vx (R:=R) (F:=F) h d;rw[g,aS rfl];have:=GV (tst:=λo=> !(decide (o=([124]:H)))) (w:=1) (cB:=uf R) (x:=a) (by rw[b.1];decide);exact⟨a,this,b⟩
theorem acK:Vy e (fv (fA true (j0 true n) (a9 true n))) (zo R) where
 im:=λh b=>acJ hp hD af bj h b
 tt:=λh c=>aqq hp hD af bj h c
 sfx:=by intro r F a r' d hm;exact(ae.pipe (ae.command (λl aw=>Kj n l aw) (mO true n))).sfx hm
 pb:=aK.pipe (acI hp hD af bj).pb
theorem aqr{st:aa}(h:cJ e r F)(g:gJ e r F st):bR true e r (hR (fv (fA true (j0 true n) (a9 true n))) r F) (λst=>st) (λ_ _ _=>True) (I8 R st):=by
 rw[OI,aqm];refine bR.je (C:=λx=>x) dg.id (acJ hp hD af bj h g) (λa an l b m s1 i j _=>?_) (λop nd ds b _ c=>?_) (λb d=>?_)
 ·refine(acF (acK hp hD af bj) (λt f=>?_) (λr f=>?_) rfl i j).mono s1
  ·unfold pV at f;grind
  ·unfold pV;rw[yx];grind[mQ]
 ·rcases c with c|⟨_,rfl,k⟩
  ·exact⟨b,GV (by omega),.inl c⟩
  ·subst k;exact⟨_,acH ds h.b4 rfl,.inr ⟨rfl,rfl,rfl⟩⟩
 ·exact⟨b,GV (by rw[d.1];decide),d⟩
end
noncomputable def w3(a:Bool):Int×aa->Option (Int×aa):=λy=>
 (bif(bif a then(decide (y.1=0)) else false) then(ay (g_ y.2 ([]) ([120]:H)) λ(b:aa)=>some (y.1,b)) else some y)
noncomputable def VC(a:H)(k:Int×aa->Option (Int×aa))(oX:Int):aa->Option (Int×aa):=λx=>
 (ay (iz x) λ(c:H)=>(ay (g9 x) λ(d:Bool)=>(c1 (d=false) (jn x) (0:UInt8) λ(e:UInt8)=>(bif(bif(bif d then true else(decide ((e.toNat:Int)=(10:Int)))) then true else(bif(decide (c=a)) then(!(decide (a=[]))) else false)) then k ((W (oX+1)),x) else(bif(bif(!(decide (c=([59]:H)))) then(!(decide (c=([38]:H)))) else false) then(ay (ih x x.2.1) λ(b:aa)=>some ((W (oX+1)),(b.1,b.2.1,b.2.2.1,x.2.2.2.1,b.2.2.2.2.1,b.2.2.2.2.2.1,b.2.2.2.2.2.2.1,x.2.2.2.2.2.2.2.1,b.2.2.2.2.2.2.2.2))) else k ((W (oX+1)),setAt x (W (x.2.1+1))))))))
noncomputable def acL(R:bl)(b:H)(k:Int×aa->Option (Int×aa))(oX:Int):aa->Option (Int×aa):=λx=>
 (ay (I8 R x) λ(c:aa)=>(bif(!(decide (c.2.2.2.2.1=0))) then some ((W (oX+1)),c) else(ay (h1 c) λ(a:aa)=>VC b k oX (a.1,a.2.1,a.2.2.1,c.2.2.2.1,a.2.2.2.2.1,a.2.2.2.2.2.1,a.2.2.2.2.2.2.1,c.2.2.2.2.2.2.2.1,a.2.2.2.2.2.2.2.2))))
noncomputable def OK(R:bl)(a:H)(b:bs)(c:Bool)(j k:Int×aa->Option (Int×aa))(oX:Int):aa->Option (Int×aa):=λx=>
 (ay (g9 x) λ(f:Bool)=>(bif f then(bif(!(decide (a=[]))) then(ay (h2 x ([])) λ(g:aa)=>j (oX,g)) else j (oX,x)) else(ay (jn x) λ(h:UInt8)=>(bif(decide ((h.toNat:Int)=(10:Int))) then(ay (CY x) λ(i:aa)=>k (oX,i)) else(ay (iz x) λ(d:H)=>(ay (mA x) λ(e:H)=>(c1 ((decide (0<oX))=true/\(bif(bif(decide (d=a)) then(!(decide (a=[]))) else false) then(bif(decide (0<oX)) then true else(!c)) else false)=false) (AW e b) false λ(l:Bool)=>(bif(bif(bif(bif(bif(decide (d=a)) then(!(decide (a=[]))) else false) then(bif(decide (0<oX)) then true else(!c)) else false) then true else(bif(decide (0<oX)) then l else false)) then true else(bif(decide (a=([59,59]:H))) then(decide (e=([101,115,97,99]:H))) else false)) then some (oX,x) else acL R a k oX x))))))))
theorem VD(R:bl)(b:H)(a:bs)(d:Bool)(j k:Int×aa->Option (Int×aa))(oX:Int)(x:aa):A7 R b a d j k (oX,x)=(bif(decide (x.2.2.2.2.1=0)) then
 (ay (h1 x) λ(c:aa)=>OK R b a d j k oX (c.1,c.2.1,c.2.2.1,x.2.2.2.1,c.2.2.2.2.1,c.2.2.2.2.2.1,c.2.2.2.2.2.2.1,x.2.2.2.2.2.2.2.1,c.2.2.2.2.2.2.2.2)) else j (oX,x)):=rfl
theorem aqs(R:bl)(I:aa)(b:H)(a:bs)(c:Bool):FM R I b a c=fixF (A7 R b a c (w3 c)) bB (0,I):=rfl
def uF(c:Ctx)(no:Bool):Bool:=ya c no||(decide (c= .text)&&no)
theorem acM(r:H):bt r≠[119]:=by
 intro h;have M:(l2.find? λo=>o.isPrefixOf r)=some [119]\/¬(l2.find? λo=>o.isPrefixOf r)=some [119]:=Classical.em _;rcases M with M|M
 ·have:=List.mem_of_find?_eq_some M;revert this;decide
 ·unfold bt at h;cases U:(l2.find? λo=>o.isPrefixOf r) with
  |none=>grind
  |some o=>grind
theorem aqt(aq:uF c no=true)(g:cx r)(Z:r≠[])(n:Nat)(a:Bool)(h:a=(if((decide (0<(n:Int)))=true/\(bif(bif(decide (bt r=j1 c)) then(!(decide (j1 c=[]))) else false) then(bif(decide (0<(n:Int))) then true else(!(!no))) else false)=false) then(pR c).contains (jG r) else false)):
  (bif(bif(bif(bif(decide (bt r=j1 c)) then(!(decide (j1 c=[]))) else false) then(bif(decide (0<(n:Int))) then true else(!(!no))) else false) then true else(bif(decide (0<(n:Int))) then a else false)) then true else(bif(decide (j1 c=([59,59]:H))) then(decide (jG r=([101,115,97,99]:H))) else false))=((no||decide (n>0))&&dC c (ar r)):=by
 have af:decide (0<(n:Int))=decide (n>0):=by simp
 rw[af] at h⊢;subst h
 have e:∀i,j1 i=[119]->decide (bt r=j1 i)=false:=by grind[acM]
 have j:decide (([119]:H)=[59,59])=false:=by decide
 have k:∀{w:H},w≠[]->w.all gW=true->(jG r=w↔ar r= .word w true):=λM U=>sD g M U
 have d:∀{w:H},w≠[]->w.all gW=true->cm (ar r) w=decide (jG r=w):=λM U=>(JY g M U).symm
 have f:∀{o:H},o≠[]->(ar r== .op o)=decide (bt r=o):=by grind[mQ]
 cases c with
 |text=>grind[dC,jd,j1,pR]
 |paren=>have:dC .paren (ar r)=decide (bt r=[41]):=f (by simp);grind[j1,pR]
 |item=>
  have b:no=true:=by grind[uF,ya]
  subst b;have:dC .item (ar r)=(decide (bt r=[59,59])||decide (jG r=dt)):=by show(ar r== .op [59,59]||cm (ar r) dt)=_;grind[J_]
  grind[j1,pR,dt]
 |pK=>
  have b:no=false:=by grind[uF,ya]
  subst b;have:dC .pK (ar r)=decide (jG r=[125]):=d Ox.1 Ox.2;rw[this,e _ rfl];grind[j1,pR]
 |rT=>
  have b:no=false:=by grind[uF,ya]
  subst b;have:dC .rT (ar r)=decide (jG r=hQ):=d Ow.1 Ow.2;rw[this,e _ rfl];grind[j1,pR]
 |pL=>
  have b:no=false:=by grind[uF,ya]
  subst b;have:dC .pL (ar r)=(decide (jG r=h_)||decide (jG r=gy)||decide (jG r=ea)):=by show(cm (ar r) h_||cm (ar r) gy||cm (ar r) ea)=_;grind[Vi,Vh,DR]
  rw[this,e _ rfl];grind[j1,pR]
 |ko=>
  have b:no=false:=by grind[uF,ya]
  subst b;have:dC .ko (ar r)=decide (jG r=ea):=d DR.1 DR.2;rw[this,e _ rfl];grind[j1,pR]
 |pa=>
  have b:no=false:=by grind[uF,ya]
  subst b;have:dC .pa (ar r)=decide (jG r=gd):=d wZ.1 wZ.2;rw[this,e _ rfl];grind[j1,pR]
 |done=>
  have b:no=false:=by grind[uF,ya]
  subst b;have:dC .done (ar r)=decide (jG r=hc):=d GJ.1 GJ.2;rw[this,e _ rfl];grind[j1,pR]
theorem aqv(aq:uF c no=true)(d:cx r){o:H}(a:ar r= .op o):(bif(decide (bt r=j1 c)) then(!(decide (j1 c=[]))) else false)=dC c (.op o):=by
 have b:=(ib a).1;have bj:=(ib a).2.2.2;subst b;cases c with
 |text=>simp[j1,dC]
 |paren=>grind[j1,dC]
 |item=>grind[j1,dC,cm]
 |_=>simp[j1,dC,cm,acM]
theorem aqw(h:bt r=[]):(bif(decide (bt r=j1 c)) then(!(decide (j1 c=[]))) else false)=false:=by grind
def uG(cX:ab Unit)(c:Ctx)(no:Bool)(n:Nat):ab Nat:=N (cQ.aG (if no||n>0 then [] else [120])) λ_=>cD (fw cX c no) n
theorem OM(Y:bg r=some an)(a:ar an≠ .line):uG cX c no n r F=cD (fw cX c no) n an F:=by unfold uG;rw[aJ (qA (oe Y a))]
theorem aqx(Y:bg r=none):uG cX c no n r F= .more [] (b8 [] F (if no||n>0 then [] else [120])).1 (b8 [] F (if no||n>0 then [] else [120])).2:=by
 unfold uG;have:cQ r F= .more [] [] F:=by rw[uo,cL];have:iB false r F= .more [] (b8 [] F []).1 (b8 [] F []).2:=dx (jC Y);rw[this];rfl
 grind[dx,tr]
theorem aqy(Y:bg r=some (10::t)):(∃a b r' d,cQ r F= .ok a r' d/\N kh (λ_=>cQ) (10::t) F= .ok b r' d)\/cQ r F=N kh (λ_=>cQ) (10::t) F:=by
 have M:cQ r F=dc iB r (N kh (λ_=>aU (.inl true)) (10::t) F):=by rw[uo,cL,xS Y]
 have f:=(eV Y).length_le;cases hm:kh (10::t) F with
 |ok a an c=>
  obtain⟨U,_⟩:=UH hm;have aw:an.length<r.length:=by grind
  rw[M,aJ hm,aJ hm];have e:dc iB r (aU (.inl true) an c)=cD iB true an c:=by show(if an.length<r.length then cD iB true an c else _)=_;grind
  rw[e,uo];rcases amn an.length true an c (cS _) with⟨r',d,⟨x,g⟩,y,i⟩|h
  ·grind
  grind
 |more op nd ds=>right;rw[M,dx hm,dx hm];rfl
 |bad q=>right;rw[M,hS hm,hS hm];rfl
 |deep q=>right;rw[M,km hm,km hm];rfl
theorem aqz(Y:bg r=some (10::t)):uG cX c no n r F=N (kh.aG (if no||n>0 then [] else [120])) (λ_=>uG cX c no n) (10::t) F:=by
 have az:N (kh.aG (if no||n>0 then [] else [120])) (λ_=>uG cX c no n)=N ((N kh (λ_=>cQ)).aG (if no||n>0 then [] else [120])) (λ_=>cD (fw cX c no) n):=by rw[J5,lg];rfl
 rw[az];unfold uG;grind[aqy,N,ab.aG]
theorem aqA(cX:ab Unit)(c:Ctx)(no:Bool):np cX c no=uG cX c no 0:=by simp[td,uG]
theorem acN{k:Nat}{b:ag}{a:Unit}(az:0<k)(Z:r≠[])(h:bV k r F= .ok a an b):an.length<r.length:=by cases h;grind[List.length_pos_iff]
theorem aqB{l:dD}(aw:uj l){a:Unit}{b:ag}(aq:fJ (ar r)=true)(h:hd l (ar r) r F= .ok a r' b):r'.length<r.length:=by
 have Z:r≠[]:=by rintro rfl;grind[ar,fJ]
 cases c:ar r with
 |eof=>rw[c] at h;cases h
 |line=>rw[c] at h;cases h
 |op o=>rw[c] at h;have d:N (bV 1) (λ_=>N ((l.ls .paren false).aG [41]) λ_=>jr [41]) r F= .ok a r' b:=h;obtain⟨_,an,f,M,U⟩:=bW d;have e:ae (N ((l.ls .paren false).aG [41]) λ_=>jr [41]):=((aw.ls _ _).aG _).N λ_=>ae.op _;have:=(e.sfx U).length_le;have:=acN (by decide) Z M;omega
 |word w p=>
  rw[c] at h aq;have g:w≠[]:=by rintro rfl;cases p<;>simp[fJ] at aq;revert aq;decide
  have d:N (bV w.length) (λ_=>zY l w) r F= .ok a r' b:=h;obtain⟨_,an,f,M,U⟩:=bW d;have e:ae (zY l w):=by unfold zY;refine ae.ite (((aw.ls _ _).aG _).N λ_=>ae.res _) (ae.ite (ae.cond aw) (ae.ite (ae.for_ aw aw.dl) (ae.ite (ae.vz aw aw.dl) (((aw.ls _ _).aG _).N λ_=>ae.body aw _))))
  have i:zY l w an f= .ok a r' b:=U;have:=(e.sfx i).length_le;have:=acN (Px.2 g) Z M;omega
theorem aqC{a:Unit}{v:ag}(h:fA true (j0 true n) (a9 true n) r F= .ok a r' v):r'.length<r.length:=by
 have hD:=mO true n;have kB:=Kj n;unfold fA at h;obtain⟨t,an,j,M,U⟩:=bW h;obtain⟨q,rfl,rfl⟩:=nr M;have G:=(eV q).length_le;split at U
 ·cases U
 ·rename_i bj;split at U
  ·rename_i aq;obtain⟨_,f,g,d,c⟩:=bW U;have av:=((ae.l4 hD).sfx c).length_le;cases n with
   |zero=>cases d
   |succ m=>
    have s:((hd (aW true m) (ar an)).named (mM (ar an))) an j= .ok () f g:=d;have i:hd (aW true m) (ar an) an j= .ok () f g:=by grind[ab.named]
    have:=aqB (rW true m) aq i;omega
  ·have I:an≠[]:=λx=>bj (jd.2 x);have k:bg an=some an:=lz _ _ _ (cS _) q;cases e:ar an with
   |eof=>grind
   |line=>rw[e] at U;cases U
   |op o=>
    rw[e] at U;simp only at U;split at U
    ·rename_i y;obtain⟨b,f,g,d,c⟩:=bW U;have av:=((ae.simple hD true).sfx c).length_le;have z:=(ib e).1;subst z;have A:=Kg k (by grind[N7]) d;subst A;have:=tc hD d;omega
    ·cases U
   |word w p=>
    rw[e] at U;simp only at U;split at U
    ·cases U
    ·obtain⟨b,f,g,d,c⟩:=bW U;cases b with
     |true=>simp only[c9] at c;have av:=((ae.simple hD true).sfx c).length_le;have:=tc hD d;omega
     |false=>
      simp only[fR,cZ] at c;have B:f=an/\g=j:=by
       cases y:fm (bt (an.dropWhile cd)) with
       |true=>grind[Kg]
       |false=>simp_all[ti]
      obtain⟨rfl,rfl⟩:=B;obtain⟨_,J,K,s,i⟩:=bW c;have a3:=wJ hD (zJ k e).1 (zJ k e).2 s;split at i
      ·obtain⟨t,L,N,C,l⟩:=bW i;obtain⟨D,rfl,rfl⟩:=nr C;have O:=(eV D).length_le;split at l
       ·rename_i P;obtain⟨_,Q,R,E,u⟩:=bW l;have S:=((ae.function (fr:=true) kB).sfx E).length_le;simp only[c9] at u;cases u;omega
       ·have:=((ae.simple hD true).sfx l).length_le;omega
      ·have:=((ae.simple hD true).sfx i).length_le;omega
theorem aqD(hf:∀s r F x r' c,f s r F= .ok x r' c->r'.length<=r.length):∀(bF:Nat)(s:σ)(r:H)(F:ag)(a:α)(r':H)(c:ag),r.length<=bF->cD f s r F= .ok a r' c->r'.length<=r.length:=by
 intro bF;induction bF with
 |zero=>
  intro s r F a r' c af h;rw[cL] at h;cases hm:f s r F with
  |ok x an d=>
   rw[hm] at h;have:=hf _ _ _ _ _ _ hm;cases x with
   |inl s'=>simp_all[dc]
   |inr b=>cases h;omega
  |more op nd ds=>rw[hm] at h;cases h
  |bad q=>rw[hm] at h;cases h
  |deep q=>rw[hm] at h;cases h
 |succ bF e=>
  intro s r F a r' c af h;rw[cL] at h;cases hm:f s r F with
  |ok x an d=>
   rw[hm] at h;have:=hf _ _ _ _ _ _ hm;cases x with
   |inl s'=>unfold dc at h;grind
   |inr b=>cases h;omega
  |more op nd ds=>rw[hm] at h;cases h
  |bad q=>rw[hm] at h;cases h
  |deep q=>rw[hm] at h;cases h
theorem acO{p:Tok->Bool}{w:Nat}{c2:ab Unit}(c:ae c2){a:Unit}{b:ag}(h:oW p w c2 r F= .ok a r' b):r'.length<=r.length:=by unfold oW at h;refine aqD (λs r F x r' b h=>?_) _ _ _ _ _ _ _ (cS _) h;have M:ae (N (bN []) λt=>if p t=true then N (bV w) λ_=>N (cQ.aG [120]) λ_=>N c2 λ_=>(aU (.inl ()):ab (Unit⊕Unit)) else aU (.inr ())):=(ae.c4 _).N λt=>ae.ite ((ae.cM _).N λ_=>(ae.lines.aG _).N λ_=>c.N λ_=>ae.ret _) (ae.ret _);exact(M.sfx h).length_le
theorem aqE{a:Unit}{c:ag}(h:fv (fA true (j0 true n) (a9 true n)) r F= .ok a r' c):r'.length<r.length:=by
 rw[DX] at h;have d:ae (fA true (j0 true n) (a9 true n)):=ae.command (λl aw=>Kj n l aw) (mO true n);obtain⟨t,an,k,M,U⟩:=bW h;obtain⟨e,rfl,rfl⟩:=nr M;have m:=(eV e).length_le;obtain⟨_,f,o,b,g⟩:=bW U;have av:f.length<=an.length:=by
  split at b
  ·cases b;simp
  ·cases b;omega
 obtain⟨_,p,q,i,j⟩:=bW g;have a3:=aqC i;have s:=acO d j;omega
theorem aqF{a:Unit}{b:ag}(h:hR (fv (fA true (j0 true n) (a9 true n))) r F= .ok a r' b):r'.length<r.length:=by rw[OI] at h;have c:ae (fv (fA true (j0 true n) (a9 true n))):=ae.pipe (ae.command (λl aw=>Kj n l aw) (mO true n));obtain⟨_,f,g,d,e⟩:=bW h;have a3:=aqE d;have i:=acO c e;omega
def uH(no:Bool)(k:Nat):H:=if no||k>0 then [] else [120]
theorem ON{k:Nat}(st:aa):w3 (!no) ((k:Int),st)=if no||k>0 then some ((k:Int),st) else ay (g_ st [] [120]) λy=>some ((k:Int),y):=by unfold w3;grind
theorem VE{nd:H}{st:aa}{a:ag}{k:Nat}{q:Bool}(h0:cJ e r a)(hm:jh false e r nd ds st)(h:r<:+r0)(c:nd.length+eA ds<=100*e.S.length+500):∃b,w3 (!no) ((k:Int),st)=some b/\jh q e r0 (b8 nd ds (uH no k)).1 (b8 nd ds (uH no k)).2 b.2:=by
 rw[ON];unfold uH;split
 ·exact⟨_,rfl,(hm.mono h).up⟩
 ·obtain⟨d,f,g⟩:=GK (q:=q) (x:=[120]) h0 hm h c (by decide);simp_all[aS]
theorem acP{st:aa}{k:Nat}(hm:js e r st):w3 (!no) ((k:Int),st)=some ((k:Int),st):=by
 rw[ON];split
 ·rfl
 ·rw[sG hm];rfl
section
variable(hp:∀k m,n=m+1+k->ll R m/\ph R m)(hD:ll R n)(af:n<=30)(bj:e.ne=30- (n:Int))(aq:uF c no=true)
noncomputable abbrev OO(R:bl)(c:Ctx)(no:Bool):(Int×aa->Option (Int×aa))->Int×aa->Option (Int×aa):=A7 R (j1 c) (pR c) (!no) (w3 (!no))
abbrev vL(n:Nat):ab Unit:=hR (fv (fA true (j0 true n) (a9 true n)))
include aq
theorem acQ(h:c= .text):no=true:=by grind[uF,ya]
theorem acR{k:Int×aa->Option (Int×aa)}{d:ag}(h:cJ e r d)(j:eA F<=100*e.S.length+400):∃b,OK R (j1 c) (pR c) (!no) (w3 (!no)) k (m:Int) (e.tt F)=some b/\jh (decide (c= .text)) e r (b8 [] F (uH no m)).1 (b8 [] F (uH no m)).2 b.2:=by
 unfold OK;rw[pS,aS rfl];simp only[aO];by_cases a:c= .text
 ·have f:=acQ aq a;subst a f;have az:decide (j1 .text=[])=true:=rfl;rw[az,ON];exact⟨((m:Int),e.tt F),rfl,.inr ⟨rfl,rfl,rfl⟩⟩
 ·have az:decide (j1 c=[])=false:=by cases c<;>first|rfl|grind
  rw[az,e3 a];simp only[fp,aO];obtain⟨l,g,i⟩:=GN (F:=F) (x:=[]) h (by omega) (by simp);rw[g,aS rfl];exact VE h i.s gr (by grind)
theorem aqG{bF:Nat}{a:ag}(i:0<bF)(h:cJ e r a)(d:eA F<=100*e.S.length+400):∃b,fixF (OO R c no) bF ((m:Int),e.tt F)=some b/\jh (decide (c= .text)) e r (b8 [] F (uH no m)).1 (b8 [] F (uH no m)).2 b.2:=by
 obtain⟨f,rfl⟩:∃m,bF=m+1:=⟨bF-1,by omega⟩
 rw[fx];show∃b,A7 R (j1 c) (pR c) (!no) (w3 (!no)) _ ((m:Int),e.tt F)=some b/\_
 rw[VD];have g:(e.tt F).2.2.2.2.1=0:=rfl;rw[g,DF,aS rfl];simp only[bz,aO];exact acR aq h d
theorem aqI{bF:Nat}{m:Int}{st:aa}(b:0<bF)(h:st.2.2.2.2.1≠0):fixF (OO R c no) bF (m,st)=w3 (!no) (m,st):=by
 obtain⟨a,rfl⟩:∃m,bF=m+1:=⟨bF-1,by omega⟩
 rw[fx];show A7 R (j1 c) (pR c) (!no) (w3 (!no)) _ (m,st)=_;simp_all[VD]
include hp hD af bj
theorem aqJ:∀(bF m:Nat)(r:H)(F:ag)(st:aa),r.length+1<bF->m+r.length<=1000001->cJ e r F->gJ e r F st->bR (decide (c= .text)) e r (uG (vL n) c no m r F) (λb=>b.2) (λa _ b=>b.1=(a:Int)) (fixF (OO R c no) bF ((m:Int),st)):=by
 intro bF;induction bF with
 |zero=>omega
 |succ bF V=>
  intro m r F st eG hm D E;have M:0<bF:=by omega
  rw[fx];have DZ:∀(m:Nat)(r:H)(gU F:ag),cJ e r gU->eA F<=100*e.S.length+400->_:=λm r gU F h Y=>aqG (R:=R) (bF:=bF) (m:=m) aq M h Y
  have b0:∀(m:Int)(st:aa),st.2.2.2.2.1≠0->_:=λm st h=>aqI (R:=R) (bF:=bF) (m:=m) aq M h
  generalize fixF (OO R c no) bF=k at V DZ b0;show bR _ e r _ _ _ (A7 R (j1 c) (pR c) (!no) (w3 (!no)) k ((m:Int),st));rw[VD,E.eta.2.2.2.2.1];simp only[bz,aO];obtain⟨y,u4,bw⟩:=yh D E;rw[u4,aS rfl,GU bw E];rcases bw with⟨aF,al,O,rfl,hL,i,z,iM⟩|⟨O,rfl⟩
  ·have Bx:=z.length_le;unfold OK;rw[rk,aS rfl,GB i];by_cases Z:aF=[]
   ·subst Z;simp only[bz,aO];rw[OM O (by decide)];rw[cL];by_cases ao:c= .text
    ·have ks:=acQ aq ao;subst ao ks;have az:decide (j1 .text=[])=true:=rfl;have P:fw (vL n) .text true m [] F= .ok (.inr m) [] F:=by unfold fw;rw[aJ (bL iM)];rfl
     rw[az,ON,P];exact⟨_,rfl,z,i,⟨al,rfl,hL⟩,rfl⟩
    ·have az:decide (j1 c=[])=false:=by cases c<;>first|rfl|grind
     have P:fw (vL n) c no m [] F= .more [] (b8 [] F (uH no m)).1 (b8 [] F (uH no m)).2:=by unfold fw;rw[aJ (bL iM),ba (by decide),aM ao];rfl
     rw[az,P];simp only[fp,aO];obtain⟨aL,a2,bc⟩:=vH (al:=al) (x:=[]) i (by decide);rw[a2,aS rfl];have:=i.kk;obtain⟨b,A,p⟩:=VE (no:=no) (k:=m) (q:=decide (c= .text)) i bc.s z (by show([]:H).length+eA F<=_;omega);exact⟨b,A,p⟩
   ·rw[e3 Z];simp only[aY];rw[aS rfl];have qw:ar aF≠ .eof:=λhh=>Z (jd.1 hh);have dN:=i.nl.iT i.sfx;cases aF with
    |nil=>grind
    |cons b t=>
     simp only[Aa,qu];by_cases Kh:b=10
     ·
      subst Kh;simp only[bz,aO];rw[aqz O];obtain⟨bP,bu,j⟩:=abw (q:=false) (al:=al) i;rw[bu,aS rfl];have hC:=aK.low (aK.nl (c:=0)) i;cases s:kh (10::t) F with
      |ok a an aD=>rw[s] at j;obtain⟨cH,av,a3,_⟩:=j;rw[aJ (qA s)];have kE:=(UH s).1.length_le;simp only[nB] at Bx;exact(V m an aD bP (by omega) (by omega) av a3).mono (cH.trans z)
      |more op nd ds=>rw[s] at j;rw[dx (tr s),b0 _ _ (by rw[j.z.1];decide)];have Y:=hC _ _ _ s;obtain⟨G,A,p⟩:=VE (no:=no) (k:=m) (q:=decide (c= .text)) i j z (by omega);exact⟨G,A,p⟩
      |bad u=>rw[s] at j;rw[hS (vI s),b0 _ _ (by rw[j.1];decide),acP j];exact⟨_,rfl,j.mono z⟩
      |deep u=>rw[s] at j;rw[km (vJ s),b0 _ _ (by rw[j.1];decide),acP j];exact⟨_,rfl,j.mono z⟩
     ·simp only[Kh,bG,aY];have aqK:ar (b::t)≠ .line:=by rw[x_,aM Kh];grind
      rw[OM O aqK,sF i,aS rfl,wW i,aS rfl,N2 _ _ (by cases c<;>decide),gI,aqt aq dN Z m _ rfl];rw[cL]
      have VF:∀X,(X=fw (vL n) c no m (b::t) F)->X=(if((no||decide (m>0))&&dC c (ar (b::t)))=true then aU (.inr m) else N (vL n) λ_=>N (bN []) (jB c m)) (b::t) F:=by rintro X rfl;unfold fw;rw[aJ (bL iM),aM qw]
      rw[VF _ rfl];cases avw:((no||decide (m>0))&&dC c (ar (b::t))) with
      |true=>simp only[aO,c9];exact⟨_,rfl,z,i,⟨al,rfl,hL⟩,rfl⟩
      |false=>
       simp only[aY,fR,cZ];unfold acL;have Q:W ((m:Int)+1)=((m+1:Nat):Int):=by grind[dO]
       refine bR.je (C:=dc _ (b::t)) dg.k ((aqr hp hD af bj i ⟨al,rfl,hL⟩).mono z) (λa cK d jg bO jf fi zS _=>?_) (λop nd ds jg DM n9=>?_) (λjg kp=>?_)
       ·have fe:=aqF bO;rw[zS.eta.2.2.2.2.1];simp only[bz,hU,aY];obtain⟨kx,aqL,LP⟩:=yh fi zS;rw[aqL,aS rfl,GU LP zS];unfold VC;rw[Q];rcases LP with⟨S,l,fC,rfl,Oo,w,vG,zU⟩|⟨fC,rfl⟩
        ·have avx:=vG.length_le;have K:S<:+r:=vG.trans jf;have oh:S.length<(b::t).length:=by omega
         have L:=V (m+1) S d (e.st S d l) (by omega) (by omega) w ⟨l,rfl,Oo⟩;rw[aJ (bL fC),sF w,aS rfl,rk,aS rfl,GB w];have avy:(no||decide (m+1>0))=true:=by simp
         cases S with
         |nil=>
          simp only[bz,c1,uR,cZ,aO];rw[OM (an:=[]) zU (by decide)] at L;have:dc (fw (vL n) c no) (b::t) (jB c m (ar []) [] d)=cD (fw (vL n) c no) (m+1) [] d:=by rfl
          rw[this];exact L.mono K
         |cons g f=>
          rw[e3 (show¬(g::f=[]) by simp),gI];simp only[c9,aY,Aa,qu]
          have tj:∀(x:H)(OP:ag),x.length<(b::t).length->dc (fw (vL n) c no) (b::t) (N cQ (λ_=>aU (.inl (m+1))) x OP)=uG (vL n) c no (m+1) x OP:=by
           intro x OP E;unfold uG;rw[ba (by simp)];cases B:cQ x OP with
           |ok fh fj mD=>rw[aJ B,aJ (qA B)];have br:=(ae.lines.sfx B).length_le;show(if fj.length<(b::t).length then cD (fw (vL n) c no) (m+1) fj mD else .bad fj)=_;grind
           |more op nd ds=>rw[dx B,dx (tr B)];rfl
           |bad q=>rw[hS B,hS (vI B)];rfl
           |deep q=>rw[km B,km (vJ B)];rfl
          have r6:∀X:dn Nat,X= .bad (g::f)->bR (decide (c= .text)) e r X (λb=>b.2) (λa _ b=>b.1=(a:Int)) (ay (ih (e.st (g::f) d l) (e.st (g::f) d l).2.1) λ(I:aa)=>
            some (((m+1:Nat):Int),(I.1,I.2.1,I.2.2.1,(e.st (g::f) d l).2.2.2.1,I.2.2.2.2.1,I.2.2.2.2.2.1,I.2.2.2.2.2.2.1,(e.st (g::f) d l).2.2.2.2.2.2.2.1,I.2.2.2.2.2.2.2.2))):=by
           rintro X rfl;obtain⟨aL,a2,bc⟩:=qz (al:=l) (e.st (g::f) d l).2.1 w K;rw[a2,aS rfl];exact⟨_,rfl,by cases a2;exact bc⟩
          rcases J4 (b:=g) (t:=f) with⟨T,U⟩|⟨T,U,J⟩|⟨T,U,J⟩
          ·subst T;simp only[bz,aO];rw[U];show bR _ e r (dc _ (b::t) (N cQ (λ_=>aU (.inl (m+1))) (10::f) d)) _ _ _;rw[tj _ _ oh];exact L.mono K
          ·simp only[T,bG,aY];rw[aqv aq (w.nl.iT w.sfx) J,J];unfold jB;dsimp only;by_cases mP:bt (g::f)=[59]\/bt (g::f)=[38]
           ·have kC:dC c (.op (bt (g::f)))=false:=by rcases mP with mP|mP<;>rw[mP]<;>cases c<;>rfl
            rw[kC,ba mP];have yP:(bif !decide (bt (g::f)=[59]) then !decide (bt (g::f)=[38]) else false)=false:=by grind
            rw[yP];simp only[aY];have TH:(bt (g::f)).length=1:=by grind
            obtain⟨v,D⟩:=(ib J).2.1;have aqM:=(ib J).2.2.1;have aqN:=(ib J).2.2.2;generalize bt (g::f)=o at*;rw[<-D] at w oh K⊢;have hi:v<:+o++v:=gq o v;have lC:setAt (e.st (o++v) d l) (W ((e.st (o++v) d l).2.1+1))=e.st v d l:=ts w 1 TH;have VA:bV 1 (o++v) d= .ok () v d:=by grind[bV]
            have T0:=hi.length_le;rw[lC,aJ VA,tj _ _ (by omega)];have tl:=w.uD aqN aqM;exact(V (m+1) v d (e.st v d l) (by omega) (by omega) (w.mono hi) ⟨l,rfl,λhh=>absurd hh tl⟩).mono (hi.trans K)
           ·rw[aM mP];have yP:(bif !decide (bt (g::f)=[59]) then !decide (bt (g::f)=[38]) else false)=true:=by grind
            rw[yP];cases kC:dC c (.op (bt (g::f))) with
            |true=>
             simp only[aO,c9];rw[OM zU (by grind),cL] at L;have P:fw (vL n) c no (m+1) (g::f) d= .ok (.inr (m+1)) (g::f) d:=by unfold fw;rw[aJ (bL zU),if_neg (by grind),if_pos (by grind)];rfl
             rw[P] at L;exact L.mono K
            |false=>simp only[cond_false,cond_true,Bool.false_eq_true,if_false];exact r6 _ rfl
          ·simp only[T,decide_false,cond_false];rw[aqw U,J,U];simp only[cond_false];exact r6 _ rfl
        ·rw[dx (op:=[]) (nd:=[]) (ds:=d) (by rw[jC fC];rfl),GC d D.b4,aS rfl,pS,aS rfl];simp only[c1,uR,cZ,aO];have:=fi.kk;obtain⟨G,A,p⟩:=DZ (m+1) cK d d fi (by omega);have E:uH no (m+1)=[]:=by simp[uH]
         rw[E] at p;exact⟨G,A,p.mono jf⟩
       ·rcases n9 with n9|⟨_,rfl,Y⟩
        ·rw[n9.1];simp only[show¬((1:Int)=0) by decide,bG,fp,aO];exact⟨_,rfl,.inl n9⟩
        ·subst Y;have jF:(e.tt ds).2.2.2.2.1=0:=rfl;rw[jF,DF,aS rfl];simp only[bz,hU,aY];have JL:((e.tt ds).1,(e.tt ds).2.1,(e.tt ds).2.2.1,(e.tt ds).2.2.2.1,(e.tt ds).2.2.2.2.1,(e.tt ds).2.2.2.2.2.1,(e.tt ds).2.2.2.2.2.2.1,(e.tt ds).2.2.2.2.2.2.2.1,(e.tt ds).2.2.2.2.2.2.2.2)=e.tt ds:=rfl;rw[JL];unfold VC;rw[GC ds D.b4,aS rfl,pS,aS rfl,Q];simp only[c1,uR,cZ,aO];have uu:=aK.low (aK.oc (acK hp hD af bj).pb) i _ _ _ DM;obtain⟨G,A,p⟩:=DZ (m+1) r F ds D (by omega);have E:uH no (m+1)=[]:=by simp[uH]
         rw[E] at p;exact⟨G,A,p⟩
       ·rw[kp.1];grind
  ·rw[aqx O];have:=D.kk;obtain⟨G,A,p⟩:=acR (R:=R) (m:=m) (k:=k) aq D (F:=F) (by omega);exact⟨G,A,p⟩
end
theorem aqO(n:Nat)(c:Ctx)(no:Bool):(aW true n).ls c no=np (vL n) c no:=by cases n<;>rfl
theorem acU(hp:∀k m,n=m+1+k->ll R m/\ph R m)(hD:ll R n)(af:n<=30)(bj:e.ne=30- (n:Int))(aq:uF c no=true){st:aa}(h:cJ e r F)(d:gJ e r F st):bR (decide (c= .text)) e r ((aW true n).ls c no r F) (λb=>b.2) (λa _ b=>b.1=(a:Int)) (FM R st (j1 c) (pR c) (!no)):=by rw[aqO,aqA,aqs];have M:=h.b4;have U:=h.sfx.length_le;grind[aqJ,wV]
theorem VG:∀(k n:Nat),n<=30->(2*n+1<=k->ll (lv k) n)/\(2*n+2<=k->ph (lv k) n):=by
 intro k;induction k with
 |zero=>omega
 |succ k a=>
  intro n af;refine⟨λh=>⟨λe bj t F al b=>?_⟩,λh=>⟨λe c no aq bj r F st b d=>?_⟩⟩
  ·exact aoG (R:=lv k) (λm hm=>⟨(a m (by omega)).1 (by omega),(a m (by omega)).2 (by omega)⟩) af bj b
  ·have f:decide (c= .text)=false:=e3 (by rintro rfl;cases aq);have:=acU (R:=lv k) (λj m hm=>⟨(a m (by omega)).1 (by omega),(a m (by omega)).2 (by omega)⟩) ((a n af).1 (by omega)) af bj (c:=c) (no:=no) (by grind[uF]) b d;rw[f] at this;exact this
theorem VH(s:H):cx (de s):=by
 unfold de;split
 ·rename_i h;right;rcases List.eq_nil_or_concat s with rfl|⟨t,b,rfl⟩
  ·grind
  grind
 ·exact .inr ⟨s,rfl⟩
theorem OQ(s:H):de s≠[]:=by
 unfold de;split
 ·grind
 ·simp
theorem aqP(s:H)(Y:s.length<=1000000)(b:Bool):(bif b then some s else(a4 (((s.length+([10]:H).length:Nat):Int)<=9223372036854775807)<|some (s++([10]:H))))=some (bif b then s else s++[10]):=by
 cases b with
 |true=>rfl
 |false=>exact(aY _ _).trans (abl s (iV Y))
theorem aqQ(s:H)(Y:s.length<=1000000):Je s=some (de s):=by
 unfold Je;rw[aqP s Y];unfold de;rcases List.eq_nil_or_concat s with rfl|⟨t,b,rfl⟩
 ·decide
 ·rw[List.concat_eq_append] at*;have aw:(t++[b]).length=t.length+1:=by simp
  have a:W (((t++[b]).length:Int)-1)=(t.length:Int):=by grind[dO]
  have c:at' (t++[b]) (t.length:Int)=b:=by simp[at']
  simp only[a,c,qu];rw[b2 (by omega)];simp
def e0(S:H):cn:=⟨S,0⟩
theorem aqR{s:H}(Y:(de s).length<=1000000):bR true (e0 (de s)) (de s) (iA true 30 (de s)) (λb=>b.2) (λa _ b=>b.1=(a:Int)) (s_.oA (de s,0,0,([]:ag),0,0,[],([]:bs),false) ([]) ([]:bs) false):=by
 have az:∃k,bB=k+1/\62<=k:=by
  refine⟨bB-1,?_,?_⟩
  ·rw[gM]
  simp[gM]
 obtain⟨k,az,d⟩:=az;have f:cJ (e0 (de s)) (de s) []:=⟨Y,VH s,OQ s,gr,by simp[e0,eA,fl]⟩;have:=acU (R:=lv k) (n:=30) (e:=e0 (de s)) (λj m hm=>⟨(VG k m (by omega)).1 (by omega),(VG k m (by omega)).2 (by omega)⟩) ((VG k 30 (by omega)).1 (by omega)) (cS _) (show(0:Int)=30- ((30:Nat):Int) by decide) (c:= .text) (no:=true) rfl f (st:=(e0 (de s)).st (de s) [] false) ⟨false,rfl,λh=>absurd h (OQ s)⟩;have g:(e0 (de s)).st (de s) [] false=(de s,0,0,([]:ag),0,0,[],([]:bs),false):=by show(de s,ax (de s) (de s),(0:Int),([]:ag),(0:Int),(0:Int),([]:H),([]:bs),false)=_;rw[Jz]
 rw[g] at this;have i:s_.oA (de s,0,0,([]:ag),0,0,[],([]:bs),false) [] [] false=FM (lv k) (de s,0,0,([]:ag),0,0,[],([]:bs),false) [] [] false:=by unfold s_;rw[az];rfl
 rw[i];exact this
noncomputable def OR(c:Int):aa->Option (aa×Int):=λx=>
 (bif(!(decide (x.2.2.2.2.1=2))) then some ((x.1,x.2.1,x.2.2.1,x.2.2.2.1,x.2.2.2.2.1,(x.1.length:Int),x.2.2.2.2.2.2.1,x.2.2.2.2.2.2.2.1,x.2.2.2.2.2.2.2.2),c) else some ((x.1,x.2.1,x.2.2.1,x.2.2.2.1,x.2.2.2.2.1,x.2.2.2.2.2.1,x.2.2.2.2.2.2.1,x.2.2.2.2.2.2.2.1,x.2.2.2.2.2.2.2.2),c))
noncomputable def GY(c:Int):aa->Option (aa×Int):=λx=>
 (bif(decide (x.2.2.2.2.1=1)) then(ay (xF x ([10]:H)) λ(a:aa)=>OR c a) else OR c x)
theorem aqS(s:H):zt s=(ay (Je s) λ(a:H)=>
 (ay (s_.oA (a,0,0,([]:ag),0,0,[],([]:bs),false) ([]) ([]:bs) false) λy=>
 (bif(bif(decide (y.2.2.2.2.2.1=0)) then(bif y.2.2.2.2.2.2.2.2.2 then true else(decide (0<(y.2.2.2.2.1.length:Int)))) else false) then
 (ay (h2 y.2 ([])) λ(b:aa)=>GY y.1 b) else GY y.1 y.2))):=rfl
theorem acV{nd:H}{st:aa}{c:Int}(m:e.S.length<=1000000)(hm:oU e r nd ds st):∃y,GY c st=some y/\y.1.2.2.2.2.1=1/\y.1.2.2.2.2.2.2.1=(b8 nd ds [10]).1/\y.1.2.2.2.2.2.1=(e.S.length:Int):=by obtain⟨a,b,i,d,vE,f,g,op,al⟩:=st;obtain⟨M,U,j,k,n⟩:=hm;have h:=k.nd;have Y:=k.s;simp only at M U j h Y;subst M U j Y;have o:=uA d;have l:xF (e.S,b,i,d,1,f,g,op,al) [10]=some (e.S,b,i,(b8 g d [10]).2,1,f,(b8 g d [10]).1,op,al):=DG _ _ _ _ _ _ _ _ _ _ (by simp) (by grind) (by omega);unfold GY;simp only[bz,aO];rw[l,aS rfl];exact⟨_,rfl,rfl,rfl,rfl⟩
theorem acW{s:H}(Y:(de s).length<=1000000):match iA true 30 (de s) with
  | .ok a _ _=>∃st,zt s=some (st,(a:Int))/\st.2.2.2.2.1=0/\st.2.2.2.2.2.1=((de s).length:Int)
  | .more _ nd ds=>∃st c,zt s=some (st,c)/\st.2.2.2.2.1=1/\st.2.2.2.2.2.2.1=(b8 nd ds [10]).1/\st.2.2.2.2.2.1=((de s).length:Int)
  |_=>∃st c,zt s=some (st,c)/\st.2.2.2.2.1=2:=by
 have aw:s.length<=(de s).length:=by grind[de]
 have h:=aqR Y;rw[aqS,aqQ s (by omega),aS rfl];have f:=(tk true 30).ls .text true (de s) [];obtain⟨b,o,h⟩:=h;obtain⟨c,st⟩:=b;rw[o,aS rfl];have p:(aW true 30).ls .text true (de s) []=iA true 30 (de s):=rfl;rw[p] at f;cases ah:iA true 30 (de s) with
 |ok a r F=>rw[ah] at h;obtain⟨M,U,⟨al,g,t⟩,n⟩:=h;obtain⟨rfl,rfl⟩:=amf (VH s) (OQ s) ah;dsimp only at g n;have:=t rfl;subst this g n;exact⟨_,rfl,rfl,rfl⟩
 |more op nd ds=>
  rw[ah] at h f;simp only[eu] at f;dsimp only at h⊢;have u:eA ([]:ag)=0:=rfl;rw[u] at f;rcases h with h|⟨_,rfl,g⟩
  ·have d:oU (e0 (de s)) (de s) nd ds st:=h;rw[d.1];simp only[show¬((1:Int)=0) by decide,bG,aY];obtain⟨y,i,j,k,l⟩:=acV (c:=c) (e:=e0 (de s)) Y d;exact⟨y.1,y.2,i,j,k,l⟩
  ·subst g;have v:((e0 (de s)).tt ds).2.2.2.2.1=0:=rfl;have m:((e0 (de s)).tt ds).2.2.2.2.2.2.2.2=true:=rfl;rw[v,m];simp only[bz,aO];have w:cJ (e0 (de s)) (de s) []:=⟨Y,VH s,OQ s,gr,by simp[e0,eA,fl]⟩;obtain⟨B,z,A⟩:=GN (F:=ds) (x:=[]) w (by show _<=100*(de s).length+800;omega) (by simp);rw[z,aS rfl];obtain⟨y,i,j,k,l⟩:=acV (c:=c) (e:=e0 (de s)) Y A;exact⟨y.1,y.2,i,j,k,l⟩
 |bad q=>rw[ah] at h;have d:js (e0 (de s)) (de s) st:=h;dsimp only;rw[d.1];simp only[show¬((2:Int)=0) by decide,bG,aY];unfold GY;rw[d.1];simp only[show¬((2:Int)=1) by decide,bG,aY];unfold OR;rw[d.1];simp
 |deep q=>rw[ah] at h;have d:js (e0 (de s)) (de s) st:=h;dsimp only;rw[d.1];simp only[show¬((2:Int)=0) by decide,bG,aY];unfold GY;rw[d.1];simp only[show¬((2:Int)=1) by decide,bG,aY];unfold OR;rw[d.1];simp
abbrev dQ:=H×Int×Int
structure eK(I:H)(st:dQ):Prop where
 c:st.1=I
 lo:0<=st.2.1
 bh:st.2.1<=I.length
 b4:I.length<=1048576
theorem OS(a:Int):0<=W (((BitVec.ofInt (IntKind.bits .i64) a&&&BitVec.ofInt (IntKind.bits .i64) 255).toNat:Int))/\W (((BitVec.ofInt (IntKind.bits .i64) a&&&BitVec.ofInt (IntKind.bits .i64) 255).toNat:Int))<256:=by
 have h:(BitVec.ofInt (IntKind.bits .i64) a&&&BitVec.ofInt (IntKind.bits .i64) 255).toNat<256:=by grind[BitVec.ofInt,IntKind.bits,Nat.and_le_right]
 grind[dO]
theorem Kl{st:dQ}(h:eK I st):∃v e,zq st=some (v,e)/\0<=v/\v<256/\eK I e:=by
 obtain⟨a,b,c⟩:=st;obtain⟨rfl,M,U,d⟩:=h;simp only at M U d;unfold zq a6;dsimp only;by_cases aw:b<(a.length:Int)
 ·rw[decide_eq_true aw];simp only[aO];rw[b2 ⟨M,aw⟩];have f:W (b+1)=b+1:=dO (by omega) (by omega);rw[f];exact⟨_,_,rfl,(OS _).1,(OS _).2,rfl,by grind,by grind,d⟩
 ·rw[e3 aw];simp only[aY];exact⟨_,_,rfl,(OS _).1,(OS _).2,rfl,M,U,d⟩
theorem tu{st:dQ}(h:eK I st){n:Int}(M:1<=n)(U:n<=256):∃v d,iP st n=some (v,d)/\0<=v/\v<n/\eK I d:=by unfold iP;obtain⟨v,d,f,g,i,e⟩:=Kl h;rw[e3 (show¬n<=0 by omega),decide_eq_true U];simp only[aY,aO];rw[f,aS rfl];dsimp only;rw[b2 (show n≠0 by omega)];refine⟨_,_,rfl,Int.tmod_nonneg _ g,Int.tmod_lt_of_pos _ (by omega),?_⟩;obtain⟨a,b,c⟩:=d;exact⟨h.c,e.lo,e.bh,e.b4⟩
theorem aqU(I:H)(e:I.length<=1048576):∃st,M_ I=some st/\eK I (I,st.2.1,st.2.2):=by
 have aw:∀(bF:Nat)(a b:Int),0<=b->b<=4000->(4000-b)<bF->∃c,fixF (S9 I (λf=>some (I,0,f))) bF (a,b)=some (I,0,c):=by
  intro bF;induction bF with
  |zero=>omega
  |succ bF g=>
   intro a b h0 M h;rw[fx];unfold S9;dsimp only;by_cases d:b<(I.length:Int)/\b<4000
   ·rw[decide_eq_true d.1,decide_eq_true d.2];simp only[aO];rw[b2 ⟨h0,d.1⟩];have i:W (b+1)=b+1:=dO (by omega) (by omega);rw[i];exact g _ _ (by omega) (by omega) (by omega)
   ·have:(bif decide (b<(I.length:Int)) then decide (b<4000) else false)=false:=by grind
    rw[this];simp
 unfold M_ a6;obtain⟨c,aq⟩:=aw bB (W (600128+(I.length:Int))) 0 (by omega) (by omega) (by simp[gM]);exact⟨_,aq,rfl,sH 0,by simp,e⟩
def GZ:bs:=[([97]:H),([98,49]:H),([120,61,49]:H),([102,105,108,101]:H),([195,169]:H),([105,110]:H),([97,35,98]:H)]
def nz:bs:=[[39,113,32,114,39],[34,97,32,98,34],[97,92,32,98],[36,120],[36,40,40,49,43,40,50,41,41,41],[96,99,32,100,96],[45,108],[97,92,10,98]]++GZ
def rl:bs:=[([108,115]:H),([101,99,104,111]:H),([99,97,116]:H),([120,61,49]:H)]
def jt:bs:=[([32,38,38,32]:H),([32,124,124,32]:H),([32,124,32]:H),([59,32]:H),([32,38,32]:H),([10]:H),([32,124,10]:H),([59,32,35,32,114,10]:H)]
def acX(L W:H->Prop)(w:H):Prop:=w∈nz\/(∃t,L t/\(w=[36,40]++t++[41]\/w=[34,120,36,40]++t++[41,34]))\/∃v,W v/\w=[36,123,120,58,45]++v++[125]
def ji(ws:bs):H:=ws.flatMap (λw=>32::w)
def qD(W a:H->Prop)(s:H):Prop:=∃h ws r,h∈rl/\(∀w∈ws,W w)/\s=h++ji ws++r/\(r=[]\/r=[32,50,62,38,49]\/∃w,a w/\r=[32,62]++w)
def tv(L W:H->Prop)(c:H):Prop:=
 (∃t,L t/\c=[40]++t++[41])\/
 (∃t,L t/\c=[123,32]++(t++[10])++[125])\/
 (∃t u,L t/\L u/\c=[105,102,32]++(t++[59])++[32,116,104,101,110,32]++(u++[10])++[102,105])\/
 (∃t u,L t/\L u/\c=[105,102,32,97,59,32,116,104,101,110,10]++(t++[10])++[101,108,105,102,32,98,10,116,104,101,110,32,99,10,101,108,115,101,32]++(u++[59])++[102,105,32,50,62,102])\/
 (∃t u,L t/\L u/\c=[119,104,105,108,101,32]++(t++[10])++[100,111,32]++(u++[59])++[32,100,111,110,101])\/
 (∃w u,W w/\L u/\c=[102,111,114,32,120,32,105,110,32,97,32]++w++[59,32,100,111,32]++(u++[59])++[100,111,110,101])\/
 c=[102,111,114,32,120,10,100,111,32,97,10,100,111,110,101]\/
 (∃w u,W w/\L u/\c=[99,97,115,101,32]++w++[32,105,110,32,97,124,98,41,32]++(u++[])++[59,59,10,40,99,41,32,59,59,32,100,41,32,101,115,97,99])\/
 (∃t,L t/\c=[102,40,41,32,123,10]++(t++[10])++[125,32,62,102])
def cY(l:List (H×H)):H:=l.flatMap (λp=>p.1++p.2)
def r8(C:H->Prop)(t:H):Prop:=∃c rest,C c/\(∀p∈rest,p.1∈jt/\C p.2)/\t=c++cY rest
def BK:Nat->(H->Prop)×(H->Prop)
 |0=>(λw=>w∈nz,r8 (qD (λw=>w∈nz) (λw=>w∈nz)))
 |d+1=>(acX (BK d).2 (BK d).1,r8 λc=>qD (acX (BK d).2 (BK d).1) (λw=>w∈nz) c\/tv (BK d).2 (BK d).1 c)
def gh(d:Nat):H->Prop:=(BK d).1
def gX(d:Nat):H->Prop:=(BK d).2
def z3:Nat->H->Prop
 |0=>qD (gh 0) (gh 0)
 |d+1=>λc=>qD (gh (d+1)) (gh 0) c\/tv (gX d) (gh d) c
theorem OT(d:Nat):gX d=r8 (z3 d):=by cases d<;>rfl
theorem acY{w:H}(h:w∈nz):gh d w:=by
 cases d with
 |zero=>exact h
 |succ d=>exact .inl h
def lens:Nat->Nat×Nat
 |0=>(10,200)
 |d+1=>let w:=(lens d).2+(lens d).1+10;(w,3*(2*(lens d).2+(lens d).1+2*w+80)+20)
def lw(d:Nat):Nat:=(lens d).1
def qE(d:Nat):Nat:=(lens d).2
def lc:Nat->Nat
 |0=>60
 |d+1=>2*qE d+lw d+2*lw (d+1)+80
theorem VI(d:Nat):lw (d+1)=qE d+lw d+10:=rfl
theorem aqV(d:Nat):qE d=3*lc d+20:=by cases d<;>rfl
theorem rm(h:d<=3):lw d<=40000/\qE d<=460000/\lc d<=160000/\10<=lw d:=by
 match d,h with
 |0,_=>decide
 |1,_=>decide
 |2,_=>decide
 |3,_=>decide
def pW(R:bl)(d:Nat):Prop:=∀(I:H)(st:dQ),eK I st->∃t a,R.oB st (d:Int)=some (t,a)/\gh d t/\t.length<=lw d/\eK I a
def D0(R:bl)(d:Nat):Prop:=∀(I:H)(st:dQ)(sfx:H),sfx.length<=1->eK I st->∃t a,R.h8 st (d:Int) sfx=some (t++sfx,a)/\gX d t/\t.length<=qE d/\eK I a
theorem kZ(h:n<=99999999999):((n:Nat):Int)<=9223372036854775807:=by omega
theorem w5(h:d<=3):W (((d+1:Nat):Int)-1)=(d:Int):=by grind[dO]
theorem at_mem{l:bs}{v:Int}(h0:0<=v)(M:v<(l.length:Int)):at' l v∈l:=by grind[at']
theorem acZ:∀w∈nz,w.length<=10:=by decide
theorem eK.st{st:dQ}(h:eK I st):(I,st.2.1,st.2.2)=st:=by rw[<-h.c]
noncomputable def OU(R:bl)(b:Int)(st:dQ)(a:Int):Option (H×dQ):=
 (bif(decide (a=1)) then some (([39,113,32,114,39]:H),st) else(bif(decide (a=2)) then some (([34,97,32,98,34]:H),st) else(bif(decide (a=3)) then some (([97,92,32,98]:H),st) else(bif(decide (a=4)) then some (([36,120]:H),st) else(bif(decide (a=5)) then some (([36,40,40,49,43,40,50,41,41,41]:H),st) else(bif(decide (a=6)) then some (([96,99,32,100,96]:H),st) else(bif(decide (a=7)) then some (([45,108]:H),st) else(bif(decide (a=8)) then(ay (R.h8 st (W (b-1)) ([])) λ(c,g)=>(a4 (((([36,40]:H).length+c.length:Nat):Int)<=9223372036854775807)<|(a4 ((((([36,40]:H)++c).length+([41]:H).length:Nat):Int)<=9223372036854775807)<|some (((([36,40]:H)++c)++([41]:H)),(st.1,g.2.1,g.2.2))))) else(bif(decide (a=9)) then(ay (R.h8 st (W (b-1)) ([])) λ(d,h)=>(a4 (((([34,120,36,40]:H).length+d.length:Nat):Int)<=9223372036854775807)<|(a4 ((((([34,120,36,40]:H)++d).length+([41,34]:H).length:Nat):Int)<=9223372036854775807)<|some (((([34,120,36,40]:H)++d)++([41,34]:H)),(st.1,h.2.1,h.2.2))))) else(bif(decide (a=10)) then(ay (R.oB st (W (b-1))) λ(e,i)=>(a4 (((([36,123,120,58,45]:H).length+e.length:Nat):Int)<=9223372036854775807)<|(a4 ((((([36,123,120,58,45]:H)++e).length+([125]:H).length:Nat):Int)<=9223372036854775807)<|some (((([36,123,120,58,45]:H)++e)++([125]:H)),(st.1,i.2.1,i.2.2))))) else(bif(decide (a=11)) then some (([97,92,10,98]:H),st) else(ay (iP st 7) λ(f,j)=>(a4 (0<=f/\f<(([([97]:H),([98,49]:H),([120,61,49]:H),([102,105,108,101]:H),([195,169]:H),([105,110]:H),([97,35,98]:H)]:bs).length:Int))<|some ((at' ([([97]:H),([98,49]:H),([120,61,49]:H),([102,105,108,101]:H),([195,169]:H),([105,110]:H),([97,35,98]:H)]:bs) f),(st.1,j.2.1,j.2.2)))))))))))))))
theorem aqW(R:bl)(I:dQ)(a:Int):M8 R I a=ay (iP I 14) λz=>(bif(bif(decide (a<=0)) then(decide (8<=z.1)) else false) then OU R a (I.1,z.2.2.1,z.2.2.2) 0 else OU R a (I.1,z.2.2.1,z.2.2.2) z.1):=rfl
theorem aqX(aB:d<=3)(bm:∀a,d=a+1->D0 R a/\pW R a){st:dQ}(h:eK I st){y:Int}(J:d=0->y<8):∃t c,OU R (d:Int) st y=some (t,c)/\gh d t/\t.length<=lw d/\eK I c:=by
 obtain⟨K,L,M,F⟩:=rm aB
 have e:∀{w:H},w∈nz->∃t c,(some (w,st):Option (H×dQ))=some (t,c)/\gh d t/\t.length<=lw d/\eK I c:=λ{w} G=>⟨w,st,rfl,acY G,by grind[acZ],h⟩
 unfold OU;by_cases f:y=1
 ·simp only[f,bz,aO];exact e (by decide)
 by_cases i:y=2
 ·rw[e3 f];simp only[i,bz,aO,aY];exact e (by decide)
 by_cases k:y=3
 ·rw[e3 f,e3 i];simp only[k,bz,aO,aY];exact e (by decide)
 by_cases m:y=4
 ·rw[e3 f,e3 i,e3 k];simp only[m,bz,aO,aY];exact e (by decide)
 by_cases s:y=5
 ·rw[e3 f,e3 i,e3 k,e3 m];simp only[s,bz,aO,aY];exact e (by decide)
 by_cases z:y=6
 ·rw[e3 f,e3 i,e3 k,e3 m,e3 s];simp only[z,bz,aO,aY];exact e (by decide)
 by_cases B:y=7
 ·rw[e3 f,e3 i,e3 k,e3 m,e3 s,e3 z];simp only[B,bz,aO,aY];exact e (by decide)
 rw[e3 f,e3 i,e3 k,e3 m,e3 s,e3 z,e3 B];simp only[aY];by_cases o:y=8
 ·obtain⟨a,rfl⟩:∃a,d=a+1:=⟨d-1,by omega⟩
  obtain⟨t,c,j,g,u,b⟩:=(bm a rfl).1 I st [] (by simp) h;obtain⟨C,p,q,r⟩:=rm (d:=a) (by omega);simp only[o,bz,aO];rw[w5 (by omega),j,aS rfl];dsimp only;rw[pZ,b2 (kZ (by grind)),b2 (kZ (by grind)),h.c,b.st];refine⟨_,_,rfl,.inr (.inl ⟨t,g,.inl rfl⟩),?_,b⟩;grind[VI]
 by_cases x:y=9
 ·obtain⟨a,rfl⟩:∃a,d=a+1:=⟨d-1,by omega⟩
  obtain⟨t,c,j,g,u,b⟩:=(bm a rfl).1 I st [] (by simp) h;obtain⟨C,p,q,r⟩:=rm (d:=a) (by omega);rw[e3 o];simp only[x,bz,aO,aY];rw[w5 (by omega),j,aS rfl];dsimp only;rw[pZ,b2 (kZ (by grind)),b2 (kZ (by grind)),h.c,b.st];refine⟨_,_,rfl,.inr (.inl ⟨t,g,.inr rfl⟩),?_,b⟩;grind[VI]
 by_cases A:y=10
 ·obtain⟨a,rfl⟩:∃a,d=a+1:=⟨d-1,by omega⟩
  obtain⟨t,c,j,g,u,b⟩:=(bm a rfl).2 I st h;obtain⟨C,p,q,r⟩:=rm (d:=a) (by omega);rw[e3 o,e3 x];simp only[A,bz,aO,aY];rw[w5 (by omega),j,aS rfl];dsimp only;rw[b2 (kZ (by grind)),b2 (kZ (by grind)),h.c,b.st];refine⟨_,_,rfl,.inr (.inr ⟨t,g,rfl⟩),?_,b⟩;grind[VI]
 by_cases D:y=11
 ·rw[e3 o,e3 x,e3 A];simp only[D,bz,aO,aY];exact e (by decide)
 rw[e3 o,e3 x,e3 A,e3 D];simp only[aY];obtain⟨v,c,j,g,u,b⟩:=tu h (n:=7) (by decide) (by decide);rw[j,aS rfl];dsimp only;have hm:=at_mem (l:=GZ) g (by show v<((7:Nat):Int);omega);rw[b2 ⟨g,u⟩,h.c,b.st];have E:at' GZ v∈nz:=yB _ hm;exact⟨_,_,rfl,acY E,by have:=acZ _ E;exact k1 this F,b⟩
theorem aqY{P:H->Prop}{nx:dQ->Int->Option (H×dQ)}{st:dQ}(h:eK I st)(c:∀st y,eK I st->(d=0->y<8)->∃t a,nx st y=some (t,a)/\P t/\eK I a):∃t a,(ay (iP st 14) λz=>(bif(bif(decide ((d:Int)<=0)) then(decide (8<=z.1)) else false) then nx (st.1,z.2.2.1,z.2.2.2) 0 else nx (st.1,z.2.2.1,z.2.2.2) z.1))=some (t,a)/\P t/\eK I a:=by
 obtain⟨y,e,b,f,g,M⟩:=tu h (n:=14) (by decide) (by decide);rw[b,aS rfl];dsimp only;rw[h.c,M.st];cases i:(bif(decide ((d:Int)<=0)) then(decide (8<=y)) else false) with
 |true=>simp_all
 |false=>simp_all
theorem aqZ(aB:d<=3)(bm:∀a,d=a+1->D0 R a/\pW R a){st:dQ}(h:eK I st):∃t b,M8 R st (d:Int)=some (t,b)/\(gh d t/\t.length<=lw d)/\eK I b:=by
 rw[aqW]
 exact aqY h (λst y M U=>by obtain⟨t,b,c,av,a3,e⟩:=aqX aB bm M U;grind)
theorem ac3(R:bl)(x:dQ)(d:Int)(j:H×Int×Int->Option (H×dQ))(k:H×Int×Int×Int->Option (H×dQ))(s:H)(c a b:Int):Dc R x d j k (s,c,a,b)=bif(decide (0<c)) then
 (a4 (((s.length+([32]:H).length:Nat):Int)<=9223372036854775807)<|(ay (R.oB (x.1,a,b) d) λv=>(a4 ((((s++([32]:H)).length+v.1.length:Nat):Int)<=9223372036854775807)<|k (((s++([32]:H))++v.1),(W (c-1)),v.2.2.1,v.2.2.2)))) else j (s,a,b):=rfl
theorem rn(a b:H)(c:a.length<=99999999)(d:b.length<=99999999):((a.length+b.length:Nat):Int)<=9223372036854775807:=kZ (by omega)
theorem aq0{x:dQ}{d:Int}{j:H×Int×Int->Option (H×dQ)}{k:H×Int×Int×Int->Option (H×dQ)}{s:H}{c:Nat}{st a:dQ}(aq:c<=10)(b:x.1=I)(h:eK I st)(e:R.oB st d=some (t,a))(Y:s.length<=900000)(f:t.length<=99999999):
  Dc R x d j k (s,((c+1:Nat):Int),st.2.1,st.2.2)=k (s++[32]++t,(c:Int),a.2.1,a.2.2):=by
 rw[ac3,decide_eq_true (show(0:Int)<((c+1:Nat):Int) by omega),aO,b2 (rn s [32] (by omega) (by decide)),b,h.st,e,aS rfl,b2 (rn (s++[32]) t (by grind) f)];have g:W (((c+1:Nat):Int)-1)=(c:Int):=by grind[dO]
 rw[g]
theorem aq1(aB:d<=3)(hW:pW R d){x:dQ}(f:x.1=I){j:H×Int×Int->Option (H×dQ)}:∀(bF c:Nat)(s:H)(st:dQ),c<bF->c<=2->s.length<=100+(2-c) *40001->eK I st->
  ∃ws a,fixF (Dc R x (d:Int) j) bF (s,(c:Int),st.2.1,st.2.2)=j (s++ji ws,a.2.1,a.2.2)/\(∀w∈ws,gh d w)/\(ji ws).length<=c*(lw d+1)/\eK I a:=by
 obtain⟨o,_,_,_⟩:=rm aB;intro bF;induction bF with
 |zero=>omega
 |succ bF e=>
  intro c s st aq p Y h;rw[fx];generalize fixF (Dc R x (d:Int) j) bF=k at e⊢;cases c with
  |zero=>rw[ac3];refine⟨[],st,?_,by simp,by simp[ji],h⟩;simp[ji]
  |succ c=>
   obtain⟨t,g,i,q,r,l⟩:=hW I st h;have b:(s++[32]++t).length<=100+(2-c) *40001:=by grind
   rw[aq0 (by omega) f h i (by omega) (by omega)];obtain⟨ws,a,m,av,a3,n⟩:=e c (s++[32]++t) g (by omega) (by omega) b l;rw[m];refine⟨t::ws,a,?_,?_,?_,n⟩
   ·simp[ji]
   ·grind
   ·simp only[ji,List.flatMap_cons,Hj,nB] at a3⊢;grind
noncomputable def BL(c:H)(n:Int)(s:H)(st:dQ):Option (H×dQ):=
 bif(decide (n=1)) then
 (a4 (((s.length+([32,50,62,38,49]:H).length:Nat):Int)<=9223372036854775807)<|some ((s++([32,50,62,38,49]:H)),(c,st.2.1,st.2.2)))
 else some (s,(c,st.2.1,st.2.2))
noncomputable def D1(R:bl)(c:H)(s:H)(st:dQ):Option (H×dQ):=
 ay (iP (c,st.2.1,st.2.2) 8) λz=>
 bif(decide (z.1=0)) then
 (a4 (((s.length+([32,62]:H).length:Nat):Int)<=9223372036854775807)<|(ay (R.oB (c,z.2.2.1,z.2.2.2) 0) λv=>(a4 ((((s++([32,62]:H)).length+v.1.length:Nat):Int)<=9223372036854775807)<|BL c z.1 ((s++([32,62]:H))++v.1) v.2)))
 else BL c z.1 s z.2
theorem aq2(R:bl)(I:dQ)(a:Int):Dd R I a=(ay (iP I 4) λz=>
 (a4 (0<=z.1/\z.1<((rl).length:Int))<|
 (ay (iP (I.1,z.2.2.1,z.2.2.2) 3) λv=>
 (fixF (Dc R I a (λy=>D1 R I.1 y.1 (I.1,y.2.1,y.2.2))) bB ((at' rl z.1),v.1,v.2.2.1,v.2.2.2))))):=rfl
theorem aq3{c:H}{s:H}{st:dQ}(Y:s.length<=99999999):BL c 1 s st=some (s++[32,50,62,38,49],(c,st.2.1,st.2.2)):=by unfold BL;rw[decide_eq_true rfl,aO,b2 (rn s [32,50,62,38,49] Y (by decide))]
theorem ac4{c:H}{s:H}{st:dQ}{n:Int}(af:¬n=1):BL c n s st=some (s,(c,st.2.1,st.2.2)):=by simp_all[BL]
theorem aq4{s:H}{st a b:dQ}(h:eK I st)(M:eK I a)(c:iP st 8=some (0,a))(d:R.oB a 0=some (t,b))(Y:s.length<=900000)(e:t.length<=99999999):D1 R I s st=BL I 0 (s++[32,62]++t) b:=by unfold D1;rw[h.st,c,aS rfl];show(bif decide ((0:Int)=0) then _ else _)=_;rw[decide_eq_true rfl,aO,b2 (rn s [32,62] (by omega) (by decide))];show ay (R.oB (I,a.2.1,a.2.2) 0) _=_;rw[M.st,d,aS rfl,b2 (rn (s++[32,62]) t (by grind) e)]
theorem aq5{s:H}{st a:dQ}{v:Int}(h:eK I st)(b:iP st 8=some (v,a))(c:¬v=0):D1 R I s st=BL I v s a:=by unfold D1;rw[h.st,b,aS rfl];grind
theorem aq6(e:pW R 0){s:H}(Y:s.length<=900000){st:dQ}(h:eK I st):∃r b,D1 R I s st=some (s++r,b)/\(r=[]\/r=[32,50,62,38,49]\/∃w,gh 0 w/\r=[32,62]++w)/\r.length<=12/\eK I b:=by
 obtain⟨v,c,d,j,k,a⟩:=tu h (n:=8) (by decide) (by decide);by_cases h0:v=0
 ·subst h0;obtain⟨t,l,f,m,g,i⟩:=e I c a;have o:t.length<=10:=g;rw[aq4 h a d f Y (by omega),ac4 (by decide),i.st];grind
 ·rw[aq5 h d h0];by_cases M:v=1
  ·subst M;rw[aq3 (by omega),a.st];grind
  ·rw[ac4 M,a.st];exact⟨[],c,by simp,.inl rfl,by simp,a⟩
theorem aq7:∀h∈rl,h.length<=4:=by decide
theorem aq8(aB:d<=3)(hW:pW R d)(i:pW R 0){st:dQ}(h:eK I st):∃t a,Dd R st (d:Int)=some (t,a)/\qD (gh d) (gh 0) t/\t.length<=2*lw d+20/\eK I a:=by
 obtain⟨C,_,_,_⟩:=rm aB;obtain⟨v,D,m,b,e,f⟩:=tu h (n:=4) (by decide) (by decide);rw[aq2,m,aS rfl];dsimp only;rw[b2 ⟨b,e⟩,h.c,f.st];obtain⟨c,o,p,E,F,q⟩:=tu f (n:=3) (by decide) (by decide);rw[p,aS rfl];dsimp only;have hm:=at_mem (l:=rl) b e;have G:=aq7 _ hm
 obtain⟨k,rfl⟩:∃k:Nat,c=(k:Int):=⟨c.toNat,by omega⟩
 obtain⟨ws,J,u,av,a3,g⟩:=aq1 aB hW (x:=st) h.c (j:=λy=>D1 R I y.1 (I,y.2.1,y.2.2)) bB k (at' rl v) o (by grind[gM]) (by omega) (by omega) q;rw[u];dsimp only;have az:k*(lw d+1)<=2*(lw d+1):=tF _ (by omega);rw[g.st];obtain⟨r,w,z,A,K,B⟩:=aq6 i (s:=at' rl v++ji ws) (by grind) g;rw[z];exact⟨_,_,rfl,⟨_,ws,r,hm,av,rfl,A⟩,by grind,B⟩
noncomputable def nA(R:bl)(a:Int)(st:dQ)(b:Int):Option (H×dQ):=
 (bif(decide (b=1)) then(ay (R.h8 st (W (a-1)) ([])) λ(h,p)=>(a4 (((([40]:H).length+h.length:Nat):Int)<=9223372036854775807)<|(a4 ((((([40]:H)++h).length+([41]:H).length:Nat):Int)<=9223372036854775807)<|some (((([40]:H)++h)++([41]:H)),(st.1,p.2.1,p.2.2))))) else(bif(decide (b=2)) then(ay (R.h8 st (W (a-1)) ([10]:H)) λ(i,q)=>(a4 (((([123,32]:H).length+i.length:Nat):Int)<=9223372036854775807)<|(a4 ((((([123,32]:H)++i).length+([125]:H).length:Nat):Int)<=9223372036854775807)<|some (((([123,32]:H)++i)++([125]:H)),(st.1,q.2.1,q.2.2))))) else(bif(decide (b=3)) then(ay (R.h8 st (W (a-1)) ([59]:H)) λ(c,r)=>(a4 (((([105,102,32]:H).length+c.length:Nat):Int)<=9223372036854775807)<|(a4 ((((([105,102,32]:H)++c).length+([32,116,104,101,110,32]:H).length:Nat):Int)<=9223372036854775807)<|(ay (R.h8 (st.1,r.2.1,r.2.2) (W (a-1)) ([10]:H)) λ(j,s)=>(a4 (((((([105,102,32]:H)++c)++([32,116,104,101,110,32]:H)).length+j.length:Nat):Int)<=9223372036854775807)<|(a4 ((((((([105,102,32]:H)++c)++([32,116,104,101,110,32]:H))++j).length+([102,105]:H).length:Nat):Int)<=9223372036854775807)<|some (((((([105,102,32]:H)++c)++([32,116,104,101,110,32]:H))++j)++([102,105]:H)),(st.1,s.2.1,s.2.2)))))))) else(bif(decide (b=4)) then(ay (R.h8 st (W (a-1)) ([10]:H)) λ(d,t)=>(a4 (((([105,102,32,97,59,32,116,104,101,110,10]:H).length+d.length:Nat):Int)<=9223372036854775807)<|(a4 ((((([105,102,32,97,59,32,116,104,101,110,10]:H)++d).length+([101,108,105,102,32,98,10,116,104,101,110,32,99,10,101,108,115,101,32]:H).length:Nat):Int)<=9223372036854775807)<|(ay (R.h8 (st.1,t.2.1,t.2.2) (W (a-1)) ([59]:H)) λ(k,u)=>(a4 (((((([105,102,32,97,59,32,116,104,101,110,10]:H)++d)++([101,108,105,102,32,98,10,116,104,101,110,32,99,10,101,108,115,101,32]:H)).length+k.length:Nat):Int)<=9223372036854775807)<|(a4 ((((((([105,102,32,97,59,32,116,104,101,110,10]:H)++d)++([101,108,105,102,32,98,10,116,104,101,110,32,99,10,101,108,115,101,32]:H))++k).length+([102,105,32,50,62,102]:H).length:Nat):Int)<=9223372036854775807)<|some (((((([105,102,32,97,59,32,116,104,101,110,10]:H)++d)++([101,108,105,102,32,98,10,116,104,101,110,32,99,10,101,108,115,101,32]:H))++k)++([102,105,32,50,62,102]:H)),(st.1,u.2.1,u.2.2)))))))) else(bif(decide (b=5)) then(ay (R.h8 st (W (a-1)) ([10]:H)) λ(e,v)=>(a4 (((([119,104,105,108,101,32]:H).length+e.length:Nat):Int)<=9223372036854775807)<|(a4 ((((([119,104,105,108,101,32]:H)++e).length+([100,111,32]:H).length:Nat):Int)<=9223372036854775807)<|(ay (R.h8 (st.1,v.2.1,v.2.2) (W (a-1)) ([59]:H)) λ(l,w)=>(a4 (((((([119,104,105,108,101,32]:H)++e)++([100,111,32]:H)).length+l.length:Nat):Int)<=9223372036854775807)<|(a4 ((((((([119,104,105,108,101,32]:H)++e)++([100,111,32]:H))++l).length+([32,100,111,110,101]:H).length:Nat):Int)<=9223372036854775807)<|some (((((([119,104,105,108,101,32]:H)++e)++([100,111,32]:H))++l)++([32,100,111,110,101]:H)),(st.1,w.2.1,w.2.2)))))))) else(bif(decide (b=6)) then(ay (R.oB st (W (a-1))) λ(f,x)=>(a4 (((([102,111,114,32,120,32,105,110,32,97,32]:H).length+f.length:Nat):Int)<=9223372036854775807)<|(a4 ((((([102,111,114,32,120,32,105,110,32,97,32]:H)++f).length+([59,32,100,111,32]:H).length:Nat):Int)<=9223372036854775807)<|(ay (R.h8 (st.1,x.2.1,x.2.2) (W (a-1)) ([59]:H)) λ(m,y)=>(a4 (((((([102,111,114,32,120,32,105,110,32,97,32]:H)++f)++([59,32,100,111,32]:H)).length+m.length:Nat):Int)<=9223372036854775807)<|(a4 ((((((([102,111,114,32,120,32,105,110,32,97,32]:H)++f)++([59,32,100,111,32]:H))++m).length+([100,111,110,101]:H).length:Nat):Int)<=9223372036854775807)<|some (((((([102,111,114,32,120,32,105,110,32,97,32]:H)++f)++([59,32,100,111,32]:H))++m)++([100,111,110,101]:H)),(st.1,y.2.1,y.2.2)))))))) else(bif(decide (b=7)) then some (([102,111,114,32,120,10,100,111,32,97,10,100,111,110,101]:H),st) else(bif(decide (b=8)) then(ay (R.oB st (W (a-1))) λ(g,z)=>(a4 (((([99,97,115,101,32]:H).length+g.length:Nat):Int)<=9223372036854775807)<|(a4 ((((([99,97,115,101,32]:H)++g).length+([32,105,110,32,97,124,98,41,32]:H).length:Nat):Int)<=9223372036854775807)<|(ay (R.h8 (st.1,z.2.1,z.2.2) (W (a-1)) ([])) λ(n,A)=>(a4 (((((([99,97,115,101,32]:H)++g)++([32,105,110,32,97,124,98,41,32]:H)).length+n.length:Nat):Int)<=9223372036854775807)<|(a4 ((((((([99,97,115,101,32]:H)++g)++([32,105,110,32,97,124,98,41,32]:H))++n).length+([59,59,10,40,99,41,32,59,59,32,100,41,32,101,115,97,99]:H).length:Nat):Int)<=9223372036854775807)<|some (((((([99,97,115,101,32]:H)++g)++([32,105,110,32,97,124,98,41,32]:H))++n)++([59,59,10,40,99,41,32,59,59,32,100,41,32,101,115,97,99]:H)),(st.1,A.2.1,A.2.2)))))))) else(bif(decide (b=9)) then(ay (R.h8 st (W (a-1)) ([10]:H)) λ(o,B)=>(a4 (((([102,40,41,32,123,10]:H).length+o.length:Nat):Int)<=9223372036854775807)<|(a4 ((((([102,40,41,32,123,10]:H)++o).length+([125,32,62,102]:H).length:Nat):Int)<=9223372036854775807)<|some (((([102,40,41,32,123,10]:H)++o)++([125,32,62,102]:H)),(st.1,B.2.1,B.2.2))))) else(ay (Dd R st a) λ(D,C)=>some (D,(st.1,C.2.1,C.2.2))))))))))))
theorem aq9(R:bl)(I:dQ)(a:Int):wH R I a=ay (iP I 16) λz=>(bif(decide (a<=0)) then nA R a (I.1,z.2.2.1,z.2.2.2) 0 else nA R a (I.1,z.2.2.1,z.2.2.2) z.1):=rfl
section
variable(aB:d+1<=3)(bm:D0 R d)(hW:pW R d){st:dQ}(h:eK I st)
include aB bm hW h
theorem aq_:∃t a,nA R ((d+1:Nat):Int) st 1=some (t,a)/\tv (gX d) (gh d) t/\t.length<=2*qE d+lw d+80/\eK I a:=by obtain⟨g,i,j,k⟩:=rm (d:=d) (by omega);have b:=w5 (d:=d) (by omega);obtain⟨c,s1,e,f,l,an⟩:=bm I st [] (by decide) h;unfold nA;rw[show decide ((1:Int)=1)=true from rfl,aO,b,e,aS rfl];dsimp only;rw[b2 (kZ (by grind)),b2 (kZ (by grind)),h.c,an.st];refine⟨_,_,rfl,.inl ⟨c,f,by simp⟩,by grind,an⟩
theorem ara:∃t a,nA R ((d+1:Nat):Int) st 2=some (t,a)/\tv (gX d) (gh d) t/\t.length<=2*qE d+lw d+80/\eK I a:=by obtain⟨g,i,j,k⟩:=rm (d:=d) (by omega);have b:=w5 (d:=d) (by omega);obtain⟨c,s1,e,f,l,an⟩:=bm I st [10] (by decide) h;unfold nA;rw[show decide ((2:Int)=1)=false from rfl,aY];rw[show decide ((2:Int)=2)=true from rfl,aO,b,e,aS rfl];dsimp only;rw[b2 (kZ (by grind)),b2 (kZ (by grind)),h.c,an.st];refine⟨_,_,rfl,.inr (.inl ⟨c,f,rfl⟩),by grind,an⟩
theorem arb:∃t a,nA R ((d+1:Nat):Int) st 3=some (t,a)/\tv (gX d) (gh d) t/\t.length<=2*qE d+lw d+80/\eK I a:=by obtain⟨l,m,n,o⟩:=rm (d:=d) (by omega);have c:=w5 (d:=d) (by omega);obtain⟨e,s1,f,g,p,an⟩:=bm I st [59] (by decide) h;obtain⟨i,s2,j,k,q,b⟩:=bm I s1 [10] (by decide) an;unfold nA;rw[show decide ((3:Int)=1)=false from rfl,aY];rw[show decide ((3:Int)=2)=false from rfl,aY];rw[show decide ((3:Int)=3)=true from rfl,aO,c,f,aS rfl];dsimp only;rw[b2 (kZ (by grind)),b2 (kZ (by grind)),h.c,an.st];rw[j,aS rfl];dsimp only;rw[b2 (kZ (by grind)),b2 (kZ (by grind)),b.st];refine⟨_,_,rfl,.inr (.inr (.inl ⟨e,i,g,k,rfl⟩)),by grind,b⟩
theorem arc:∃t a,nA R ((d+1:Nat):Int) st 4=some (t,a)/\tv (gX d) (gh d) t/\t.length<=2*qE d+lw d+80/\eK I a:=by obtain⟨l,m,n,o⟩:=rm (d:=d) (by omega);have c:=w5 (d:=d) (by omega);obtain⟨e,s1,f,g,p,an⟩:=bm I st [10] (by decide) h;obtain⟨i,s2,j,k,q,b⟩:=bm I s1 [59] (by decide) an;unfold nA;rw[show decide ((4:Int)=1)=false from rfl,aY];rw[show decide ((4:Int)=2)=false from rfl,aY];rw[show decide ((4:Int)=3)=false from rfl,aY];rw[show decide ((4:Int)=4)=true from rfl,aO,c,f,aS rfl];dsimp only;rw[b2 (kZ (by grind[List.length_cons])),b2 (kZ (by grind[List.length_cons])),h.c,an.st];rw[j,aS rfl];dsimp only;rw[b2 (kZ (by grind[List.length_cons])),b2 (kZ (by grind[List.length_cons])),b.st];refine⟨_,_,rfl,.inr (.inr (.inr (.inl ⟨e,i,g,k,rfl⟩))),by grind[List.length_cons],b⟩
theorem ard:∃t a,nA R ((d+1:Nat):Int) st 5=some (t,a)/\tv (gX d) (gh d) t/\t.length<=2*qE d+lw d+80/\eK I a:=by obtain⟨l,m,n,o⟩:=rm (d:=d) (by omega);have c:=w5 (d:=d) (by omega);obtain⟨e,s1,f,g,p,an⟩:=bm I st [10] (by decide) h;obtain⟨i,s2,j,k,q,b⟩:=bm I s1 [59] (by decide) an;unfold nA;rw[show decide ((5:Int)=1)=false from rfl,aY];rw[show decide ((5:Int)=2)=false from rfl,aY];rw[show decide ((5:Int)=3)=false from rfl,aY];rw[show decide ((5:Int)=4)=false from rfl,aY];rw[show decide ((5:Int)=5)=true from rfl,aO,c,f,aS rfl];dsimp only;rw[b2 (kZ (by grind)),b2 (kZ (by grind)),h.c,an.st];rw[j,aS rfl];dsimp only;rw[b2 (kZ (by grind)),b2 (kZ (by grind)),b.st];refine⟨_,_,rfl,.inr (.inr (.inr (.inr (.inl ⟨e,i,g,k,rfl⟩)))),by grind,b⟩
theorem are:∃t a,nA R ((d+1:Nat):Int) st 6=some (t,a)/\tv (gX d) (gh d) t/\t.length<=2*qE d+lw d+80/\eK I a:=by obtain⟨l,m,n,o⟩:=rm (d:=d) (by omega);have c:=w5 (d:=d) (by omega);obtain⟨e,s1,f,g,p,an⟩:=hW I st h;obtain⟨i,s2,j,k,q,b⟩:=bm I s1 [59] (by decide) an;unfold nA;rw[show decide ((6:Int)=1)=false from rfl,aY];rw[show decide ((6:Int)=2)=false from rfl,aY];rw[show decide ((6:Int)=3)=false from rfl,aY];rw[show decide ((6:Int)=4)=false from rfl,aY];rw[show decide ((6:Int)=5)=false from rfl,aY];rw[show decide ((6:Int)=6)=true from rfl,aO,c,f,aS rfl];dsimp only;rw[b2 (kZ (by grind[List.length_cons])),b2 (kZ (by grind[List.length_cons])),h.c,an.st];rw[j,aS rfl];dsimp only;rw[b2 (kZ (by grind[List.length_cons])),b2 (kZ (by grind[List.length_cons])),b.st];refine⟨_,_,rfl,.inr (.inr (.inr (.inr (.inr (.inl ⟨e,i,g,k,rfl⟩))))),by grind[List.length_cons],b⟩
theorem arf:∃t a,nA R ((d+1:Nat):Int) st 8=some (t,a)/\tv (gX d) (gh d) t/\t.length<=2*qE d+lw d+80/\eK I a:=by obtain⟨l,m,n,o⟩:=rm (d:=d) (by omega);have c:=w5 (d:=d) (by omega);obtain⟨e,s1,f,g,p,an⟩:=hW I st h;obtain⟨i,s2,j,k,q,b⟩:=bm I s1 [] (by decide) an;unfold nA;rw[show decide ((8:Int)=1)=false from rfl,aY];rw[show decide ((8:Int)=2)=false from rfl,aY];rw[show decide ((8:Int)=3)=false from rfl,aY];rw[show decide ((8:Int)=4)=false from rfl,aY];rw[show decide ((8:Int)=5)=false from rfl,aY];rw[show decide ((8:Int)=6)=false from rfl,aY];rw[show decide ((8:Int)=7)=false from rfl,aY];rw[show decide ((8:Int)=8)=true from rfl,aO,c,f,aS rfl];dsimp only;rw[b2 (kZ (by grind)),b2 (kZ (by grind)),h.c,an.st];rw[j,aS rfl];dsimp only;rw[b2 (kZ (by grind[List.length_cons])),b2 (kZ (by grind[List.length_cons])),b.st];refine⟨_,_,rfl,.inr (.inr (.inr (.inr (.inr (.inr (.inr (.inl ⟨e,i,g,k,rfl⟩))))))),by grind[List.length_cons],b⟩
theorem arh:∃t a,nA R ((d+1:Nat):Int) st 9=some (t,a)/\tv (gX d) (gh d) t/\t.length<=2*qE d+lw d+80/\eK I a:=by obtain⟨g,i,j,k⟩:=rm (d:=d) (by omega);have b:=w5 (d:=d) (by omega);obtain⟨c,s1,e,f,l,an⟩:=bm I st [10] (by decide) h;unfold nA;rw[show decide ((9:Int)=1)=false from rfl,aY];rw[show decide ((9:Int)=2)=false from rfl,aY];rw[show decide ((9:Int)=3)=false from rfl,aY];rw[show decide ((9:Int)=4)=false from rfl,aY];rw[show decide ((9:Int)=5)=false from rfl,aY];rw[show decide ((9:Int)=6)=false from rfl,aY];rw[show decide ((9:Int)=7)=false from rfl,aY];rw[show decide ((9:Int)=8)=false from rfl,aY];rw[show decide ((9:Int)=9)=true from rfl,aO,b,e,aS rfl];dsimp only;rw[b2 (kZ (by grind)),b2 (kZ (by grind)),h.c,an.st];refine⟨_,_,rfl,.inr (.inr (.inr (.inr (.inr (.inr (.inr (.inr ⟨c,f,rfl⟩))))))),by grind,an⟩
theorem ari:∃t a,nA R ((d+1:Nat):Int) st 7=some (t,a)/\tv (gX d) (gh d) t/\t.length<=2*qE d+lw d+80/\eK I a:=
 ⟨_,st,rfl,.inr (.inr (.inr (.inr (.inr (.inr (.inl rfl)))))),by simp,h⟩
end
theorem arj{a:Int}{st:dQ}{y:Int}(h:¬(1<=y/\y<=9)):nA R a st y=ay (Dd R st a) λz=>some (z.1,(st.1,z.2.2.1,z.2.2.2)):=by unfold nA;rw[e3 (show¬y=1 by omega),e3 (show¬y=2 by omega),e3 (show¬y=3 by omega),e3 (show¬y=4 by omega),e3 (show¬y=5 by omega),e3 (show¬y=6 by omega),e3 (show¬y=7 by omega),e3 (show¬y=8 by omega),e3 (show¬y=9 by omega)];simp
theorem ac5(aB:d<=3)(hW:pW R d)(b:pW R 0){st:dQ}(h:eK I st){y:Int}(c:¬(1<=y/\y<=9)):∃t a,nA R (d:Int) st y=some (t,a)/\qD (gh d) (gh 0) t/\t.length<=2*lw d+20/\eK I a:=by rw[arj c];obtain⟨t,a,e,g,i,f⟩:=aq8 aB hW b h;rw[e,aS rfl];dsimp only;rw[h.c,f.st];grind
theorem ark(aB:d+1<=3)(bm:D0 R d)(f:pW R d)(hW:pW R (d+1))(g:pW R 0){st:dQ}(h:eK I st)(y:Int):∃t a,nA R ((d+1:Nat):Int) st y=some (t,a)/\z3 (d+1) t/\t.length<=lc (d+1)/\eK I a:=by
 have k:lc (d+1)=2*qE d+lw d+2*lw (d+1)+80:=rfl;by_cases i:1<=y/\y<=9
 ·have aq:∃t a,nA R ((d+1:Nat):Int) st y=some (t,a)/\tv (gX d) (gh d) t/\t.length<=2*qE d+lw d+80/\eK I a:=by
   have:y=1\/y=2\/y=3\/y=4\/y=5\/y=6\/y=7\/y=8\/y=9:=by omega
   rcases this with rfl|rfl|rfl|rfl|rfl|rfl|rfl|rfl|rfl
   ·grind[aq_]
   ·grind[ara]
   ·grind[arb]
   ·grind[arc]
   ·grind[ard]
   ·grind[are]
   ·grind[ari]
   ·grind[arf]
   grind[arh]
  obtain⟨t,a,b,c,j,e⟩:=aq;exact⟨t,a,b,.inr c,by omega,e⟩
 ·obtain⟨t,a,b,c,j,e⟩:=ac5 aB hW g h i;exact⟨t,a,b,.inl c,by omega,e⟩
theorem arl{P:H->Prop}{nx:dQ->Int->Option (H×dQ)}{st:dQ}(h:eK I st)(c:∀st y,eK I st->(d=0->y=0)->∃t a,nx st y=some (t,a)/\P t/\eK I a):∃t a,(ay (iP st 16) λz=>(bif(decide ((d:Int)<=0)) then nx (st.1,z.2.2.1,z.2.2.2) 0 else nx (st.1,z.2.2.1,z.2.2.2) z.1))=some (t,a)/\P t/\eK I a:=by
 obtain⟨y,e,b,f,g,M⟩:=tu h (n:=16) (by decide) (by decide);rw[b,aS rfl];dsimp only;rw[h.c,M.st];by_cases aB:(d:Int)<=0
 ·simp_all
 simp_all
theorem ac6(aB:d<=3)(bm:∀b,d=b+1->D0 R b/\pW R b)(hW:pW R d)(c:pW R 0){st:dQ}(h:eK I st):∃t a,wH R st (d:Int)=some (t,a)/\(z3 d t/\t.length<=lc d)/\eK I a:=by
 rw[aq9];refine arl h (λst y M U=>?_);cases d with
 |zero=>have:=U rfl;subst this;obtain⟨t,a,e,f,i,g⟩:=ac5 aB hW c M (y:=0) (by omega);have:lw 0=10:=rfl;exact⟨t,a,e,⟨f,by show _<=60;omega⟩,g⟩
 |succ d=>obtain⟨t,a,e,f,i,g⟩:=ark aB (bm d rfl).1 (bm d rfl).2 hW c M y;grind
theorem ac7(R:bl)(x:dQ)(d:Int)(j:H×Int×Int->Option (H×dQ))(k:H×Int×Int×Int->Option (H×dQ))(s:H)(c a b:Int):De R x d j k (s,c,a,b)=bif(decide (0<c)) then
 (ay (iP (x.1,a,b) 8) λz=>(a4 (0<=z.1/\z.1<(jt.length:Int))<|(a4 (((s.length+(at' jt z.1).length:Nat):Int)<=9223372036854775807)<|(ay (wH R (x.1,z.2.2.1,z.2.2.2) d) λv=>(a4 ((((s++(at' jt z.1)).length+v.1.length:Nat):Int)<=9223372036854775807)<|k (((s++(at' jt z.1))++v.1),(W (c-1)),v.2.2.1,v.2.2.2)))))) else j (s,a,b):=rfl
theorem arn:∀h∈jt,h.length<=6:=by decide
theorem aro{x:dQ}{d:Int}{j:H×Int×Int->Option (H×dQ)}{k:H×Int×Int×Int->Option (H×dQ)}{s:H}{c:Nat}{st a b:dQ}{v:Int}(aq:c<=10)(e:x.1=I)(h:eK I st)(M:eK I a)(f:iP st 8=some (v,a))(g:0<=v/\v<(jt.length:Int))(n:(at' jt v).length<=6)(i:wH R a d=some (t,b))(Y:s.length<=900000)(l:t.length<=99999999):
  De R x d j k (s,((c+1:Nat):Int),st.2.1,st.2.2)=k (s++at' jt v++t,(c:Int),b.2.1,b.2.2):=by
 rw[ac7,decide_eq_true (show(0:Int)<((c+1:Nat):Int) by omega),aO,e,h.st,f,aS rfl];show a4 (0<=v/\v<(jt.length:Int)) _=_;rw[b2 g];show a4 (((s.length+(at' jt v).length:Nat):Int)<=9223372036854775807) (ay (wH R (I,a.2.1,a.2.2) d) _)=_;rw[b2 (rn s (at' jt v) (by omega) (by omega)),M.st,i,aS rfl,b2 (rn (s++at' jt v) t (by grind) l)];have m:W (((c+1:Nat):Int)-1)=(c:Int):=by grind[dO]
 rw[m]
theorem arp(aB:d<=3)(m:∀{I:H}{st:dQ},eK I st->∃t a,wH R st (d:Int)=some (t,a)/\(z3 d t/\t.length<=lc d)/\eK I a){x:dQ}(o:x.1=I){j:H×Int×Int->Option (H×dQ)}:∀(bF c:Nat)(s:H)(st:dQ),c<bF->c<=2->s.length<=200000+(2-c) *160010->eK I st->
  ∃l a,fixF (De R x (d:Int) j) bF (s,(c:Int),st.2.1,st.2.2)=j (s++cY l,a.2.1,a.2.2)/\(∀p∈l,p.1∈jt/\z3 d p.2)/\(cY l).length<=c*(lc d+6)/\eK I a:=by
 obtain⟨_,_,B,_⟩:=rm aB;intro bF;induction bF with
 |zero=>omega
 |succ bF e=>
  intro c s st aq C Y h;rw[fx];generalize fixF (De R x (d:Int) j) bF=k at e⊢;cases c with
  |zero=>rw[ac7];refine⟨[],st,?_,by simp,by simp[cY],h⟩;simp[cY]
  |succ c=>
   obtain⟨v,D,q,f,g,i⟩:=tu h (n:=8) (by decide) (by decide);have hm:=at_mem (l:=jt) f g;have r:=arn _ hm;obtain⟨t,u,w,⟨E,F⟩,y⟩:=m i;have b:(s++at' jt v++t).length<=200000+(2-c) *160010:=by grind
   rw[aro (by omega) o h i q ⟨f,g⟩ r w (by omega) (by omega)];obtain⟨l,a,z,av,a3,A⟩:=e c (s++at' jt v++t) u (by omega) (by omega) b y;rw[z];refine⟨(at' jt v,t)::l,a,?_,?_,?_,A⟩
   ·simp[cY]
   ·grind
   grind[cY]
theorem arq(R:bl)(I:dQ)(a:Int)(sfx:H):Jc R I a sfx=ay (wH R I a) λy=>ay (iP (I.1,y.2.2.1,y.2.2.2) 3) λv=>
 fixF (De R I a (λz=>a4 (((z.1.length+sfx.length:Nat):Int)<=9223372036854775807)<|some ((z.1++sfx),(I.1,z.2.1,z.2.2)))) bB (y.1,v.1,v.2.2.1,v.2.2.2):=rfl
theorem ars(aB:d<=3)(bm:∀b,d=b+1->D0 R b/\pW R b)(hW:pW R d)(f:pW R 0){st:dQ}{sfx:H}(w:sfx.length<=1)(h:eK I st):∃t a,Jc R st (d:Int) sfx=some (t++sfx,a)/\gX d t/\t.length<=qE d/\eK I a:=by
 obtain⟨_,_,y,_⟩:=rm aB;obtain⟨t,g,o,⟨p,A⟩,i⟩:=ac6 aB bm hW f h;obtain⟨v,q,r,B,C,s⟩:=tu i (n:=3) (by decide) (by decide)
 obtain⟨k,rfl⟩:∃k:Nat,v=(k:Int):=⟨v.toNat,by omega⟩
 obtain⟨l,c,u,av,a3,m⟩:=arp aB (λh=>ac6 aB bm hW f h) (x:=st) h.c (j:=λz=>a4 (((z.1.length+sfx.length:Nat):Int)<=9223372036854775807)<|some ((z.1++sfx),(I,z.2.1,z.2.2))) bB k t q (by grind[gM]) (by omega) (by omega) s;have az:k*(lc d+6)<=2*(lc d+6):=tF _ (by omega);rw[arq,o,aS rfl,h.c];show∃e a,(ay (iP (I,g.2.1,g.2.2) 3) _)=some (e++sfx,a)/\_
 rw[i.st,r,aS rfl,u];have D:=aqV d;refine⟨t++cY l,c,?_,?_,by grind,m⟩
 ·show a4 ((((t++cY l).length+sfx.length:Nat):Int)<=9223372036854775807) (some ((t++cY l++sfx),(I,c.2.1,c.2.2)))=_;rw[b2 (rn _ _ (by grind) (by omega)),m.st]
 ·rw[OT];exact⟨t,l,p,av,rfl⟩
theorem aru:∀(k d:Nat),d<=3->(2*d+1<=k->pW (lv k) d)/\(2*d+2<=k->D0 (lv k) d):=by
 intro k;induction k with
 |zero=>omega
 |succ k a=>
  intro d aB;refine⟨λh I st c=>?_,λh I st sfx e c=>?_⟩
  ·obtain⟨t,f,g,⟨i,j⟩,l⟩:=aqZ (R:=lv k) aB (λb m=>⟨(a b (by omega)).2 (by omega),(a b (by omega)).1 (by omega)⟩) c;exact⟨t,f,g,i,j,l⟩
  ·exact ars (R:=lv k) aB (λb m=>⟨(a b (by omega)).2 (by omega),(a b (by omega)).1 (by omega)⟩) ((a d aB).1 (by omega)) ((a 0 (by omega)).1 (by omega)) e c
theorem arv{st:dQ}{sfx:H}(b:sfx.length<=1)(h:eK I st):∃t a,s_.h8 st 3 sfx=some (t++sfx,a)/\gX 3 t/\t.length<=qE 3/\eK I a:=by
 have az:8<=bB:=by simp[gM]
 exact(aru bB 3 (by omega)).2 az I st sfx b h
end Go.Eng
namespace Go.Eng
variable{C:H->Prop}{D cX:ab Unit}{E:lh}{F:ag}{b:UInt8}{α σ:Type}{ctx:Ctx}{d m n:Nat}{f:σ->ab (σ⊕α)}{lo:Option dD}{no:Bool}{r r0 t u v' x:H}
structure fK where
 E:lh
 ok:E.mT
 c0:Nat
variable{X:fK}
def bM(X:fK)(P:H->Prop)(F:ag){α:Type}:dn α->Prop
 | .ok _ r' a=>(P r'/\a=F)\/X.E.hs X.c0 r' a
 | .deep _=>False
 |_=>True
theorem lh.hs.OV(h:E.hs n r F)(hm:n<=m):E.hs m r F:=⟨h.sfx,by have:=h.le;omega,h.q⟩
theorem bM.VJ{P:H->Prop}{b:ag}(af:X.c0<=n){f:ab α}(hf:ad X.E n f)(h:X.E.hs X.c0 r F):bM X P b (f r F):=by
 have:=hf r F (h.OV af);cases hm:f r F with
 |ok a r' c=>rw[hm] at this;exact .inr (h.down X.ok this.1 this.2)
 |more _ _ _=>trivial
 |bad _=>trivial
 |deep _=>rw[hm] at this;exact this
theorem bM.N{X:fK}{P c:H->Prop}{F b:ag}{α β:Type}{n:Nat}(af:X.c0<=n){m:ab α}{k:α->ab β}{r:H}(h:bM X P F (m r b))(az:∀a r',m r b= .ok a r' F->P r'->bM X c F (k a r' F))(he:∀a,ad X.E n (k a)):bM X c F (Eng.N m k r b):=by
 unfold Eng.N;cases hm:m r b with
 |ok a r' d=>
  rw[hm] at h;rcases h with⟨M,rfl⟩|M
  ·grind
  grind[bM.VJ]
 |more _ _ _=>trivial
 |bad _=>trivial
 |deep _=>rw[hm] at h;exact h
theorem bM.imp{P b:H->Prop}{x:dn α}(h:bM X P F x)(ah:∀r,P r->b r):bM X b F x:=by
 cases x with
 |ok a r' c=>
  rcases h with⟨M,U⟩|M
  ·exact .inl ⟨ah _ M,U⟩
  ·exact .inr M
 |more _ _ _=>trivial
 |bad _=>trivial
 |deep _=>exact h
theorem bM.aG{X:fK}{P:H->Prop}{F a:ag}{α:Type}{m:ab α}{x r:H}(h:bM X P F (m r a)):bM X P F (m.aG x r a):=by unfold ab.aG;cases hm:m r a<;>rw[hm] at h<;>first|exact h|trivial
theorem bM.named{X:fK}{P:H->Prop}{F a:ag}{α:Type}{m:ab α}{x r:H}(h:bM X P F (m r a)):bM X P F (m.named x r a):=by unfold ab.named;cases hm:m r a<;>rw[hm] at h<;>first|exact h|trivial
def pj(X:fK){α:Type}(x:dn α):Prop:=match x with
 | .ok _ r' a=>X.E.hs X.c0 r' a
 | .deep _=>False
 |_=>True
def jR(X:fK){α:Type}(x y:dn α):Prop:=x=y\/pj X x
theorem jR.refl(x:dn α):jR X x x:= .inl rfl
theorem jR.trans{x y z:dn α}(h:jR X x y)(U:jR X y z):jR X x z:=by
 rcases h with rfl|h
 ·exact U
 ·exact .inr h
theorem jR.D2{P:H->Prop}{x y:dn α}(h:jR X x y)(U:bM X P F y):bM X P F x:=by
 rcases h with rfl|h
 ·exact U
 ·cases x with
  |ok a r' b=>exact .inr h
  |more _ _ _=>trivial
  |bad _=>trivial
  |deep _=>exact h
theorem jR.rep{X:fK}{σ α:Type}{n:Nat}(af:X.c0<=n){f:σ->ab (σ⊕α)}(hf:∀s,ad X.E n (f s)){s s':σ}{r v:H}{F:ag}(aw:v.length<r.length)
  (h:f s r F= .ok (.inl s') v F\/pj X (f s r F)):jR X (cD f s r F) (cD f s' v F):=by
 rw[cL f s r F];rcases h with h|h
 ·rw[h];left;show(if v.length<r.length then cD f s' v F else .bad v)=_;grind
 ·right;cases hm:f s r F with
  |ok x r' b=>
   rw[hm] at h;cases x with
   |inl s2=>
    unfold dc;simp only;by_cases M:r'.length<r.length
    ·rw[ba M];have:=ad.rep X.ok hf s2 r' b (h.OV af);cases c:cD f s2 r' b with
     |ok a d e=>rw[c] at this;exact h.down X.ok this.1 this.2
     |more _ _ _=>trivial
     |bad _=>trivial
     |deep _=>rw[c] at this;exact this
    ·rw[aM M];trivial
   |inr a=>exact h
  |more _ _ _=>trivial
  |bad _=>trivial
  |deep _=>rw[hm] at h;exact h
def c5(X:fK)(F:ag)(u:H):Prop:=∀t r',10::t<:+u->kg F t= .inl r'->F=[]\/X.E.hs X.c0 r' []
theorem c5.sfx{v:H}(h:c5 X F u)(a:v<:+u):c5 X F v:=λt r' b c=>h t r' (b.trans a) c
theorem c5.nil:c5 X [] u:=λ_ _ _ _=> .inl rfl
theorem arw(h:c5 X F (10::t)):bM X (λr=>r=t) F (kh (10::t) F):=by
 show bM X _ F (match kg F t with| .inl r'=>dn.ok () r' []| .inr nd=> .more [[60,60]] nd []);cases a:kg F t with
 |inl r'=>
  rcases h t r' gr a with rfl|M
  ·cases a;exact .inl ⟨rfl,rfl⟩
  ·exact .inr M
 |inr nd=>trivial
abbrev w6(D:ab Unit):ab Unit:=cC D (some (eP D))
def Kn(D:ab Unit):Unit->ab (Unit⊕Unit):=λ_ r F=>match r with
 |[]=>b5 [] r F
 |_::_=>if cV r then .ok (.inr ()) r F else(N (w6 D) λ_=>aU (.inl ())) r F
def G0(c:UInt8)(p:ab Unit):Unit->ab (Unit⊕Unit):=λ_ r F=>match r with
 |[]=>b5 [] r F
 |b::t=>if b=c then .ok (.inr ()) t F else(N p λ_=>aU (.inl ())) r F
theorem VK(D:ab Unit):cR D=cD (Kn D) ():=rfl
theorem ac8(c:UInt8)(p:ab Unit):iQ c p=cD (G0 c p) ():=rfl
section
variable(hm:X.c0<=m)(hD:ad X.E m D)
theorem arx(hD:ad X.E m D)(s:Unit):ad X.E m (Kn D s):=by
 intro r F h;unfold Kn;cases r with
 |nil=>trivial
 |cons b t=>
  simp only;by_cases a:cV (b::t)=true
  ·rw[ba a];exact⟨gr,h.q⟩
  ·rw[aM a];exact ad.N X.ok (ad.zC X.ok hD) (λ_=>ad.ret _) _ _ h
theorem ary{p:ab Unit}(ah:ad X.E m p)(c:UInt8)(s:Unit):ad X.E m (G0 c p s):=by
 intro r F h;unfold G0;cases r with
 |nil=>trivial
 |cons b t=>
  simp only;by_cases a:b=c
  ·rw[ba a];exact⟨eL _ _,(h.q_ X.ok (eL b t)).q⟩
  ·rw[aM a];exact ad.N X.ok ah (λ_=>ad.ret _) _ _ h
theorem pj.inl{x:ab Unit}(h:pj X (x r F)):pj X (N x (λ_=>(aU (.inl ()):ab (Unit⊕Unit))) r F):=by
 unfold N;cases b:x r F with
 |ok a r' c=>rw[b] at h;exact h
 |more _ _ _=>trivial
 |bad _=>trivial
 |deep _=>rw[b] at h;exact h
include hm hD
theorem ac9{p v:H}(a:cV (p++v)=false)(ah:p≠[])(h:w6 D (p++v) F= .ok () v F\/pj X (w6 D (p++v) F)):jR X (cR D (p++v) F) (cR D v F):=by
 rw[VK];have aw:v.length<(p++v).length:=by grind[List.length_pos_iff]
 refine jR.rep hm (arx hD) aw ?_;have he:Kn D () (p++v) F=N (w6 D) (λ_=>aU (.inl ())) (p++v) F:=by unfold Kn;grind
 rw[he];rcases h with h|h
 ·left;rw[aJ h];rfl
 ·right;exact h.inl
theorem OW{p v:H}{c:UInt8}{q:ab Unit}(a:ad X.E m q)(aq:p.head?≠some c)(ah:p≠[])(h:q (p++v) F= .ok () v F\/pj X (q (p++v) F)):jR X (iQ c q (p++v) F) (iQ c q v F):=by
 rw[ac8];have aw:v.length<(p++v).length:=by grind[List.length_pos_iff]
 refine jR.rep hm (ary a c) aw ?_;have he:G0 c q () (p++v) F=N q (λ_=>aU (.inl ())) (p++v) F:=by
  unfold G0;cases p with
  |nil=>grind
  |cons b t=>grind
 rw[he];rcases h with h|h
 ·left;rw[aJ h];rfl
 ·right;exact h.inl
end
def e2(X:fK)(D:ab Unit)(w:H):Prop:=∀v F,v≠[]->c5 X F (w++v)->jR X (cR D (w++v) F) (cR D v F)/\jR X (iQ 125 (w6 D) (w++v) F) (iQ 125 (w6 D) v F)
theorem z4(M:fV b=false)(U:b≠10)(a:qs b=false):cV (b::t)=false:=by show(fV b||b==10||bt (b::t)!=[])=false;grind[m3]
section
variable(hm:X.c0<=m)(hD:ad X.E m D)
theorem e2.app{d c:H}(M:e2 X D d)(U:e2 X D c):e2 X D (d++c):=by intro v F e af;rw[uS] at af⊢;have a:=M (c++v) F (by simp[e]) af;have b:=U v F e (af.sfx (gq _ _));exact⟨a.1.trans b.1,a.2.trans b.2⟩
include hm hD
theorem e2.part{p:H}(b:∀v,cV (p++v)=false)(ah:p≠[])(aq:p.head?≠some 125)(h:∀v F,v≠[]->c5 X F (p++v)->w6 D (p++v) F= .ok () v F\/pj X (w6 D (p++v) F)):e2 X D p:=by intro v F a af;exact⟨ac9 hm hD (b v) ah (h v F a af),OW hm (hD:=hD) (ad.zC X.ok hD) aq ah (h v F a af)⟩
theorem e2.byte(M:fV b=false)(U:b≠10)(a:qs b=false)(c:b≠92/\b≠39/\b≠34/\b≠96/\b≠36/\b≠125):e2 X D [b]:=by refine e2.part hm hD (λv=>z4 M U a) (by simp) (by grind) (λv F d af=> .inl ?_);simp_all[cC,tf]
theorem e2.bytes:∀{w:H},w≠[]->(w.all λb=> !fV b&&b !=10&& !qs b&&b !=92&&b !=39&&b !=34&&b !=96&&b !=36&&b !=125)=true->e2 X D w
 |[],h,_=>absurd rfl h
 |[b],_,h=>by grind[e2.byte]
 |b::c::t,_,h=>by rw[BU,h4] at h;have h0:=h.1;simp at h0;have a:e2 X D [b]:=e2.byte hm hD h0.1.1.1.1.1.1.1.1 h0.1.1.1.1.1.1.1.2 h0.1.1.1.1.1.1.2 ⟨h0.1.1.1.1.1.2,h0.1.1.1.1.2,h0.1.1.1.2,h0.1.1.2,h0.1.2,h0.2⟩;have d:=e2.bytes (w:=c::t) (by simp) h.2;have:=a.app d;exact this
theorem e2.single(a:(39:UInt8)∉x):e2 X D (39::x++[39]):=by
 have Y:∀v,gw (x++39::v)=some v:=by
  intro v;induction x with
  |nil=>rfl
  |cons b t c=>simp only[lS,B0] at a;simp_all[gw,Ne.symm]
 refine e2.part hm hD (λv=>z4 (by decide) (by decide) (by decide)) (by simp) (by simp) (λv F d af=> .inl ?_);simp_all[cC,tf,ki]
theorem e2.tick(a:∀v,gx (x++96::v)=some v):e2 X D (96::x++[96]):=by refine e2.part hm hD (λv=>z4 (by decide) (by decide) (by decide)) (by simp) (by simp) (λv F b af=> .inl ?_);show cC D (some (eP D)) (96::(x++[96]++v)) F=_;simp_all[cC,ki]
theorem e2.ac_(b:UInt8):e2 X D [92,b]:=by refine e2.part hm hD (λv=>z4 (by decide) (by decide) (by decide)) (by simp) (by simp) (λv F a af=> .inl ?_);rfl
end
def uI(X:fK)(D:ab Unit)(x:H):Prop:=∀v F,v≠[]->c5 X F (x++v)->jR X (iQ 34 (cC D none) (x++v) F) (iQ 34 (cC D none) v F)
theorem ada{c:UInt8}{p:ab Unit}{v:H}:iQ c p (c::v) F= .ok () v F:=by simp[ac8,cL,G0,dc]
section
variable(hm:X.c0<=m)(hD:ad X.E m D)
theorem uI.app{b a:H}(M:uI X D b)(U:uI X D a):uI X D (b++a):=by intro v F c af;rw[uS] at af⊢;exact(M (a++v) F (by simp[c]) af).trans (U v F c (af.sfx (gq _ _)))
theorem jR.named{x:H}{α:Type}{f g:ab α}{r r':H}{F a:ag}(h:jR X (f r F) (g r' a)):jR X (f.named x r F) (g.named x r' a):=by
 rcases h with h|h
 ·left;grind[ab.named]
 ·right;unfold ab.named;cases hf:f r F<;>rw[hf] at h<;>first|exact h|trivial
theorem jR.aG{x:H}{α:Type}{f g:ab α}{r r':H}{F a:ag}(h:jR X (f r F) (g r' a)):jR X (f.aG x r F) (g.aG x r' a):=by
 rcases h with h|h
 ·left;grind[ab.aG]
 ·right;unfold ab.aG;cases hf:f r F<;>rw[hf] at h<;>first|exact h|trivial
include hm hD
theorem e2.double(a:uI X D x):e2 X D (34::x++[34]):=by
 refine e2.part hm hD (λv=>z4 (by decide) (by decide) (by decide)) (by simp) (by simp) (λv F c af=>?_);have he:w6 D (34::x++[34]++v) F=eP D (x++34::v) F:=by simp[cC,tf]
 rw[he];have b:c5 X F (x++34::v):=af.sfx ⟨[34],by simp⟩;have M:jR X (eP D (x++34::v) F) (eP D (34::v) F):=(a (34::v) F (by simp) b).aG.named;have U:eP D (34::v) F= .ok () v F:=by simp[eP,ab.named,ab.aG,ada]
 rw[U] at M;exact M
theorem uI.byte(c:b≠92/\b≠34/\b≠96/\b≠36):uI X D [b]:=by intro v F d af;refine OW hm (hD:=hD) (ad.part X.ok hD (λq a=>by cases a)) (by grind) (by simp) (.inl ?_);simp_all[cC,tf]
theorem e2.VL:e2 X D [36,120]:=by
 intro v F d af;have M:w6 D (36::120::v) F= .ok () (120::v) F:=by rfl
 have a:=e2.byte hm hD (b:=120) (by decide) (by decide) (by decide) (by decide) v F d (af.sfx (eL _ _));have e:=ac9 hm hD (p:=[36]) (v:=120::v) (F:=F) (z4 (by decide) (by decide) (by decide)) (by simp) (.inl M);have av:=OW hm (hD:=hD) (p:=[36]) (v:=120::v) (F:=F) (c:=125) (ad.zC X.ok hD) (by simp) (by simp) (.inl M);exact⟨e.trans a.1,av.trans a.2⟩
theorem e2.arith(aw:D=dj lo):e2 X D [36,40,40,49,43,40,50,41,41,41]:=by refine e2.part hm hD (λv=>z4 (by decide) (by decide) (by decide)) (by simp) (by simp) (λv F a af=> .inl ?_);show cC D (some (eP D)) (36::40::40::49::43::40::50::41::41::41::v) F=_;unfold cC;simp only;rw[aM (by decide),aM (by decide),ba (by rfl),aw];rfl
theorem e2.consts(aw:D=dj lo):∀w∈nz,e2 X D w:=by
 have a:∀{w:H},w≠[]->(w.all λb=> !fV b&&b !=10&& !qs b&&b !=92&&b !=39&&b !=34&&b !=96&&b !=36&&b !=125)=true->e2 X D w:=λM U=>e2.bytes hm hD M U
 intro w c;simp only[nz,GZ,jI,ps,lS,ru,uT] at c;rcases c with rfl|rfl|rfl|rfl|rfl|rfl|rfl|rfl|rfl|rfl|rfl|rfl|rfl|rfl|rfl
 ·exact e2.single hm hD (x:=[113,32,114]) (by decide)
 ·exact e2.double hm hD (x:=[97,32,98]) (((uI.byte hm hD (b:=97) (by decide)).app (uI.byte hm hD (b:=32) (by decide))).app (uI.byte hm hD (b:=98) (by decide)))
 ·exact((a (w:=[97]) (by simp) (by decide)).app (e2.ac_ hm hD 32)).app (a (w:=[98]) (by simp) (by decide))
 ·grind[e2.VL]
 ·grind[e2.arith]
 ·exact e2.tick hm hD (x:=[99,32,100]) (λv=>by simp[gx];unfold gx;simp)
 ·exact a (by simp) (by decide)
 ·exact((a (w:=[97]) (by simp) (by decide)).app (e2.ac_ hm hD 10)).app (a (w:=[98]) (by simp) (by decide))
 ·exact a (by simp) (by decide)
 ·exact a (by simp) (by decide)
 ·exact a (by simp) (by decide)
 ·exact a (by simp) (by decide)
 ·exact a (by simp) (by decide)
 ·exact a (by simp) (by decide)
 ·exact a (by simp) (by decide)
end
def pk(d:Nat)(x:H):Prop:=∀v,ij d (x++v)=ij d v\/∃q,ij d (x++v)= .bad q
def dZ(x:H):Prop:=∀d,pk d x
theorem pk.app{y:H}(M:pk d x)(U:pk d y):pk d (x++y):=by
 intro v;rw[uS];rcases M (y++v) with h|h
 ·rw[h];exact U v
 grind
theorem dZ.app{x y:H}(M:dZ x)(U:dZ y):dZ (x++y):=λd=>(M d).app (U d)
theorem dZ.nil:dZ []:=λd v=> .inl rfl
theorem dZ.bad(h:b=39\/b=34\/b=92\/b=96):dZ (b::x):=by intro d v;right;rw[jI,sv,ba (by grind)];simp
theorem dZ.opens{c:UInt8}(h:c=40\/c=123):dZ (36::c::x):=by intro d v;right;rw[List.cons_append,sv,if_pos (by grind[fD])];simp
theorem dZ.byte(h:b≠39/\b≠34/\b≠92/\b≠96/\b≠36/\b≠40/\b≠41):dZ [b]:=by intro d v;simp_all[sv,tf]
theorem dZ.bytes:∀{w:H},(w.all λb=>b !=39&&b !=34&&b !=92&&b !=96&&b !=36&&b !=40&&b !=41)=true->dZ w
 |[],_=>dZ.nil
 |b::t,h=>by rw[BU,h4] at h;have h0:=h.1;simp at h0;have:=(dZ.byte (b:=b) ⟨h0.1.1.1.1.1.1,h0.1.1.1.1.1.2,h0.1.1.1.1.2,h0.1.1.1.2,h0.1.1.2,h0.1.2,h0.2⟩).app (dZ.bytes h.2);exact this
theorem dZ.paren(h:dZ x):dZ ([40]++x++[41]):=by
 intro d v;have M:ij d ([40]++x++[41]++v)=ij (d+1) (x++41::v):=by show ij d (40::(x++[41]++v))=_;simp[sv,fD]
 rw[M];rcases h (d+1) (41::v) with U|U
 ·simp_all[sv,fD]
 grind
theorem dZ.VL:dZ [36,120]:=by intro d v;simp[sv,fD]
theorem dZ.consts:∀w∈nz,dZ w:=by
 intro w a;simp only[nz,GZ,jI,ps,lS,ru,uT] at a;rcases a with rfl|rfl|rfl|rfl|rfl|rfl|rfl|rfl|rfl|rfl|rfl|rfl|rfl|rfl|rfl
 ·simp[dZ.bad]
 ·simp[dZ.bad]
 ·exact(dZ.bytes (w:=[97]) (by decide)).app (dZ.bad (b:=92) (x:=[32,98]) (by simp))
 ·exact dZ.VL
 ·simp[dZ.opens]
 ·simp[dZ.bad]
 ·simp[dZ.bytes]
 ·exact(dZ.bytes (w:=[97]) (by decide)).app (dZ.bad (b:=92) (x:=[10,98]) (by simp))
 ·simp[dZ.bytes]
 ·simp[dZ.bytes]
 ·simp[dZ.bytes]
 ·simp[dZ.bytes]
 ·simp[dZ.bytes]
 ·simp[dZ.bytes]
 simp[dZ.bytes]
theorem dZ.word{w:H}(h:gh d w):dZ w:=by
 cases d with
 |zero=>exact dZ.consts w h
 |succ d=>
  rcases h with h|⟨t,_,h|h⟩|⟨v,_,h⟩
  ·grind[dZ.consts]
  ·simp_all[dZ.opens]
  ·grind[dZ.bad]
  simp_all[dZ.opens]
theorem dZ.args{W:H->Prop}(hW:∀w,W w->dZ w):∀{ws:bs},(∀w∈ws,W w)->dZ (ji ws)
 |[],_=>dZ.nil
 |w::t,h=>by have:=(dZ.bytes (w:=[32]) (by decide)).app ((hW w (h w (by simp))).app (dZ.args hW (ws:=t) (λw a=>h w (by grind))));exact this
theorem arz:∀h∈rl,dZ h:=by intro h a;simp only[rl,lS,ru,uT] at a;rcases a with rfl|rfl|rfl|rfl<;>exact dZ.bytes (by decide)
theorem dZ.simple{W a:H->Prop}(hW:∀w,W w->dZ w)(d:∀w,a w->dZ w){s:H}(h:qD W a s):dZ s:=by
 obtain⟨c,ws,r,M,U,rfl,b⟩:=h;refine((arz c M).app (dZ.args hW U)).app ?_;rcases b with rfl|rfl|⟨w,e,rfl⟩
 ·exact dZ.nil
 ·simp[dZ.bytes]
 grind[dZ.bytes,dZ.app]
theorem arA:∀h∈jt,dZ h:=by intro h a;simp only[jt,lS,ru,uT] at a;rcases a with rfl|rfl|rfl|rfl|rfl|rfl|rfl|rfl<;>exact dZ.bytes (by decide)
theorem pk.VM{d:Nat}{C:H->Prop}(a:∀c,C c->pk d c):∀{l:List (H×H)},(∀p∈l,p.1∈jt/\C p.2)->pk d (cY l)
 |[],_=>dZ.nil d
 |p::t,h=>by have:=((arA p.1 (h p (by simp)).1 d).app (a p.2 (h p (by simp)).2)).app (pk.VM a (l:=t) (λq b=>h q (by grind)));exact this
theorem pk.arB{c:H}(h:z3 1 c):pk 0 c:=by
 rcases h with h|h
 ·exact dZ.simple (λw e=>dZ.word (d:=1) e) (λw e=>dZ.word (d:=0) e) h 0
 ·have bm:∀t,gX 0 t->dZ t:=λt i=>by
   intro d;obtain⟨c,l,M,U,rfl⟩:=i;have g:∀c,qD (λw=>w∈nz) (λw=>w∈nz) c->pk d c:=λc aq=>dZ.simple dZ.consts dZ.consts aq d
   exact(g c M).app (pk.VM g U)
  have hW:∀w,gh 0 w->dZ w:=λw e=>dZ.consts w e
  have a:∀{w:H},(w.all λb=>b !=39&&b !=34&&b !=92&&b !=96&&b !=36&&b !=40&&b !=41)=true->dZ w:=λh=>dZ.bytes h
  rcases h with⟨t,M,rfl⟩|⟨t,M,rfl⟩|⟨t,u,M,U,rfl⟩|⟨t,u,M,U,rfl⟩|⟨t,u,M,U,rfl⟩|⟨w,u,M,U,rfl⟩|rfl|⟨w,u,M,U,rfl⟩|⟨t,M,rfl⟩
  ·exact dZ.paren (bm t M) 0
  ·exact(((a (by decide)).app ((bm t M).app (a (by decide)))).app (a (by decide))) 0
  ·exact(((((a (by decide)).app ((bm t M).app (a (by decide)))).app (a (by decide))).app ((bm u U).app (a (by decide)))).app (a (by decide))) 0
  ·exact(((((a (by decide)).app ((bm t M).app (a (by decide)))).app (a (by decide))).app ((bm u U).app (a (by decide)))).app (a (by decide))) 0
  ·exact(((((a (by decide)).app ((bm t M).app (a (by decide)))).app (a (by decide))).app ((bm u U).app (a (by decide)))).app (a (by decide))) 0
  ·exact(((((a (by decide)).app (hW w M)).app (a (by decide))).app ((bm u U).app (a (by decide)))).app (a (by decide))) 0
  ·exact a (by decide) 0
  ·
   have f:pk 0 ([99,97,115,101,32]++w++[32,105,110,32,97,124,98]):=(((a (by decide)).app (hW w M)).app (a (by decide))) 0;intro v;have he:[99,97,115,101,32]++w++[32,105,110,32,97,124,98,41,32]++(u++[])++[59,59,10,40,99,41,32,59,59,32,100,41,32,101,115,97,99]++v=([99,97,115,101,32]++w++[32,105,110,32,97,124,98])++(41::32::(u++[59,59,10,40,99,41,32,59,59,32,100,41,32,101,115,97,99]++v)):=by simp
   rw[he];right;rcases f (41::32::(u++[59,59,10,40,99,41,32,59,59,32,100,41,32,101,115,97,99]++v)) with aQ|aQ
   ·simp_all[sv]
   omega
  ·have f:dZ ([102]++([40]++[]++[41])++[32,123,10]++(t++[10])++[125,32,62,102]):=((((a (by decide)).app (dZ.paren dZ.nil)).app (a (by decide))).app ((bm t M).app (a (by decide)))).app (a (by decide));exact f 0
theorem pk.arC(aB:d<=1)(h:gX d t):pk 0 t:=by
 rw[OT] at h;obtain⟨c,l,M,U,rfl⟩:=h
 have b:∀c,z3 d c->pk 0 c:=by
  intro c aq;rcases Nat.le_one_iff_eq_zero_or_eq_one.1 aB with rfl|rfl
  ·exact dZ.simple (λw a=>dZ.word (d:=0) a) (λw a=>dZ.word (d:=0) a) aq 0
  grind[pk.arB]
 exact(b c M).app (pk.VM b U)
def VN(X:fK)(m d:Nat):Prop:=∀t v F,gX d t->c5 X F (t++41::v)->bM X (λr=>r=41::v) F ((aW true m).ls .paren true (t++41::v) F)
theorem oY(v:H):bg (41::v)=some (41::v):=by unfold bg;rfl
theorem oj(v:H):ar (41::v)= .op [41]:=by rfl
theorem arD{c:H}(h:z3 d c):∃b t,c=b::t/\(b=40->∃a u,d=a+1/\gX a u/\c=[40]++u++[41]):=by
 have Y:∀{W e:H->Prop},qD W e c->∃b t,c=b::t/\(b=40->∃a u,d=a+1/\gX a u/\c=[40]++u++[41]):=by rintro W e ⟨x,ws,r,M,U,rfl,f⟩;simp only[rl,lS,ru,uT] at M;grind
 cases d with
 |zero=>exact Y h
 |succ d=>
  rcases h with h|h
  ·grind
  ·rcases h with⟨t,M,rfl⟩|⟨t,M,rfl⟩|⟨t,u,M,U,rfl⟩|⟨t,u,M,U,rfl⟩|⟨t,u,M,U,rfl⟩|⟨w,u,M,U,rfl⟩|rfl|⟨w,u,M,U,rfl⟩|⟨t,M,rfl⟩
   ·grind
   all_goals simp
theorem arE:∀j∈jt,∃b t,j=b::t/\b≠41:=by simp[jt]
section
variable(hm:X.c0<=m)
include hm in
theorem VO(aB:d<=2)(eJ:VN X m d)(bm:xU X.E m){v:H}(ao:gX d t)(af:c5 X F ([36,40]++t++[41]++v)):dj (some (aW true m)) ([36,40]++t++[41]++v) F= .ok () v F\/pj X (dj (some (aW true m)) ([36,40]++t++[41]++v) F):=by
 have he:[36,40]++t++[41]++v=36::40::(t++41::v):=by simp
 rw[he] at af⊢;have vB:=ao;rw[OT] at vB;obtain⟨c,l,M,U,mu⟩:=vB;obtain⟨b,nJ,aq,gg⟩:=arD M;by_cases hb:b=40
 ·
  obtain⟨d1,u,rfl,hu,N9⟩:=gg hb;subst mu;have c8:dj (some (aW true m)) (36::40::(c++cY l++41::v)) F=oK (u++(41::(cY l++41::v))) F:=by rw[N9];unfold dj;rw[ba (by simp)];show oK _ F=_;simp
  rw[c8];unfold oK;rcases pk.arC (by omega) hu (41::(cY l++41::v)) with au|⟨q,au⟩
  ·rw[au];cases l with
   |nil=>left;rfl
   |cons p l=>
    obtain⟨arF,arG,cy,avA⟩:=arE p.1 (U p (by simp)).1;right
    have:∃q,ij 0 (41::(cY (p::l)++41::v))= .bad q:=by
     have Z:cY (p::l)++41::v=arF::(arG++p.2++cY l++41::v):=by grind[cY]
     simp_all[sv]
    obtain⟨q,aH⟩:=this;rw[aH];trivial
  ·right;rw[au];trivial
 ·have c8:dj (some (aW true m)) (36::40::(t++41::v)) F=uh (aW true m) (t++41::v) F:=by
   have adb:∃Tp,t=b::Tp:=⟨nJ++cY l,by grind⟩
   obtain⟨Tp,adb⟩:=adb;unfold dj;rw[aM (by grind),if_pos (by simp)];rfl
  rw[c8];have ie:c5 X F (t++41::v):=af.sfx ⟨[36,40],rfl⟩;have au:=eJ t v F ao ie;have aQ:bM X (λr=>r=v) F (uh (aW true m) (t++41::v) F):=by unfold uh;refine bM.N hm au.aG.named (λa r' _ x2=>?_) (λa=>ad.jr X.ok _);subst x2;rw[Bm (oY v) (oj v)];exact .inl ⟨rfl,rfl⟩
  cases ah:uh (aW true m) (t++41::v) F with
  |ok a r' aE=>
   rw[ah] at aQ;rcases aQ with⟨rfl,rfl⟩|aQ
   ·simp
   ·exact .inr aQ
  |more _ _ _=>right;trivial
  |bad _=>right;trivial
  |deep _=>rw[ah] at aQ;exact aQ.elim
end
theorem arH(n:Nat):(aW true n).pm=qp (aW true n).dl:=by cases n<;>rfl
theorem ade(ok:E.mT)(bm:xU E m):ad E (m+1) (dj (some (aW true m))):=ad.TD ok (.inr ⟨m,rfl,rfl,bm⟩)
section
variable(hm:X.c0<=m)(bm:xU X.E m)
include hm bm
theorem adf{w v:H}(c:e2 X (aW true m).dl w)(af:c5 X F ([36,123,120,58,45]++w++[125]++v)):dj (some (aW true m)) ([36,123,120,58,45]++w++[125]++v) F= .ok () v F\/pj X (dj (some (aW true m)) ([36,123,120,58,45]++w++[125]++v) F):=by
 have he:[36,123,120,58,45]++w++[125]++v=36::123::([120,58,45]++(w++125::v)):=by simp
 rw[he] at af⊢;have d:dj (some (aW true m)) (36::123::([120,58,45]++(w++125::v))) F=((aW true m).pm.named [36,123]) ([120,58,45]++(w++125::v)) F:=by rfl
 rw[d,arH];have a:c5 X F ([120,58,45]++(w++125::v)):=af.sfx ⟨[36,123],rfl⟩;have M:=(e2.bytes hm bm.dl (w:=[120,58,45]) (by simp) (by decide) (w++125::v) F (by simp) a).2;have U:=(c (125::v) F (by simp) (a.sfx (gq _ _))).2;have b:=(M.trans U);rw[ada] at b;have e:jR X (((qp (aW true m).dl).named [36,123]) ([120,58,45]++(w++125::v)) F) (.ok () v F):=by have:jR X (((iQ 125 (w6 (aW true m).dl)).aG [125]).named [36,123] ([120,58,45]++(w++125::v)) F) (((aU ():ab Unit).aG [125]).named [36,123] v F):=jR.named (jR.aG b);exact this
 exact e
theorem e2.VP{p:H}(ah:∃c q,p=36::c::q/\(c=40\/c=123))(h:∀v F,v≠[]->c5 X F (p++v)->dj (some (aW true m)) (p++v) F= .ok () v F\/pj X (dj (some (aW true m)) (p++v) F)):e2 X (dj (some (aW true m))) p/\uI X (dj (some (aW true m))) p:=by
 obtain⟨c,q,rfl,aq⟩:=ah;have hD:=ade X.ok bm
 have d:∀dq v F,cC (dj (some (aW true m))) dq (36::c::q++v) F=dj (some (aW true m)) (36::c::q++v) F:=by intro dq v F;show cC (dj (some (aW true m))) dq (36::c::(q++v)) F=_;unfold cC;simp only;rw[aM (by decide),aM (by decide),ba (by rcases aq with rfl|rfl<;>rfl)];rfl
 refine⟨e2.part (by omega) hD (λv=>z4 (by decide) (by decide) (by decide)) (by simp) (by simp) (λv F a af=>?_),λv F a af=>?_⟩
 ·grind
 ·refine OW (m:=m+1) (by omega) (hD:=hD) (ad.part X.ok hD (λq b=>by cases b)) (by simp) (by simp) ?_;grind
theorem adg(aB:d<=2)(eJ:VN X m d)(hW:∀w,gh d w->e2 X (aW true m).dl w):∀w,gh (d+1) w->e2 X (dj (some (aW true m))) w:=by
 have hD:=ade X.ok bm;intro w h;rcases h with h|⟨t,M,h|h⟩|⟨v,M,h⟩
 ·exact e2.consts (m:=m+1) (by omega) hD rfl w h
 ·subst h;exact(e2.VP hm bm ⟨40,t++[41],rfl,.inl rfl⟩ (λv F a af=>VO hm aB eJ bm M af)).1
 ·subst h;have U:=(e2.VP hm bm (p:=[36,40]++t++[41]) ⟨40,t++[41],rfl,.inl rfl⟩ (λv F a af=>VO hm aB eJ bm M af)).2;have c:=e2.double (m:=m+1) (by omega) hD (uI.app (uI.byte (m:=m+1) (by omega) hD (b:=120) (by decide)) U);grind
 ·subst h;exact(e2.VP hm bm ⟨123,[120,58,45]++v++[125],rfl,.inr rfl⟩ (λu F hu af=>adf hm bm (hW v M) af)).1
end
structure ez(v v':H):Prop where
 ne:v≠[]
 iX:cV v=true
 qF:bg v=some v'
 BM:ar v'= .line\/∃o,ar v'= .op o/\fm o=false/\o≠[40]
theorem ez.idem{v:H}(h:ez v v'):bg v'=some v':=lz _ _ _ (cS _) h.qF
theorem ez.arI{v:H}(h:ez v v'):fm (bt (v'.dropWhile cd))=false:=by
 rcases h.BM with a|⟨o,a,M,U⟩
 ·obtain⟨t,rfl⟩:=wL a;rfl
 ·have c:=(ib a).1;have bj:=(ib a).2.2.2;cases v' with
  |nil=>simp_all
  |cons b t=>
   have d:cd b=false:=by
    cases aB:cd b with
    |false=>rfl
    |true=>simp_all[Bp,m3]
   simp_all
theorem ez.gP{v:H}(h:ez v v')(D:ab Unit)(F:ag):dM D v F= .ok false v' F:=ti h.qF h.arI
theorem ez.l4{v:H}(h:ez v v')(D:ab Unit)(F:ag):gH D v F= .ok () v' F:=by unfold gH;rw[cL,aJ (h.gP D F)];rfl
theorem ez.simple{v:H}(h:ez v v')(D:ab Unit)(F:ag):gS true D v F= .ok () v' F:=by
 unfold gS;rw[cL,aJ (h.gP D F)];simp only[fR,cZ];rw[aJ (bL h.idem)];rcases h.BM with a|⟨o,a,M,U⟩
 ·rw[a];rfl
 ·rw[a];simp only;rw[aM (λb=>U b.2)];rfl
def yn(w:H):Prop:=∃b t,w=b::t/\fV b=false/\b≠10/\b≠92/\b≠35/\qs b=false/\cd b=false
theorem OX{w:H}(h:gh d w):yn w:=by
 have az:∀w∈nz,yn w:=by intro w a;simp only[nz,GZ,jI,ps,lS,ru,uT] at a;rcases a with rfl|rfl|rfl|rfl|rfl|rfl|rfl|rfl|rfl|rfl|rfl|rfl|rfl|rfl|rfl<;>exact⟨_,_,rfl,by decide,by decide,by decide,by decide,by decide,by decide⟩
 cases d with
 |zero=>exact az w h
 |succ d=>
  rcases h with h|⟨t,_,h|h⟩|⟨v,_,h⟩
  ·grind
  all_goals (subst h;exact⟨_,_,rfl,by decide,by decide,by decide,by decide,by decide,by decide⟩)
theorem yn.tok{w:H}(h:yn w):bg (w++u)=some (w++u)/\(∃x p,ar (w++u)= .word x p)/\fm (bt ((w++u).dropWhile cd))=false:=by
 obtain⟨b,t,rfl,M,U,a,c,d,e⟩:=h;refine⟨jD M c a,?_,?_⟩
 ·show∃x p,ar (b::(t++u))= .word x p
  have:ar (b::(t++u))=if b=10 then Tok.line else if bt (b::(t++u))≠[] then .op (bt (b::(t++u))) else .word (di (b::(t++u))).1 (di (b::(t++u))).2:=rfl
  simp_all[m3]
 ·have:(b::t++u).dropWhile cd=b::t++u:=by simp_all
  rw[this,jI,m3 d];decide
section
variable(hm:X.c0<=m)(hD:ad X.E m D)
include hm hD
theorem arJ{w:H}(a:yn w)(c:e2 X D w)(hu:cV u=true)(d:u≠[])(af:c5 X F (w++u)):jR X (gS true D (32::(w++u)) F) (gS true D u F):=by
 obtain⟨e,⟨x,p,f⟩,g⟩:=a.tok (u:=u);have h:bg (32::(w++u))=some (w++u):=by grind[j9]
 unfold gS;have i:cR D u F= .ok () u F:=by
  rw[VK,cL];cases u with
  |nil=>grind
  |cons b t=>show dc _ _ (if cV (b::t)=true then _ else _)=_;rw[ba hu];rfl
 have M:=(c u F d af).1;rw[i] at M;refine jR.rep hm (λs=>?_) (s:=()) (s':=()) (v:=u) (by grind) ?_
 ·refine ad.N X.ok (ad.gP X.ok hD) λb=>ad.ite (ad.ret _) (ad.gf X.ok λt=>?_);cases t with
  |word _ _=>exact ad.N X.ok (ad.cR X.ok hD) λ_=>ad.ret _
  |op o=>simp[ad.ite,ad.b6,ad.ret]
  |line=>simp[ad.ret]
  |eof=>simp[ad.ret]
 ·rw[aJ (ti h g)];simp only[fR,cZ];rw[aJ (bL e),f];simp only;rcases M with M|M
  ·left;rw[aJ M];rfl
  ·right;exact M.inl
end
theorem Ko(hu:cV u=true)(a:u≠[]):cR D u F= .ok () u F:=by
 rw[VK,cL];cases u with
 |nil=>grind
 |cons b t=>show dc _ _ (if cV (b::t)=true then _ else _)=_;rw[ba hu];rfl
def G1(D:ab Unit):Unit->ab (Unit⊕Unit):=λ_=>N (dM D) λb=>if b then aU (.inl ()) else N (bN []) λt=>match t with
 | .word _ _=>N (cR D) λ_=>aU (.inl ())
 | .op o=>if true/\o=[40] then b6 else aU (.inr ())
 |_=>aU (.inr ())
theorem adh(h:qs b=false):bt (62::b::t)=[62]:=by simp only[qs,Pr,Wy,ne_eq] at h;simp_all[Ne.symm,bt,l2]
theorem pj.N{X:fK}{n:Nat}(af:X.c0<=n){α β:Type}{f:ab α}{k:α->ab β}{r:H}{F:ag}(h:pj X (f r F))(az:∀a,ad X.E n (k a)):pj X (Eng.N f k r F):=by
 unfold Eng.N;cases b:f r F with
 |ok a r' c=>
  rw[b] at h;have:=az a r' c (lh.hs.OV h af);simp only;cases d:k a r' c with
  |ok _ _ _=>rw[d] at this;exact lh.hs.down X.ok h this.1 this.2
  |more _ _ _=>trivial
  |bad _=>trivial
  |deep _=>rw[d] at this;exact this
 |more _ _ _=>trivial
 |bad _=>trivial
 |deep _=>rw[b] at h;exact h
section
variable(hm:X.c0<=m)(hD:ad X.E m D)
include hm hD
theorem adi{W:H->Prop}(hW:∀w,W w->yn w/\e2 X D w){u:H}(hu:cV u=true)(c:u≠[]):∀{ws:bs}{F:ag},(∀w∈ws,W w)->c5 X F (ji ws++u)->jR X (gS true D (ji ws++u) F) (gS true D u F)
 |[],F,_,_=>jR.refl _
 |w::t,F,h,af=>by
  have he:ji (w::t)++u=32::(w++(ji t++u)):=by simp[ji]
  rw[he] at af⊢;have b:c5 X F (w++(ji t++u)):=af.sfx (eL _ _);have d:cV (ji t++u)=true:=by
   cases t with
   |nil=>grind[ji]
   |cons a t=>rfl
  obtain⟨M,U⟩:=hW w (h w (by simp));exact(arJ hm hD M U d (by simp_all) b).trans (adi hW hu c (ws:=t) (λw e=>h w (by grind)) (b.sfx (List.suffix_append _ _)))
theorem arK{W:H->Prop}(hW:∀w,W w->yn w/\e2 X D w){v:H}(Z:r=[]\/r=[32,50,62,38,49]\/∃w,W w/\r=[32,62]++w)(a:ez v v')(af:c5 X F (r++v)):bM X (λq=>q=v') F (gS true D (r++v) F):=by
 have d:bM X (λq=>q=v') F (gS true D v F):=by rw[a.simple];exact .inl ⟨rfl,rfl⟩
 have c:∀s,ad X.E m (G1 D s):=λs=>by
  unfold G1;refine ad.N X.ok (ad.gP X.ok hD) λb=>ad.ite (ad.ret _) (ad.gf X.ok λt=>?_);cases t with
  |word _ _=>exact ad.N X.ok (ad.cR X.ok hD) λ_=>ad.ret _
  |op o=>simp[ad.ite,ad.b6,ad.ret]
  |line=>simp[ad.ret]
  |eof=>simp[ad.ret]
 have e:∀{u:H},v.length<u.length->(dM D u F= .ok true v F\/pj X (dM D u F))->jR X (gS true D u F) (gS true D v F):=by
  intro u aw h;show jR X (cD (G1 D) () u F) (cD (G1 D) () v F);refine jR.rep hm c aw ?_;rcases h with h|h
  ·left;unfold G1;rw[aJ h];rfl
  ·right;unfold G1;refine pj.N hm h λb=>ad.ite (ad.ret _) (ad.gf X.ok λt=>?_);cases t with
   |word _ _=>exact ad.N X.ok (ad.cR X.ok hD) λ_=>ad.ret _
   |op o=>simp[ad.ite,ad.b6,ad.ret]
   |line=>simp[ad.ret]
   |eof=>simp[ad.ret]
 rcases Z with rfl|rfl|⟨w,g,rfl⟩
 ·grind
 ·refine(e (u:=32::50::62::38::49::v) (by grind) (.inl ?_)).D2 d;have M:fI (32::50::62::38::49::v) F= .ok (some [62,38]) (49::v) F:=by unfold fI;rw[j9,jD (by decide) (by decide) (by decide)];rfl
  unfold dM;rw[aJ M];simp only;rw[aM (by decide),aM (by decide)];have U:jP D [120] (49::v) F= .ok () v F:=by
   unfold jP;rw[aJ (bL (jD (by decide) (by decide) (by decide)))]
   have:∃x p,ar (49::v)= .word x p:=by
    have:ar (49::v)=if(49:UInt8)=10 then Tok.line else if bt (49::v)≠[] then .op (bt (49::v)) else .word (di (49::v)).1 (di (49::v)).2:=rfl
    rw[this,aM (by decide),m3 (by decide)];simp
   obtain⟨x,p,i⟩:=this;rw[i];simp only;rw[Dt (z4 (by decide) (by decide) (by decide)) (Z2 (by decide)) (by simp),Ko a.iX a.ne]
  rw[aJ U];rfl
 ·obtain⟨M,U⟩:=hW w g;refine(e (u:=32::62::(w++v)) (by grind) ?_).D2 d;obtain⟨j,⟨x,p,k⟩,A⟩:=M.tok (u:=v);have l:fI (32::62::(w++v)) F= .ok (some [62]) (w++v) F:=by
   unfold fI;rw[j9,jD (by decide) (by decide) (by decide)];obtain⟨b,t,rfl,_,_,_,_,br,_⟩:=M;have n:bt (62::(b::t++v))=[62]:=adh br;have aB:(62::(b::t++v):H).dropWhile cd=62::(b::t++v):=by rfl
   simp only;rw[aB,n,ba (by decide)];rfl
  have y:c5 X F (w++v):=af.sfx ⟨[32,62],rfl⟩;have f:=(U v F a.ne y).1;rw[Ko a.iX a.ne] at f;have br:jP D [120] (w++v) F= .ok () v F\/pj X (jP D [120] (w++v) F):=by unfold jP;rw[aJ (bL j),k];exact f
  have z:dM D (32::62::(w++v)) F=N (jP D [120]) (λ_=>aU true) (w++v) F:=by unfold dM;rw[aJ l];simp
  rw[z];rcases br with br|br
  ·left;rw[aJ br];rfl
  grind[pj.N,ad.ret]
end
def adj(h:H):Prop:=h≠[]/\h.all qt=true/\q3 h=false/\oJ h=false/\(∃b t,h=b::t/\fV b=false/\b≠92/\b≠35/\cd b=false/\qs b=false)
theorem arL:∀h∈rl,adj h:=by intro h a;simp only[rl,lS,ru,uT] at a;rcases a with rfl|rfl|rfl|rfl<;>exact⟨by decide,by decide,by decide,by decide,_,_,rfl,by decide,by decide,by decide,by decide,by decide⟩
theorem arM{ws:bs}{v:H}(Z:r=[]\/∃t,r=32::t)(b:cV v=true):cV (ji ws++(r++v))=true:=by
 cases ws with
 |nil=>
  rcases Z with rfl|⟨t,rfl⟩
  ·grind[ji]
  ·rfl
 |cons a t=>rfl
def w7(W a:H->Prop)(s:H):Prop:=∃h ws r,adj h/\(∀w∈ws,W w)/\s=h++ji ws++r/\(r=[]\/r=[32,50,62,38,49]\/∃w,a w/\r=[32,62]++w)
theorem qD.q{W a:H->Prop}{s:H}(h:qD W a s):w7 W a s:=by obtain⟨h,ws,r,M,U⟩:=h;exact⟨h,ws,r,arL h M,U⟩
theorem w7.one{W a:H->Prop}(h:b=97\/b=98\/b=99):w7 W a [b]:=by refine⟨[b],[],[],?_,by simp,by rfl,.inl rfl⟩;rcases h with rfl|rfl|rfl<;>exact⟨by decide,by decide,by decide,by decide,_,_,rfl,by decide,by decide,by decide,by decide,by decide⟩
section
variable(hm:X.c0<=m)(hD:ad X.E m D)
include hm hD
theorem arN(C:gn D){W n:H->Prop}(hW:∀w,W w->yn w/\e2 X D w)(y:∀w,n w->yn w/\e2 X D w){s v:H}(Y:w7 W n s)(e:ez v v')(af:c5 X F (s++v)):bM X (λq=>q=v') F (fA true lo D (s++v) F):=by
 obtain⟨h,ws,r,M,U,rfl,z⟩:=Y;obtain⟨E,av,a3,O,b,t,G,P,Q,R,S,I⟩:=M
 have Z:r=[]\/∃t,r=32::t:=by grind
 have he:h++ji ws++r++v=h++(ji ws++(r++v)):=by simp
 rw[he] at af⊢;have hu:=arM (ws:=ws) Z e.iX;have T:bM X (λq=>q=v') F (gS true D (ji ws++(r++v)) F):=by
  have g:cV (r++v)=true:=by
   rcases Z with rfl|⟨t,rfl⟩
   ·exact e.iX
   ·rfl
  have A:c5 X F (ji ws++(r++v)):=af.sfx (gq _ _);exact(adi hm hD hW g (by simp[e.ne]) U A).D2 (arK hm hD y z e (A.sfx (gq _ _)))
 have J:∀a,bg (ji ws++(r++v))=some a->ar a≠ .op [40]:=by
  intro a i;cases ws with
  |cons w ws=>
   have V:ji (w::ws)++(r++v)=32::(w++(ji ws++(r++v))):=by simp[ji]
   obtain⟨bT,⟨x,p,bX⟩,_⟩:=(hW w (U w (by simp))).1.tok (u:=ji ws++(r++v));grind[j9]
  |nil=>
   rcases z with rfl|rfl|⟨w,j,rfl⟩
   ·have d:bg v=some a:=i;rw[e.qF] at d;cases d;rcases e.BM with K|⟨o,K,_,aP⟩
    ·grind
    grind
   ·have d:bg (32::50::62::38::49::v)=some a:=i;rw[j9,jD (by decide) (by decide) (by decide)] at d;cases d;intro k;have:=(mQ (by simp)).1 k;rw[m3 (by decide)] at this;grind
   ·have d:bg (32::62::(w++v))=some a:=i;rw[j9,jD (by decide) (by decide) (by decide)] at d;cases d;intro k;have dH:=(mQ (by simp)).1 k;obtain⟨c,t,rfl,_,_,_,_,fZ,_⟩:=(y w j).1;grind[adh]
 generalize hp:ji ws++(r++v)=u at*;have nI:u≠[]:=by rw[<-hp];simp[e.ne]
 have L:=nV E av hu;have B:bg (h++u)=some (h++u):=by grind[jD]
 have l:fm (bt ((h++u).dropWhile cd))=false:=by
  rw[G];have:(b::t++u).dropWhile cd=b::t++u:=by simp_all
  rw[this,jI,m3 I];decide
 unfold fA;rw[aJ (bL B),L,aM (by simp),aM (by grind[fJ])];simp only[Ps];rw[aM (by grind),aJ (ti B l)];simp only[Bool.false_eq_true,if_false];have j:cR D (h++u) F= .ok () u F:=by grind[Nv,Ko]
 rw[aJ j];by_cases N:l3 h=true
 ·rw[ba N];cases f:bg u with
  |none=>rw[dx (op:=[]) (nd:=(b8 [] F []).1) (ds:=(b8 [] F []).2) (jC f)];trivial
  |some a=>rw[aJ (bL f)];rw[aM (J a f)];have m:=lz _ _ _ (cS _) f;rw[<-aqd f m (eV f).length_le C];omega
 grind
end
theorem arQ(ok:E.mT)(b:Bool):ad E n (iB b):=ad.gf ok λt=>ad.ite (ad.N ok (ad.nl ok) λ_=>ad.ret _) (ad.ret _)
section
variable(hm:X.c0<=m)
include hm
theorem adl{b:Bool}(hu:bg u=some (10::x))(c:bg x=some x)(d:ar x≠ .line)(af:c5 X F (10::x)):bM X (λr=>r=x) F (cD iB b u F):=by
 have M:=arw af;have g:=(eV hu).length_le;have e:iB b u F= .ok (.inl true) x F\/pj X (iB b u F):=by
  rw[xS hu];unfold Eng.N;cases ah:kh (10::x) F with
  |ok a r' h=>
   rw[ah] at M;rcases M with⟨rfl,rfl⟩|M
   ·exact .inl rfl
   ·exact .inr M
  |more _ _ _=>right;trivial
  |bad _=>right;trivial
  |deep _=>rw[ah] at M;exact M.elim
 have U:=jR.rep hm (f:=iB) (λs=>arQ X.ok s) (s:=b) (s':=true) (r:=u) (v:=x) (F:=F) (by grind) e;refine U.D2 ?_;rw[cL,sw c d];exact .inl ⟨rfl,rfl⟩
theorem z5{j:H}(b:j=[32]\/j=[10]\/j=[32,35,32,114,10])(c:bg x=some x)(a:ar x≠ .line)(af:c5 X F (j++x)):bM X (λr=>r=x) F (cQ (j++x) F):=by
 rw[uo];rcases b with rfl|rfl|rfl
 ·have:bg ([32]++x)=some x:=by grind[j9]
  rw[cL,sw this a];exact .inl ⟨rfl,rfl⟩
 ·grind[adl,m0,fV]
 ·have:bg ([32,35,32,114,10]++x)=some (10::x):=by simp[m0,fV,mi]
  exact adl hm this c a (af.sfx ⟨[32,35,32,114],rfl⟩)
end
theorem OY{j:H}(h:j∈jt):j=[10]\/∃o a,(a=[32]\/a=[10]\/a=[32,35,32,114,10])/\(o=[38,38]\/o=[124,124]\/o=[124]\/o=[59]\/o=[38])/\cV j=true/\(∀x,bg (j++x)=some (o++(a++x))/\ar (o++(a++x))= .op o)/\(o++a).length<=j.length:=by
 have BM:∀{b:UInt8}{t o:H},b≠10->bt (b::t)=o->o≠[]->ar (b::t)= .op o:=by
  intro b t o c d af;have:ar (b::t)=if b=10 then Tok.line else if bt (b::t)≠[] then .op (bt (b::t)) else .word (di (b::t)).1 (di (b::t)).2:=rfl
  grind
 simp only[jt,lS,ru,uT] at h;rcases h with rfl|rfl|rfl|rfl|rfl|rfl|rfl|rfl
 ·refine .inr ⟨[38,38],[32],by simp,by simp,rfl,λx=>⟨?_,?_⟩,by decide⟩
  ·show bg (32::38::38::32::x)=_;rw[j9,jD (by decide) (by decide) (by decide)];rfl
  rfl
 ·refine .inr ⟨[124,124],[32],by simp,by simp,rfl,λx=>⟨?_,?_⟩,by decide⟩
  ·show bg (32::124::124::32::x)=_;rw[j9,jD (by decide) (by decide) (by decide)];rfl
  rfl
 ·refine .inr ⟨[124],[32],by simp,by simp,rfl,λx=>⟨?_,?_⟩,by decide⟩
  ·show bg (32::124::32::x)=_;rw[j9,jD (by decide) (by decide) (by decide)];rfl
  rfl
 ·refine .inr ⟨[59],[32],by simp,by simp,rfl,λx=>⟨?_,?_⟩,by decide⟩
  ·show bg (59::32::x)=_;rw[jD (by decide) (by decide) (by decide)];rfl
  rfl
 ·refine .inr ⟨[38],[32],by simp,by simp,rfl,λx=>⟨?_,?_⟩,by decide⟩
  ·show bg (32::38::32::x)=_;rw[j9,jD (by decide) (by decide) (by decide)];rfl
  rfl
 ·simp
 ·refine .inr ⟨[124],[10],by simp,by simp,rfl,λx=>⟨?_,?_⟩,by decide⟩
  ·show bg (32::124::10::x)=_;rw[j9,jD (by decide) (by decide) (by decide)];rfl
  rfl
 ·refine .inr ⟨[59],[32,35,32,114,10],by simp,by simp,rfl,λx=>⟨?_,?_⟩,by decide⟩
  ·show bg (59::32::35::32::114::10::x)=_;rw[jD (by decide) (by decide) (by decide)];rfl
  rfl
theorem VQ{j:H}(h:j∈jt):∃v',ez (j++x) v':=by
 rcases OY h with rfl|⟨o,c,M,U,d,a,e⟩
 ·refine⟨10::x,by simp,rfl,by simp[m0,fV],.inl rfl⟩
 ·refine⟨_,?_,?_,(a x).1,.inr ⟨o,(a x).2,?_,?_⟩⟩
  ·grind
  ·cases j with
   |nil=>grind
   |cons b t=>revert h;intro h;simp only[jt,lS,ru,uT] at h;rcases h with h|h|h|h|h|h|h|h<;>cases h<;>first|rfl|(show(fV _||_||bt _ !=[])=true;simp[bt,l2,yz,List.isPrefixOf])
  ·rcases U with rfl|rfl|rfl|rfl|rfl<;>decide
  grind
theorem bM.adm(af:X.c0<=n)(hf:∀s,ad X.E n (f s)){b P:H->Prop}{s:σ}(h:bM X b F (f s r F))
  (aw:∀s' an,f s r F= .ok (.inl s') an F->b an->an.length<r.length/\bM X P F (cD f s' an F)) (Z:∀a an,f s r F= .ok (.inr a) an F->b an->P an):bM X P F (cD f s r F):=by
 rw[cL];cases hm:f s r F with
 |ok x an c=>
  rw[hm] at h;cases x with
  |inl s'=>
   show bM X P F (if an.length<r.length then cD f s' an c else .bad an);rcases h with⟨M,rfl⟩|M
   ·grind
   ·split
    ·exact bM.VJ af (ad.rep X.ok hf s') M
    ·trivial
  |inr a=>
   rcases h with⟨M,rfl⟩|M
   ·exact .inl ⟨Z a an hm M,rfl⟩
   ·exact .inr M
 |more _ _ _=>trivial
 |bad _=>trivial
 |deep _=>rw[hm] at h;exact h
structure z6(X:fK)(c2:ab Unit)(C:H->Prop):Prop where
 run:∀{c v v':H}{F:ag},C c->ez v v'->c5 X F (c++v)->bM X (λq=>q=v') F (c2 (c++v) F)
 head:∀{c:H}(x:H),C c->bg (c++x)=some (c++x)/\ar (c++x)≠ .line/\ar (c++x)≠ .eof/\cm (ar (c++x)) [33]=false/\c≠[]
def VR(p:Tok->Bool)(l:List (H×H))(v:H)(q:H):Prop:=∃gC,gC<:+l/\bg (cY gC++v)=some q/\p (ar q)=false
theorem adn{l:List (H×H)}(h:∀p∈l,p.1∈jt/\C p.2){v:H}(a:ez v v'):∃b,ez (cY l++v) b:=by
 cases l with
 |nil=>exact⟨v',a⟩
 |cons p l=>grind[VQ,cY]
theorem OZ(ok:E.mT){c2:ab Unit}(aq:ad E n c2)(p:Tok->Bool)(w:Nat)(s:Unit):ad E n ((λ(_:Unit)=>N (bN []) λt=>if p t=true then N (bV w) λ_=>N (cQ.aG [120]) λ_=>N c2 λ_=>aU (.inl ()) else aU (.inr ()):Unit->ab (Unit⊕Unit)) s):=
 ad.gf ok λt=>ad.ite (ad.N ok (ad.cM ok _) λ_=>ad.N ok ((ad.lines ok).aG _) λ_=>ad.N ok aq λ_=>ad.ret _) (ad.ret _)
theorem O0{p:Tok->Bool}{w:Nat}{c2:ab Unit}{q:H}(a:bg q=some q)(ah:p (ar q)=false):oW p w c2 q F= .ok () q F:=by unfold oW;rw[cL,aJ (bL a),aM (by grind)];rfl
section
variable(hm:X.c0<=m){c2:ab Unit}(kX:ad X.E m c2)(eJ:z6 X c2 C)
include hm kX eJ
theorem ado{p:Tok->Bool}{w:Nat}(ah:∀t,p t=true->∃o,t= .op o/\o.length=w/\0<w){v v':H}(e:ez v v')(i:p (ar v')=false):∀(l:List (H×H))(q:H)(F:ag),(∀x∈l,x.1∈jt/\C x.2)->bg (cY l++v)=some q->c5 X F q->bM X (VR p l v) F (oW p w c2 q F)
 |[],q,F,_,d,af=>by have m:bg v=some q:=d;rw[e.qF] at m;cases m;rw[O0 e.idem i];exact .inl ⟨⟨[],List.suffix_rfl,e.qF,i⟩,rfl⟩
 |(j,c)::l,q,F,h,d,af=>by
  have k:=lz _ _ _ (Nat.le_refl _) d;cases f:p (ar q) with
  |false=>rw[O0 k f];exact .inl ⟨⟨(j,c)::l,List.suffix_rfl,d,f⟩,rfl⟩
  |true=>
   obtain⟨o,n,P,A⟩:=ah _ f;obtain⟨B,aq⟩:=h (j,c) (by simp);have he:cY ((j,c)::l)++v=j++(c++(cY l++v)):=by simp[cY]
   rw[he] at d;rcases OY B with rfl|⟨Q,g,M,U,R,D,S⟩
   ·have:bg ([10]++(c++(cY l++v)))=some (10::(c++(cY l++v))):=by simp[m0,fV]
    simp_all[ar]
   ·obtain⟨E,G⟩:=D (c++(cY l++v));rw[E] at d;cases d;rw[G] at n;cases n;obtain⟨s,hu⟩:=adn (l:=l) (λx I=>h x (by grind)) e;obtain⟨e_,J,T,V,W⟩:=eJ.head (cY l++v) aq;have u:c5 X F (g++(c++(cY l++v))):=af.sfx (gq _ _);have y:c5 X F (c++(cY l++v)):=u.sfx (gq _ _);have K:c5 X F s:=(y.sfx (gq _ _)).sfx (eV hu.qF);unfold oW;have L:bM X (λr=>r=s) F ((N (bN []) λt=>if p t=true then N (bV w) λ_=>N (cQ.aG [120]) λ_=>N c2 λ_=>(aU (.inl ()):ab (Unit⊕Unit)) else aU (.inr ())) (o++(g++(c++(cY l++v)))) F):=by rw[aJ (bL k),ba f];rw[aJ (show bV w (o++(g++(c++(cY l++v)))) F= .ok () (g++(c++(cY l++v))) F from by grind[bV])];refine bM.N hm (z5 hm M e_ J u).aG (λa r' _ Z=>?_) (λa=>ad.N X.ok kX λ_=>ad.ret _);subst Z;refine bM.N hm (eJ.run aq hu y) (λa r' _ Z=>?_) (λa=>ad.ret _);exact .inl ⟨Z,rfl⟩
    refine bM.adm hm (OZ X.ok kX p w) L (λs' an b z=>?_) (λa an b z=>?_)
    ·subst z;refine⟨?_,?_⟩
     ·have Y:=(eV hu.qF).length_le;grind
     ·have:=ado ah e i l an F (λx I=>h x (by grind)) hu.qF K;exact this.imp λr Z=>by obtain⟨gC,aw,O⟩:=Z;exact⟨gC,aw.trans (eL _ _),O⟩
    ·
     exfalso;rw[aJ (bL k),ba f] at b;obtain⟨_,aF,ey,_,b⟩:=bW b;obtain⟨_,cK,b9,_,b⟩:=bW b;obtain⟨_,cb,ia,_,b⟩:=bW b;cases b
end
theorem arR(t:Tok)(h:qC t=true):∃o,t= .op o/\o.length=1/\0<1:=⟨_,KO h,rfl,by decide⟩
section
variable(hm:X.c0<=m){c2:ab Unit}(kX:ad X.E m c2)(eJ:z6 X c2 C)
include hm kX eJ
theorem adp{c v:H}{l:List (H×H)}(aq:C c)(h:∀x∈l,x.1∈jt/\C x.2)(b:ez v v')(d:qC (ar v')=false)(af:c5 X F (c++(cY l++v))):bM X (VR qC l v) F (fv c2 (c++(cY l++v)) F):=by obtain⟨e_,i,j,e,k⟩:=eJ.head (cY l++v) aq;obtain⟨f,hu⟩:=adn (l:=l) h b;have g:c5 X F f:=(af.sfx (gq _ _)).sfx (eV hu.qF);rw[DX,aJ (bL e_),e];simp only[fR,cZ];rw[aJ (show aU () (c++(cY l++v)) F= .ok () (c++(cY l++v)) F from rfl)];refine bM.N hm (eJ.run aq hu af) (λa r' _ Z=>?_) (λa=>ad.rep X.ok (λs=>OZ X.ok kX qC 1 s) ());subst Z;exact ado hm kX eJ arR b d l r' F h hu.qF g
end
def adq(l:List (H×H))(v:H)(q:H):Prop:=∃gC,gC<:+l/\bg (cY gC++v)=some q/\qC (ar q)=false/\pV (ar q)=false
section
variable(hm:X.c0<=m){c2:ab Unit}(kX:ad X.E m c2)(eJ:z6 X c2 C)
include hm kX eJ
theorem arS{v:H}(i:ez v v')(u:qC (ar v')=false)(w:pV (ar v')=false):∀(bF:Nat)(l:List (H×H))(q:H)(F:ag),l.length<=bF->(∀x∈l,x.1∈jt/\C x.2)->bg (cY l++v)=some q->qC (ar q)=false->c5 X F q->bM X (adq l v) F (oW pV 2 (fv c2) q F):=by
 have A:ad X.E m (fv c2):=ad.pipe X.ok kX;intro bF;induction bF with
 |zero=>intro l q F aw h d e af;have:l=[]:=tA.1 (by omega);subst this;have B:bg v=some q:=d;rw[i.qF] at B;cases B;rw[O0 i.idem w];exact .inl ⟨⟨[],gr,i.qF,u,w⟩,rfl⟩
 |succ bF K=>
  intro l q F aw h d e af;have n:=lz _ _ _ (cS _) d;cases f:pV (ar q) with
  |false=>rw[O0 n f];exact .inl ⟨⟨l,gr,d,e,f⟩,rfl⟩
  |true=>
   cases l with
   |nil=>grind
   |cons y l=>
    obtain⟨j,c⟩:=y;obtain⟨L,aq⟩:=h (j,c) (by simp)
    have g:∀x∈l,x.1∈jt/\C x.2:=λx D=>h x (by grind)
    have he:cY ((j,c)::l)++v=j++(c++(cY l++v)):=by simp[cY]
    rw[he] at d
    obtain⟨o,E,hw⟩:∃o,ar q= .op o/\o.length=2:=by unfold pV at f;grind
    rcases OY L with rfl|⟨fB,k,M,U,au,O,br⟩
    ·have:bg ([10]++(c++(cY l++v)))=some (10::(c++(cY l++v))):=by simp[m0,fV]
     simp_all[ar]
    ·obtain⟨P,Q⟩:=O (c++(cY l++v));rw[P] at d;cases d;rw[Q] at E;cases E;obtain⟨e_,R,kp,kT,hy⟩:=eJ.head (cY l++v) aq;have G:c5 X F (k++(c++(cY l++v))):=af.sfx (gq _ _);have I:c5 X F (c++(cY l++v)):=G.sfx (gq _ _);unfold oW;have S:bM X (VR qC l v) F ((N (bN []) λt=>if pV t=true then N (bV 2) λ_=>N (cQ.aG [120]) λ_=>N (fv c2) λ_=>(aU (.inl ()):ab (Unit⊕Unit)) else aU (.inr ())) (o++(k++(c++(cY l++v)))) F):=by rw[aJ (bL n),ba f];rw[aJ (show bV 2 (o++(k++(c++(cY l++v)))) F= .ok () (k++(c++(cY l++v))) F from by grind[bV])];refine bM.N hm (z5 hm M e_ R G).aG (λa r' _ Z=>?_) (λa=>ad.N X.ok A λ_=>ad.ret _);subst Z;refine bM.N hm (adp hm kX eJ aq g i u I) (λa r' _ Z=>?_) (λa=>ad.ret _);exact .inl ⟨Z,rfl⟩
     refine bM.adm hm (OZ X.ok A pV 2) S (λs' an b J=>?_) (λa an b J=>?_)
     ·obtain⟨gC,p,s,T⟩:=J;have V:cY gC++v<:+c++(cY l++v):=by obtain⟨z,rfl⟩:=p;grind[cY]
      refine⟨?_,?_⟩
      ·have cH:=(eV s).length_le;grind
      ·have W:c5 X F an:=(I.sfx V).sfx (eV s);have:=K gC an F (by grind) (λx D=>g x (p.subset D)) s T W;exact this.imp λr Z=>by obtain⟨Y,Bx,DY⟩:=Z;exact⟨Y,(Bx.trans p).trans (eL _ _),DY⟩
     ·exfalso;rw[aJ (bL n),ba f] at b;obtain⟨_,aF,ey,_,b⟩:=bW b;obtain⟨_,cK,b9,_,b⟩:=bW b;obtain⟨_,cb,ia,_,b⟩:=bW b;cases b
end
section
variable(hm:X.c0<=m){c2:ab Unit}(kX:ad X.E m c2)(eJ:z6 X c2 C)
include hm kX eJ
theorem arT{c v:H}{l:List (H×H)}(aq:C c)(h:∀x∈l,x.1∈jt/\C x.2)(d:ez v v')(e:qC (ar v')=false)(g:pV (ar v')=false)(af:c5 X F (c++(cY l++v))):bM X (adq l v) F (hR (fv c2) (c++(cY l++v)) F):=by
 have i:ad X.E m (fv c2):=ad.pipe X.ok kX;rw[OI];refine bM.N hm (adp hm kX eJ aq h d e af) (λa q _ j=>?_) (λa=>ad.rep X.ok (λs=>OZ X.ok i pV 2 s) ());obtain⟨gC,b,f,k⟩:=j;have n:cY gC++v<:+c++(cY l++v):=by obtain⟨z,rfl⟩:=b;grind[cY]
 have o:c5 X F q:=(af.sfx n).sfx (eV f);have:=arS hm kX eJ d e g gC.length gC q F (cS _) (λx p=>h x (b.subset p)) f k o;exact this.imp λr Z=>by obtain⟨t,u,w⟩:=Z;exact⟨t,u.trans b,w⟩
end
theorem G4(ok:E.mT)(h:ad E n cX)(c:Ctx)(no:Bool)(s:Nat):ad E n (fw cX c no s):=by
 unfold fw;refine ad.gf ok λt=>ad.ite (ad.ite (ad.ret _) (ad.b5 _)) (ad.ite (ad.ret _) (ad.N ok h λ_=>ad.gf ok λt=>?_));unfold jB;cases t with
 |eof=>simp[ad.ret]
 |line=>grind[ad.N,ad.lines,ad.ret]
 |word _ _=>exact ad.b6
 |op o=>exact ad.ite (ad.N ok (ad.cM ok _) λ_=>ad.N ok (ad.lines ok) λ_=>ad.ret _) (ad.ite (ad.ret _) ad.b6)
theorem bM.mm(af:X.c0<=n){β:Type}(hf:∀s,ad X.E n (f s)){g P:H->Prop}{m:ab β}{k:β->ab (σ⊕α)}(h:bM X g F (m r F))
  (az:∀a r',m r F= .ok a r' F->g r'->bM X P F (dc f r0 (k a r' F))) (he:∀a,ad X.E n (k a)):bM X P F (dc f r0 (Eng.N m k r F)):=by
 unfold Eng.N;cases hm:m r F with
 |ok a r' d=>
  rw[hm] at h;rcases h with⟨M,rfl⟩|M
  ·grind
  ·simp only;have U:pj X (k a r' d):=by
    have:=he a r' d (lh.hs.OV M af);cases c:k a r' d with
    |ok _ _ _=>rw[c] at this;exact lh.hs.down X.ok M this.1 this.2
    |more _ _ _=>trivial
    |bad _=>trivial
    |deep _=>rw[c] at this;exact this
   cases c:k a r' d with
   |ok x e i=>
    rw[c] at U;cases x with
    |inl s'=>
     show bM X P F (if e.length<r0.length then cD f s' e i else .bad e);split
     ·exact bM.VJ af (ad.rep X.ok hf s') U
     ·trivial
    |inr b=>exact .inr U
   |more _ _ _=>trivial
   |bad _=>trivial
   |deep _=>rw[c] at U;exact U
 |more _ _ _=>trivial
 |bad _=>trivial
 |deep _=>rw[hm] at h;exact h
section
variable(hm:X.c0<=m){c2:ab Unit}(kX:ad X.E m c2)(eJ:z6 X c2 C)(vy:∀{c:H}(x:H)(k:Ctx),C c->dC k (ar (c++x))=false)
include hm kX eJ vy
theorem adt{v f:H}(w:ez v v')(G:qC (ar v')=false)(I:pV (ar v')=false)
  (bn:∀k r0,v'.length<r0.length->bM X (λr=>r=f) F (dc (fw (hR (fv c2)) ctx no) r0 (jB ctx k (ar v') v' F))) {l:List (H×H)} {c:H} {k:Nat} (aq:C c) (h:∀x∈l,x.1∈jt/\C x.2) (af:c5 X F (c++(cY l++v)))
  (p7:∀(j b:H)(d:List (H×H)),(j,b)::d<:+l->∀(g:Nat),C b->c5 X F (b++(cY d++v))->bM X (λr=>r=f) F (cD (fw (hR (fv c2)) ctx no) g (b++(cY d++v)) F)):bM X (λr=>r=f) F (cD (fw (hR (fv c2)) ctx no) k (c++(cY l++v)) F):=by
 have eW:ad X.E m (hR (fv c2)):=ad.oc X.ok (ad.pipe X.ok kX);obtain⟨e_,b,J,kT,K⟩:=eJ.head (cY l++v) aq;rw[cL];have L:fw (hR (fv c2)) ctx no k (c++(cY l++v)) F=N (hR (fv c2)) (λ_=>N (bN []) (jB ctx k)) (c++(cY l++v)) F:=by unfold fw;rw[aJ (bL e_),aM J,aM (by grind)]
 rw[L]
 have i:∀k,ad X.E m (N (bN []) (jB ctx k)):=λk=>ad.gf X.ok λt=>by
  unfold jB;cases t with
  |eof=>simp[ad.ret]
  |line=>exact ad.N X.ok (ad.lines X.ok) λ_=>ad.ret _
  |word _ _=>exact ad.b6
  |op o=>exact ad.ite (ad.N X.ok (ad.cM X.ok _) λ_=>ad.N X.ok (ad.lines X.ok) λ_=>ad.ret _) (ad.ite (ad.ret _) ad.b6)
 refine bM.mm hm (G4 X.ok eW ctx no) (arT hm kX eJ aq h w G I af) (λa q bO O=>?_) (λ_=>i k);obtain⟨gC,n,e,P,Q⟩:=O;have R:=lz _ _ _ (Nat.le_refl _) e;rw[aJ (bL R)];have mu:=List.length_pos_iff.2 K;have S:cY gC++v<:+c++(cY l++v):=by obtain⟨z,rfl⟩:=n;grind[cY]
 have T:(cY gC++v).length<=(cY l++v).length:=by obtain⟨z,rfl⟩:=n;simp[cY]
 have p:=(eV e).length_le;have V:q.length<(c++(cY l++v)).length:=by grind
 have s:c5 X F q:=(af.sfx S).sfx (eV e);cases gC with
 |nil=>have W:bg v=some q:=e;rw[w.qF] at W;grind
 |cons y d=>
  obtain⟨j,b⟩:=y;obtain⟨Y,xt⟩:=h (j,b) (n.subset (by simp));have he:cY ((j,b)::d)++v=j++(b++(cY d++v)):=by simp[cY]
  rw[he] at e T p;obtain⟨A,B,d3,d4,d5⟩:=eJ.head (cY d++v) xt
  have D:∀(r:H),r=b++(cY d++v)->r.length<(c++(cY l++v)).length->c5 X F r->bM X (λr=>r=f) F (dc (fw (hR (fv c2)) ctx no) (c++(cY l++v)) (aU (.inl (k+1)) r F)):=by rintro r rfl Z adk;show bM X _ F (if(b++(cY d++v)).length<(c++(cY l++v)).length then cD (fw (hR (fv c2)) ctx no) (k+1) (b++(cY d++v)) F else .bad _);grind
  rcases OY Y with rfl|⟨o,u,M,U,au,aQ,br⟩
  ·have lQ:bg ([10]++(b++(cY d++v)))=some (10::(b++(cY d++v))):=by simp[m0,fV]
   rw[lQ] at e;cases e;have hq:ar (10::(b++(cY d++v)))= .line:=rfl;rw[hq];unfold jB;simp only;refine bM.mm hm (G4 X.ok eW ctx no) (z5 hm (j:=[10]) (.inr (.inl rfl)) A B s) (λa r _ Z=>?_) (λ_=>ad.ret _);refine D r Z ?_ (by rw[Z];exact s.sfx (eL _ _));rw[Z];exact Nat.lt_trans (tE _) V
  ·obtain⟨bT,g⟩:=aQ (b++(cY d++v));rw[bT] at e;cases e;rw[g] at P Q⊢;have aP:o=[59]\/o=[38]:=by simp_all[pV,qC]
   unfold jB;simp only;rw[ba aP];have hw:o.length=1:=by grind
   rw[aJ (show bV 1 (o++(u++(b++(cY d++v)))) F= .ok () (u++(b++(cY d++v))) F from by grind[bV])];have E:c5 X F (u++(b++(cY d++v))):=s.sfx (gq _ _);refine bM.mm hm (G4 X.ok eW ctx no) (z5 hm M A B E) (λa r _ Z=>?_) (λ_=>ad.ret _);refine D r Z ?_ (by rw[Z];exact E.sfx (gq _ _));grind
theorem adu{v a:H}(b:ez v v')(d:qC (ar v')=false)(e:pV (ar v')=false)
  (bn:∀k r0,v'.length<r0.length->bM X (λr=>r=a) F (dc (fw (hR (fv c2)) ctx no) r0 (jB ctx k (ar v') v' F))):∀(bF:Nat)(l:List (H×H))(c:H)(k:Nat),l.length<=bF->C c->(∀x∈l,x.1∈jt/\C x.2)->c5 X F (c++(cY l++v))->bM X (λr=>r=a) F (cD (fw (hR (fv c2)) ctx no) k (c++(cY l++v)) F):=by
 have eW:ad X.E m (hR (fv c2)):=ad.oc X.ok (ad.pipe X.ok kX);intro bF;induction bF with
 |zero=>
  intro l c k aw aq h af;have:l=[]:=tA.1 (by omega);subst this
  exact adt hm kX eJ vy b d e bn aq h af (λj f g i=>by grind)
 |succ bF n=>intro l c k aw aq h af;refine adt hm kX eJ vy b d e bn aq h af (λj f g i o p q=>?_);grind
end
theorem arV{o:H}(a:ar v'= .op o)(M:o≠[59])(U:o≠[38])(he:dC ctx (.op o)=true)(k:Nat)(r0:H):bM X (λr=>r=v') F (dc (fw cX ctx no) r0 (jB ctx k (ar v') v' F)):=by rw[a];unfold jB;simp only;rw[aM (by grind),if_pos he];exact .inl ⟨rfl,rfl⟩
theorem arW{k:Nat}(a:bg x=some x)(bj:ar x≠ .eof)(he:dC ctx (ar x)=true):bM X (λr=>r=x) F (cD (fw cX ctx no) (k+1) x F):=by
 rw[cL];have:fw cX ctx no (k+1) x F= .ok (.inr (k+1)) x F:=by unfold fw;rw[aJ (bL a),if_neg bj,if_pos (by grind)];rfl
 rw[this];exact .inl ⟨rfl,rfl⟩
section
variable(hm:X.c0<=m)(eW:ad X.E m cX)
include hm eW
theorem adv{k:Nat}(aw:bM X (λr=>r=x) F (cQ u F))(b:x.length<r0.length)(c:bg x=some x)(bj:ar x≠ .eof)(he:dC ctx (ar x)=true):bM X (λr=>r=x) F (dc (fw cX ctx no) r0 (N cQ (λ_=>aU (.inl (k+1))) u F)):=by refine bM.mm hm (G4 X.ok eW ctx no) aw (λa r _ Z=>?_) (λ_=>ad.ret _);subst Z;show bM X _ F (if r.length<r0.length then cD (fw cX ctx no) (k+1) r F else .bad r);simp_all[arW]
theorem arX(b:bg x=some x)(c:ar x≠ .line)(bj:ar x≠ .eof)(he:dC ctx (ar x)=true)(af:c5 X F (10::x))(k:Nat)(r0:H)(a:(10::x).length<r0.length):bM X (λr=>r=x) F (dc (fw cX ctx no) r0 (jB ctx k (ar (10::x)) (10::x) F)):=by have d:ar (10::x)= .line:=rfl;rw[d];unfold jB;simp only;exact adv hm eW (z5 hm (j:=[10]) (.inr (.inl rfl)) b c af) (Nat.lt_trans (Nat.lt_succ_self _) a) b bj he
theorem arY{y:H}(a:bg y=some x)(c:ar x≠ .line)(bj:ar x≠ .eof)(he:dC ctx (ar x)=true)(d:ar (59::y)= .op [59])(k:Nat)(r0:H)(b:(59::y).length<r0.length):bM X (λr=>r=x) F (dc (fw cX ctx no) r0 (jB ctx k (ar (59::y)) (59::y) F)):=by have e:=lz _ _ _ (Nat.le_refl _) a;have aw:=(eV a).length_le;rw[d];unfold jB;simp only;rw[if_pos (by simp),aJ (show bV 1 (59::y) F= .ok () y F from rfl)];refine adv hm eW ?_ (by grind) e bj he;rw[oe a c];exact .inl ⟨rfl,rfl⟩
end
structure jH(X:fK)(cX:ab Unit)(ctx:Ctx)(no:Bool)(v v' fi:H)(F:ag):Prop where
 ce:ez v v'
 adw:qC (ar v')=false
 adx:pV (ar v')=false
 go:∀k r0,v'.length<r0.length->bM X (λr=>r=fi) F (dc (fw cX ctx no) r0 (jB ctx k (ar v') v' F))
theorem ez.op{o:H}(Y:bg t=some t)(a:ar t= .op o)(M:fm o=false)(U:o≠[40]):ez t t:=by
 have c:=ib a;refine⟨?_,?_,Y,.inr ⟨o,a,M,U⟩⟩
 ·grind
 ·cases t with
  |nil=>rfl
  |cons b u=>show(fV b||b==10||bt (b::u)!=[])=true;grind
theorem ez.nl(x:H):ez (10::x) (10::x):=⟨by simp,rfl,by simp[m0,fV],.inl rfl⟩
section
variable(hm:X.c0<=m){c2:ab Unit}(kX:ad X.E m c2)(eJ:z6 X c2 C)(vy:∀{c:H}(x:H)(k:Ctx),C c->dC k (ar (c++x))=false)
theorem jH.op{cX:ab Unit}{ctx:Ctx}{no:Bool}{F:ag}{v o:H}(Y:bg v=some v)(a:ar v= .op o)(he:dC ctx (.op o)=true):jH X cX ctx no v v v F:=by
 have b:o=[41]\/o=[59,59]:=by cases ctx<;>simp[dC,cm] at he<;>first|grind|grind
 refine⟨ez.op Y a ?_ ?_,?_,?_,λk r0 _=>arV a ?_ ?_ he k r0⟩
 ·rcases b with rfl|rfl<;>decide
 ·grind
 ·rw[a];rcases b with rfl|rfl<;>decide
 ·rw[a];rcases b with rfl|rfl<;>decide
 ·grind
 grind
include hm in
theorem jH.nl{cX:ab Unit}(eW:ad X.E m cX){ctx:Ctx}{no:Bool}{F:ag}{x:H}(aj:bg x=some x)(ao:ar x≠ .line)(bj:ar x≠ .eof)(he:dC ctx (ar x)=true)(af:c5 X F (10::x)):jH X cX ctx no (10::x) (10::x) x F:=
 ⟨ez.nl x,rfl,rfl,λk r0 aw=>arX hm eW aj ao bj he af k r0 aw⟩
include hm in
theorem jH.ady(eW:ad X.E m cX){y:H}(bw:bg y=some x)(ao:ar x≠ .line)(bj:ar x≠ .eof)(he:dC ctx (ar x)=true)(ff:ar (59::y)= .op [59]):jH X cX ctx no (59::y) (59::y) x F:=
 ⟨ez.op (jD (by decide) (by decide) (by decide)) ff (by decide) (by decide),by rw[ff];decide,by rw[ff];decide,λk r0 aw=>arY hm eW bw ao bj he ff k r0 aw⟩
include hm kX eJ vy
theorem arZ{pre v d:H}(ah:pre=[]\/pre=[32]\/pre=[10])(e:r8 C t)(bn:jH X (hR (fv c2)) ctx no v v' d F)(af:c5 X F (pre++(t++v))):bM X (λr=>r=d) F (np (hR (fv c2)) ctx no (pre++(t++v)) F):=by
 obtain⟨c,l,M,U,rfl⟩:=e;rw[uS] at af⊢;obtain⟨e_,b,g,h,i⟩:=eJ.head (cY l++v) M;have f:c5 X F (c++(cY l++v)):=af.sfx (gq _ _);rw[td];have eW:ad X.E m (hR (fv c2)):=ad.oc X.ok (ad.pipe X.ok kX);refine bM.N (P:=λr=>r=c++(cY l++v)) hm (bM.aG ?_) (λa r' _ Z=>?_) (λ_=>ad.rep X.ok (λs=>G4 X.ok eW ctx no s) 0)
 ·rcases ah with rfl|rfl|rfl
  ·rw[ps,oe e_ b];exact .inl ⟨rfl,rfl⟩
  ·exact z5 hm (.inl rfl) e_ b af
  ·exact z5 hm (.inr (.inl rfl)) e_ b af
 ·subst Z;exact adu hm kX eJ vy bn.ce bn.adw bn.adx bn.go l.length l c 0 (cS _) M U f
end
def D3(c:H):Prop:=∃b t,c=b::t/\fV b=false/\b≠35/\b≠92/\b≠10/\b≠33/\(b=40\/qs b=false/\(([125,116,101,102,100]:H).contains b=false\/∃k u,t=k::u/\(b=101/\k=99\/b=102/\k≠105)))
theorem VT{w:H}(h:cm (ar r) w=true):w<+:r:=by grind[GH,F0,U9]
theorem D3.facts{c:H}(h:D3 c)(x:H):(bg (c++x)=some (c++x)/\ar (c++x)≠ .line/\ar (c++x)≠ .eof/\cm (ar (c++x)) [33]=false/\c≠[])/\∀k,dC k (ar (c++x))=false:=by
 obtain⟨b,t,rfl,M,U,f,g,n,e⟩:=h
 have bj:∀w:H,w<+:b::t++x->w.head?≠none->w.head?=some b:=by
  intro w d af;cases w with
  |nil=>grind
  |cons a w=>grind
 have hW:∀w∈([[33],[125],hQ,h_,gy,ea,gd,hc,dt]:bs),cm (ar (b::t++x)) w=false:=by
  intro w d;cases bh:cm (ar (b::t++x)) w with
  |false=>rfl
  |true=>
   exfalso;have ah:=VT bh;have i:=bj w ah ((by decide:∀w∈([[33],[125],hQ,h_,gy,ea,gd,hc,dt]:bs),w.head?≠none) w d);rcases e with rfl|⟨j,aq|⟨k,u,rfl,az⟩⟩
   ·exact(by decide:∀w∈([[33],[125],hQ,h_,gy,ea,gd,hc,dt]:bs),w.head?≠some 40) w d i
   ·have:([33,125,116,101,102,100]:H).contains b=true:=by
     have:∀w∈([[33],[125],hQ,h_,gy,ea,gd,hc,dt]:bs),∀b,w.head?=some b->([33,125,116,101,102,100]:H).contains b=true:=by decide
     grind
    grind
   ·simp only[lS,ru,uT] at d;rcases az with⟨rfl,rfl⟩|⟨rfl,az⟩
    ·rcases d with rfl|rfl|rfl|rfl|rfl|rfl|rfl|rfl|rfl<;>simp[hQ,h_,gy,ea,gd,hc,dt] at ah
    ·rcases d with rfl|rfl|rfl|rfl|rfl|rfl|rfl|rfl|rfl<;>simp[hQ,h_,gy,ea,gd,hc,dt] at ah;grind
 have o:ar (b::t++x)= .op [40]\/∃w p,ar (b::t++x)= .word w p:=by
  rw[jI,x_,aM g];rcases e with rfl|⟨j,_⟩
  ·simp[Z6]
  simp_all[m3]
 refine⟨⟨jD M U f,?_,?_,hW _ (by simp),by simp⟩,λk=>?_⟩
 ·grind
 ·grind
 ·have l:(ar (b::t++x)== .eof)=false:=by grind
  have m:(ar (b::t++x)== .op [41])=false:=by grind
  have q:(ar (b::t++x)== .op [59,59])=false:=by grind
  unfold dC;cases k
  ·exact l
  ·exact m
  ·grind
  ·grind
  ·grind
  ·grind
  ·grind
  ·simp_all
  simp_all
def yo(d:Nat)(c:H):Prop:=z3 d c\/c=[97]\/c=[98]\/c=[99]
theorem yo.aB{c:H}(h:yo d c):D3 c:=by
 have Y:∀{W a:H->Prop},qD W a c->D3 c:=by
  rintro W a ⟨x,ws,r,M,U,rfl,l⟩;simp only[rl,lS,ru,uT] at M;rcases M with rfl|rfl|rfl|rfl
  ·exact⟨_,_,rfl,by decide,by decide,by decide,by decide,by decide,.inr ⟨by decide,.inl (by decide)⟩⟩
  ·exact⟨_,_,rfl,by decide,by decide,by decide,by decide,by decide,.inr ⟨by decide,.inr ⟨_,_,rfl,.inl ⟨rfl,rfl⟩⟩⟩⟩
  ·exact⟨_,_,rfl,by decide,by decide,by decide,by decide,by decide,.inr ⟨by decide,.inl (by decide)⟩⟩
  ·exact⟨_,_,rfl,by decide,by decide,by decide,by decide,by decide,.inr ⟨by decide,.inl (by decide)⟩⟩
 rcases h with h|rfl|rfl|rfl
 ·cases d with
  |zero=>exact Y h
  |succ d=>
   rcases h with h|h
   ·grind
   ·have h0:∀{b:UInt8}{t:H},fV b=false/\b≠35/\b≠92/\b≠10/\b≠33/\qs b=false/\([125,116,101,102,100]:H).contains b=false->D3 (b::t):=λ⟨e,av,a3,f,g,i,j⟩=>⟨_,_,rfl,e,av,a3,f,g,.inr ⟨i,.inl j⟩⟩
    have hf:∀{k:UInt8}{t:H},k≠105->D3 (102::k::t):=λaz=>⟨_,_,rfl,by decide,by decide,by decide,by decide,by decide,.inr ⟨by decide,.inr ⟨_,_,rfl,.inr ⟨rfl,az⟩⟩⟩⟩
    rcases h with⟨t,M,rfl⟩|⟨t,M,rfl⟩|⟨t,u,M,U,rfl⟩|⟨t,u,M,U,rfl⟩|⟨t,u,M,U,rfl⟩|⟨w,u,M,U,rfl⟩|rfl|⟨w,u,M,U,rfl⟩|⟨t,M,rfl⟩
    ·exact⟨40,_,rfl,by decide,by decide,by decide,by decide,by decide,.inl rfl⟩
    ·exact h0 (by decide)
    ·exact h0 (by decide)
    ·exact h0 (by decide)
    ·exact h0 (by decide)
    ·grind
    ·grind
    ·exact h0 (by decide)
    grind
 all_goals exact⟨_,_,rfl,by decide,by decide,by decide,by decide,by decide,.inr ⟨by decide,.inl (by decide)⟩⟩
structure rp(X:fK)(d n:Nat):Prop where
 ls:∀{pre t v v' fi:H}{ctx:Ctx}{no:Bool}{F:ag},(pre=[]\/pre=[32]\/pre=[10])->r8 (yo d) t->jH X (l5 true n) ctx no v v' fi F->c5 X F (pre++(t++v))->bM X (λr=>r=fi) F ((aW true n).ls ctx no (pre++(t++v)) F)
 wd:∀w,gh d w->e2 X (aW true n).dl w
 rd:∀{t v v' fi:H}{ctx:Ctx}{no:Bool}{F:ag}(k:Nat),r8 (yo d) t->jH X (l5 true n) ctx no v v' fi F->c5 X F (t++v)->bM X (λr=>r=fi) F (cD (fw (l5 true n) ctx no) k (t++v) F)
theorem r8.imp{a:H->Prop}(h:∀c,C c->a c)(b:r8 C t):r8 a t:=by obtain⟨c,l,M,U,d⟩:=b;exact⟨c,l,h c M,λp ah=>⟨(U p ah).1,h _ (U p ah).2⟩,d⟩
theorem gX.cc(h:gX d t):r8 (yo d) t:=by rw[OT] at h;exact h.imp λc aq=> .inl aq
theorem D4(h:b=97\/b=98\/b=99):r8 (yo d) [b]:=by
 refine⟨[b],[],?_,by simp,by rfl⟩;rcases h with rfl|rfl|rfl
 ·exact .inr (.inl rfl)
 ·exact .inr (.inr (.inl rfl))
 ·exact .inr (.inr (.inr rfl))
theorem rp.VU(h:rp X d n):VN X n d:=by intro t v F a af;have:=h.ls (pre:=[]) (t:=t) (v:=41::v) (ctx:= .paren) (no:=true) (F:=F) (.inl rfl) a.cc (jH.op (oY v) (oj v) rfl) af;grind
theorem adA{l:dD}{o:H}:hd l (.op o) r F=N ((l.ls .paren false).aG [41]) (λ_=>jr [41]) (r.drop 1) F:=rfl
theorem z7{l:dD}{w:H}{p:Bool}:hd l (.word w p) r F=(if w=[123] then N ((l.ls .pK false).aG [10,125]) λ_=>cI [125]
 else if w=j7 then q4 l
 else if w=mB then pM l l.dl
 else if w=oI then q5 l l.dl
 else N ((l.ls .pa false).aG dY) λ_=>h3 l dY:ab Unit) (r.drop w.length) F:=rfl
def G5(l:dD):Unit->ab (Unit⊕Unit):=λ_=>N ((l.ls .rT false).aG ([10]++hQ++[32,120,10]++ea)) λ_=>N (cI hQ) λ_=>N ((l.ls .pL false).aG (10::ea)) λ_=>
    N (bN []) λt=>if cm t h_ then N (cI h_) λ_=>aU (.inl ()) else
     if cm t gy then N (cI gy) λ_=>N ((l.ls .ko false).aG (10::ea)) λ_=>N (cI ea) λ_=>aU (.inr ()) else N (cI ea) λ_=>aU (.inr ())
theorem VV(l:dD):q4 l=cD (G5 l) ():=rfl
theorem O1(h:b≠59):ar (59::b::t)= .op [59]:=by rw[mQ (by simp)];simp[bt,l2,yz,List.isPrefixOf,h.symm]
theorem G6:ar (59::59::t)= .op [59,59]:=by rfl
theorem z8(t:H):bg (59::t)=some (59::t):=jD (by decide) (by decide) (by decide)
theorem jH.yp(hm:X.c0<=m)(eW:ad X.E m (l5 true n)){w v:H}(af:w≠[])(a:w.all qt=true)(b:w.head?≠some 35)(c:cV v=true)(he:dC ctx (.word w true)=true)(d:c5 X F (10::(w++v))):jH X (l5 true n) ctx no (10::(w++v)) (10::(w++v)) (w++v) F:=by grind[mE,jH.nl]
theorem jH.VW(hm:X.c0<=m)(eW:ad X.E m (l5 true n)){w v:H}(af:w≠[])(a:w.all qt=true)(c:w.head?≠some 35)(d:cV v=true)(he:dC ctx (.word w true)=true)(e:w.head?≠some 59):jH X (l5 true n) ctx no (59::(w++v)) (59::(w++v)) (w++v) F:=by
 obtain⟨f,g⟩:=mE af a c d;cases w with
 |nil=>grind
 |cons b t=>grind[jH.ady,O1]
theorem jH.VX(hm:X.c0<=m)(eW:ad X.E m (l5 true n)){w v:H}(af:w≠[])(a:w.all qt=true)(b:w.head?≠some 35)(c:cV v=true)(he:dC ctx (.word w true)=true):jH X (l5 true n) ctx no (59::32::(w++v)) (59::32::(w++v)) (w++v) F:=by grind[mE,jH.ady,j9,O1]
theorem bM.ok{a:α}:bM X (λq=>q=r) F (.ok a r F):= .inl ⟨rfl,rfl⟩
theorem yq(ok:E.mT)(hm:xU E m)(s:Unit):ad E m (G5 (aW true m) s):=ad.N ok ((hm.ls _ _).aG _) λ_=>ad.N ok (ad.cI ok _) λ_=>ad.N ok ((hm.ls _ _).aG _) λ_=>
 ad.gf ok λt=>ad.ite (ad.N ok (ad.cI ok _) λ_=>ad.ret _) (ad.ite (ad.N ok (ad.cI ok _) λ_=>ad.N ok ((hm.ls _ _).aG _) λ_=>ad.N ok (ad.cI ok _) λ_=>ad.ret _) (ad.N ok (ad.cI ok _) λ_=>ad.ret _))
theorem O2(ok:E.mT)(m:Nat):ad E (m+1) (l5 true (m+1)):=ad.oc ok (ad.pipe ok (ad.command ok (m4 ok m)))
section
variable(hm:X.c0<=m)(eW:ad X.E m (l5 true m))(kw:rp X d m)
include hm eW kw
theorem ar0{v:H}(b:gX d t)(af:c5 X F ([40]++t++[41]++v)):bM X (λr=>r=v) F (hd (aW true m) (.op [40]) ([40]++t++[41]++v) F):=by
 have he:[40]++t++[41]++v=40::(t++(41::v)):=by simp
 rw[he] at af⊢;rw[adA];refine bM.N hm (kw.ls (pre:=[]) (v:=41::v) (.inl rfl) b.cc (jH.op (oY v) (oj v) rfl) (af.sfx ⟨[40],rfl⟩)).aG (λa r' _ Z=>?_) (λ_=>ad.jr X.ok _);grind[Bm,oY,oj,bM.ok]
theorem adB{v:H}(b:cV v=true)(e:gX d t)(af:c5 X F ([123,32]++(t++[10])++[125]++v)):bM X (λr=>r=v) F (hd (aW true m) (.word [123] true) ([123,32]++(t++[10])++[125]++v) F):=by
 have he:[123,32]++(t++[10])++[125]++v=123::([32]++(t++(10::([125]++v)))):=by simp
 rw[he] at af⊢;rw[z7,ba rfl];have c:c5 X F ([32]++(t++(10::([125]++v)))):=af.sfx ⟨[123],rfl⟩;refine bM.N hm (kw.ls (.inr (.inl rfl)) e.cc (jH.yp (w:=[125]) hm eW (by simp) (by decide) (by decide) b rfl (c.sfx ⟨32::t,by simp⟩)) c).aG (λa r' _ Z=>?_) (λ_=>ad.cI X.ok _);subst Z;rw[q9 (by simp) (by decide) (by decide) b];exact bM.ok
theorem adC{v:H}(b:cV v=true)(f:gX d t)(hu:gX d u)(af:c5 X F ([105,102,32]++(t++[59])++[32,116,104,101,110,32]++(u++[10])++[102,105]++v)):bM X (λr=>r=v) F (hd (aW true m) (.word j7 true) ([105,102,32]++(t++[59])++[32,116,104,101,110,32]++(u++[10])++[102,105]++v) F):=by
 have bm:=m4 X.ok m;have he:[105,102,32]++(t++[59])++[32,116,104,101,110,32]++(u++[10])++[102,105]++v=j7++([32]++(t++(59::32::(hQ++([32]++(u++(10::(ea++v)))))))):=by simp[j7,hQ,ea]
 rw[he] at af⊢;rw[z7,aM (by decide),ba rfl,pq,VV,cL];have c:=af.sfx (gq j7 _);have e:c5 X F ([32]++(u++(10::(ea++v)))):=c.sfx ⟨32::t++59::32::hQ,by simp⟩;have g:c5 X F (10::(ea++v)):=e.sfx ⟨32::u,by simp⟩;unfold G5;refine bM.mm hm (yq X.ok bm) (kw.ls (.inr (.inl rfl)) f.cc (jH.VX (w:=hQ) hm eW (by decide) (by decide) (by decide) rfl rfl) c).aG (λa r' _ Z=>?_) (λ_=>ad.N X.ok (ad.cI X.ok _) λ_=>ad.N X.ok ((bm.ls _ _).aG _) λ_=>ad.gf X.ok λt=>ad.ite (ad.N X.ok (ad.cI X.ok _) λ_=>ad.ret _) (ad.ite (ad.N X.ok (ad.cI X.ok _) λ_=>ad.N X.ok ((bm.ls _ _).aG _) λ_=>ad.N X.ok (ad.cI X.ok _) λ_=>ad.ret _) (ad.N X.ok (ad.cI X.ok _) λ_=>ad.ret _)));subst Z;rw[aJ (q9 (by decide) (by decide) (by decide) rfl)];refine bM.mm hm (yq X.ok bm) (kw.ls (.inr (.inl rfl)) hu.cc (jH.yp (w:=ea) hm eW (by decide) (by decide) (by decide) b rfl g) e).aG (λa r' _ Z=>?_) (λ_=>ad.gf X.ok λt=>ad.ite (ad.N X.ok (ad.cI X.ok _) λ_=>ad.ret _) (ad.ite (ad.N X.ok (ad.cI X.ok _) λ_=>ad.N X.ok ((bm.ls _ _).aG _) λ_=>ad.N X.ok (ad.cI X.ok _) λ_=>ad.ret _) (ad.N X.ok (ad.cI X.ok _) λ_=>ad.ret _)));subst Z;obtain⟨h,i⟩:=mE (w:=ea) (r:=v) (by decide) (by decide) (by decide) b;rw[aJ (bL i),h,aM (by decide),aM (by decide),aJ (q9 (by decide) (by decide) (by decide) b)];exact bM.ok
theorem adD{v:H}(o:gX d t)(hu:gX d u)(af:c5 X F ([105,102,32,97,59,32,116,104,101,110,10]++(t++[10])++[101,108,105,102,32,98,10,116,104,101,110,32,99,10,101,108,115,101,32]++(u++[59])++[102,105,32,50,62,102]++v)):bM X (λr=>r=[32,50,62,102]++v) F (hd (aW true m) (.word j7 true) ([105,102,32,97,59,32,116,104,101,110,10]++(t++[10])++[101,108,105,102,32,98,10,116,104,101,110,32,99,10,101,108,115,101,32]++(u++[59])++[102,105,32,50,62,102]++v) F):=by
 have bm:=m4 X.ok m;have he:[105,102,32,97,59,32,116,104,101,110,10]++(t++[10])++[101,108,105,102,32,98,10,116,104,101,110,32,99,10,101,108,115,101,32]++(u++[59])++[102,105,32,50,62,102]++v=j7++([32]++([97]++(59::32::(hQ++([10]++(t++(10::(h_++([32]++([98]++(10::(hQ++([32]++([99]++(10::(gy++([32]++(u++(59::(ea++([32,50,62,102]++v))))))))))))))))))))):=by simp[j7,hQ,ea,h_,gy]
 rw[he] at af⊢;rw[z7,aM (by decide),ba rfl,pq,VV,cL];have g:=af.sfx (gq j7 _);have h:c5 X F ([10]++(t++(10::(h_++([32]++([98]++(10::(hQ++([32]++([99]++(10::(gy++([32]++(u++(59::(ea++([32,50,62,102]++v))))))))))))))))):=g.sfx ⟨[32]++([97]++(59::32::hQ)),by simp⟩;have i:c5 X F (10::(h_++([32]++([98]++(10::(hQ++([32]++([99]++(10::(gy++([32]++(u++(59::(ea++([32,50,62,102]++v))))))))))))))):=h.sfx ⟨10::t,by simp⟩;have j:c5 X F ([32]++([98]++(10::(hQ++([32]++([99]++(10::(gy++([32]++(u++(59::(ea++([32,50,62,102]++v))))))))))))):=i.sfx ⟨10::h_,by simp⟩;have k:c5 X F (10::(hQ++([32]++([99]++(10::(gy++([32]++(u++(59::(ea++([32,50,62,102]++v))))))))))):=j.sfx ⟨[32,98],by simp⟩;have l:c5 X F ([32]++([99]++(10::(gy++([32]++(u++(59::(ea++([32,50,62,102]++v))))))))):=k.sfx ⟨10::hQ,by simp⟩;have n:c5 X F (10::(gy++([32]++(u++(59::(ea++([32,50,62,102]++v))))))):=l.sfx ⟨[32,99],by simp⟩;have p:c5 X F ([32]++(u++(59::(ea++([32,50,62,102]++v))))):=n.sfx ⟨10::gy,by simp⟩;have c:ad X.E m (N (cI ea) λ_=>(aU (.inr ()):ab (Unit⊕Unit))):=ad.N X.ok (ad.cI X.ok _) λ_=>ad.ret _;have b:ad X.E m (N (bN []) λt=>if cm t h_ then N (cI h_) λ_=>(aU (.inl ()):ab (Unit⊕Unit)) else
  if cm t gy then N (cI gy) λ_=>N (((aW true m).ls .ko false).aG (10::ea)) λ_=>N (cI ea) λ_=>aU (.inr ()) else N (cI ea) λ_=>aU (.inr ())):=ad.gf X.ok λt=>ad.ite (ad.N X.ok (ad.cI X.ok _) λ_=>ad.ret _) (ad.ite (ad.N X.ok (ad.cI X.ok _) λ_=>ad.N X.ok ((bm.ls _ _).aG _) λ_=>c) c)
 unfold G5;refine bM.mm hm (yq X.ok bm) (kw.ls (.inr (.inl rfl)) (D4 (.inl rfl)) (jH.VX (w:=hQ) hm eW (by decide) (by decide) (by decide) rfl rfl) g).aG (λa r' _ Z=>?_) (λ_=>ad.N X.ok (ad.cI X.ok _) λ_=>ad.N X.ok ((bm.ls _ _).aG _) λ_=>b);subst Z;rw[aJ (q9 (by decide) (by decide) (by decide) rfl)];refine bM.mm hm (yq X.ok bm) (kw.ls (.inr (.inr rfl)) o.cc (jH.yp (w:=h_) hm eW (by decide) (by decide) (by decide) rfl rfl i) h).aG (λa r' _ Z=>?_) (λ_=>b);subst Z;obtain⟨e,f⟩:=mE (w:=h_) (r:=[32]++([98]++(10::(hQ++([32]++([99]++(10::(gy++([32]++(u++(59::(ea++([32,50,62,102]++v))))))))))))) (by decide) (by decide) (by decide) rfl;rw[aJ (bL f),e,ba (by decide),aJ (q9 (by decide) (by decide) (by decide) rfl)];show bM X _ F (if _ then cD (G5 (aW true m)) () _ F else .bad _);rw[ba (by grind[List.length_cons]),cL];unfold G5;refine bM.mm hm (yq X.ok bm) (kw.ls (.inr (.inl rfl)) (D4 (.inr (.inl rfl))) (jH.yp (w:=hQ) hm eW (by decide) (by decide) (by decide) rfl rfl k) j).aG (λa r' _ Z=>?_) (λ_=>ad.N X.ok (ad.cI X.ok _) λ_=>ad.N X.ok ((bm.ls _ _).aG _) λ_=>b);subst Z;rw[aJ (q9 (by decide) (by decide) (by decide) rfl)];refine bM.mm hm (yq X.ok bm) (kw.ls (.inr (.inl rfl)) (D4 (.inr (.inr rfl))) (jH.yp (w:=gy) hm eW (by decide) (by decide) (by decide) rfl rfl n) l).aG (λa r' _ Z=>?_) (λ_=>b);subst Z;obtain⟨e,f⟩:=mE (w:=gy) (r:=[32]++(u++(59::(ea++([32,50,62,102]++v))))) (by decide) (by decide) (by decide) rfl;rw[aJ (bL f),e,aM (by decide),ba (by decide),aJ (q9 (by decide) (by decide) (by decide) rfl)];refine bM.mm hm (yq X.ok bm) (kw.ls (.inr (.inl rfl)) hu.cc (jH.VW (w:=ea) hm eW (by decide) (by decide) (by decide) rfl rfl (by decide)) p).aG (λa r' _ Z=>?_) (λ_=>c);subst Z;rw[aJ (q9 (by decide) (by decide) (by decide) rfl)];exact bM.ok
theorem adE{v:H}(b:cV v=true){e:H}(he:e=[]\/e=[32])(hu:gX d u)(af:c5 X F (gd++([32]++(u++(59::(e++(hc++v))))))):bM X (λr=>r=v) F (h3 (aW true m) x (gd++([32]++(u++(59::(e++(hc++v)))))) F):=by
 have bm:=m4 X.ok m;unfold h3;rw[aJ (hn.2 (q9 (by decide) (by decide) (by decide) rfl))];have bn:jH X (l5 true m) .done false (59::(e++(hc++v))) (59::(e++(hc++v))) (hc++v) F:=by
  rcases he with rfl|rfl
  ·exact jH.VW (w:=hc) hm eW (by decide) (by decide) (by decide) b rfl (by decide)
  ·exact jH.VX (w:=hc) hm eW (by decide) (by decide) (by decide) b rfl
 refine bM.N hm (kw.ls (.inr (.inl rfl)) hu.cc bn (af.sfx (gq gd _))).aG (λa r' _ Z=>?_) (λ_=>ad.cI X.ok _);subst Z;rw[q9 (by decide) (by decide) (by decide) b];exact bM.ok
theorem adF{v:H}(e:cV v=true)(f:gX d t)(hu:gX d u)(af:c5 X F ([119,104,105,108,101,32]++(t++[10])++[100,111,32]++(u++[59])++[32,100,111,110,101]++v)):bM X (λr=>r=v) F (hd (aW true m) (.word ug true) ([119,104,105,108,101,32]++(t++[10])++[100,111,32]++(u++[59])++[32,100,111,110,101]++v) F):=by
 have bm:=m4 X.ok m;have he:[119,104,105,108,101,32]++(t++[10])++[100,111,32]++(u++[59])++[32,100,111,110,101]++v=ug++([32]++(t++(10::(gd++([32]++(u++(59::([32]++(hc++v))))))))):=by simp[ug,gd,hc]
 rw[he] at af⊢;rw[z7,aM (by decide),aM (by decide),aM (by decide),aM (by decide),pq];have b:=af.sfx (gq ug _);have c:c5 X F (10::(gd++([32]++(u++(59::([32]++(hc++v))))))):=b.sfx ⟨32::t,by simp⟩;refine bM.N hm (kw.ls (.inr (.inl rfl)) f.cc (jH.yp (w:=gd) hm eW (by decide) (by decide) (by decide) rfl rfl c) b).aG (λa r' _ Z=>?_) (λ_=>ad.body X.ok bm _);subst Z;exact adE hm eW kw e (.inr rfl) hu (c.sfx (eL _ _))
end
theorem adG{w:H}(b:e2 X D w)(hu:cV u=true)(a:u≠[])(af:c5 X F (w++u)):bM X (λr=>r=u) F (cR D (w++u) F):=by have:=(b u F a af).1;rw[Ko hu a] at this;exact this.D2 bM.ok
theorem D5{w:H}(a:w.all qt=true)(hu:cV u=true)(b:u≠[]):cR D (w++u) F= .ok () u F:=by grind[Nv,Ko]
theorem adH:bV 1 (b::t) F= .ok () t F:=rfl
def D6(D:ab Unit):Unit->ab (Unit⊕Unit):=λ_=>N (bN []) λt=>match t with
 | .eof=>b5 []
 | .word _ _=>N (cR D) λ_=>aU (.inl ())
 | .line=>aU (.inr ())
 | .op o=>if o=[59] then N (bV 1) λ_=>aU (.inr ()) else b6
theorem ar1(D:ab Unit):oL D=cD (D6 D) ():=rfl
theorem ar2(ok:E.mT)(hm:xU E m)(s:Unit):ad E m (D6 (aW true m).dl s):=ad.gf ok λt=>by
 cases t with
 |eof=>simp[ad.b5]
 |word _ _=>exact ad.N ok (ad.cR ok hm.dl) λ_=>ad.ret _
 |line=>simp[ad.ret]
 |op o=>exact ad.ite (ad.N ok (ad.cM ok _) λ_=>ad.ret _) ad.b6
section
variable(hm:X.c0<=m)(eW:ad X.E m (l5 true m))(kw:rp X d m)
include hm eW kw
theorem ar3{w v:H}(b:gh d w)(af:c5 X F (32::97::32::(w++(59::32::v)))):bM X (λr=>r=32::v) F (oL (aW true m).dl (32::97::32::(w++(59::32::v))) F):=by have bm:=m4 X.ok m;have hf:=λs=>ar2 X.ok bm s;rw[ar1,cL];unfold D6;obtain⟨e,f⟩:=mE (w:=[97]) (r:=32::(w++(59::32::v))) (by simp) (by decide) (by decide) rfl;rw[aJ (bL (by rw[j9];exact f)),e];simp only;rw[aJ (D5 (by decide) rfl (by simp))];show bM X _ F (if _ then cD (D6 (aW true m).dl) () (32::(w++(59::32::v))) F else .bad _);rw[ba (by simp),cL];unfold D6;obtain⟨g,⟨x,p,h⟩,j⟩:=(OX b).tok (u:=59::32::v);rw[aJ (bL (by rw[j9];exact g)),h];simp only;have c:ar (59::32::v)= .op [59]:=O1 (by decide);have i:cV (59::32::v)=true:=(ez.op (z8 _) c (by decide) (by decide)).iX;refine bM.mm hm hf (adG (kw.wd w b) i (by simp) (af.sfx ⟨[32,97,32],rfl⟩)) (λa r' _ Z=>?_) (λ_=>ad.ret _);subst Z;show bM X _ F (if _ then cD (D6 (aW true m).dl) () (59::32::v) F else .bad _);rw[ba (by grind),cL];unfold D6;rw[aJ (bL (z8 _)),c];simp only;rw[if_pos trivial,aJ adH];exact bM.ok
theorem adI{w v:H}(h:cV v=true)(i:gh d w)(hu:gX d u)(af:c5 X F ([102,111,114,32,120,32,105,110,32,97,32]++w++[59,32,100,111,32]++(u++[59])++[100,111,110,101]++v)):bM X (λr=>r=v) F (hd (aW true m) (.word mB true) ([102,111,114,32,120,32,105,110,32,97,32]++w++[59,32,100,111,32]++(u++[59])++[100,111,110,101]++v) F):=by
 have bm:=m4 X.ok m;have he:[102,111,114,32,120,32,105,110,32,97,32]++w++[59,32,100,111,32]++(u++[59])++[100,111,110,101]++v=mB++(32::([120]++(32::(eb++(32::97::32::(w++(59::32::(gd++([32]++(u++(59::([]++(hc++v))))))))))))):=by simp[mB,eb,gd,hc]
 rw[he] at af⊢;generalize f:gd++([32]++(u++(59::([]++(hc++v)))))=z at af⊢;have b:c5 X F (32::97::32::(w++(59::32::z))):=af.sfx ⟨mB++(32::([120]++(32::eb))),by simp⟩;have c:c5 X F z:=b.sfx ⟨32::97::32::(w++[59,32]),by simp⟩;rw[z7,if_neg (by decide),if_neg (by decide),if_pos rfl,List.drop_left];unfold pM;obtain⟨j,k⟩:=mE (w:=[120]) (r:=32::(eb++(32::97::32::(w++(59::32::z))))) (by simp) (by decide) (by decide) rfl;rw[aJ (bL (by rw[j9];exact k)),j];simp only;rw[ba (by decide),aJ Z5];refine bM.N (P:=λr=>r=z) hm (bM.aG ?_) (λa r' _ Z=>?_) (λ_=>ad.body X.ok bm _)
 ·obtain⟨g,e⟩:=mE (w:=eb) (r:=32::97::32::(w++(59::32::z))) (by decide) (by decide) (by decide) rfl;rw[aJ (bL (by rw[j9];exact e)),g,aM (by simp),aJ (oe e (by grind)),aJ (bL e),g,if_pos (by decide)];rw[aJ (show bV 2 (eb++(32::97::32::(w++(59::32::z)))) F= .ok () (32::97::32::(w++(59::32::z))) F from rfl)];refine bM.N hm (ar3 hm eW kw i b) (λa r' _ Z=>?_) (λ_=>ad.N X.ok (ad.lines X.ok) λ_=>ad.ret _);subst Z;subst f;obtain⟨n,l⟩:=mE (w:=gd) (r:=[32]++(u++(59::([]++(hc++v))))) (by decide) (by decide) (by decide) rfl;rw[aJ (oe (by rw[j9];exact l) (by grind))];exact bM.ok
 ·subst Z;subst f;exact adE hm eW kw h (.inl rfl) hu c
theorem adK{v:H}(d:cV v=true)(af:c5 X F ([102,111,114,32,120,10,100,111,32,97,10,100,111,110,101]++v)):bM X (λr=>r=v) F (hd (aW true m) (.word mB true) ([102,111,114,32,120,10,100,111,32,97,10,100,111,110,101]++v) F):=by
 have bm:=m4 X.ok m;have he:[102,111,114,32,120,10,100,111,32,97,10,100,111,110,101]++v=mB++(32::([120]++(10::(gd++([32]++([97]++(10::(hc++v)))))))):=by rfl
 rw[he] at af⊢;have b:c5 X F (10::(gd++([32]++([97]++(10::(hc++v)))))):=af.sfx ⟨mB++[32,120],by simp⟩;have e:c5 X F ([32]++([97]++(10::(hc++v)))):=b.sfx ⟨10::gd,by simp⟩;rw[z7,if_neg (by decide),if_neg (by decide),if_pos rfl,List.drop_left];unfold pM;obtain⟨g,h⟩:=mE (w:=[120]) (r:=10::(gd++([32]++([97]++(10::(hc++v)))))) (by simp) (by decide) (by decide) rfl;rw[aJ (bL (by rw[j9];exact h)),g];simp only;rw[ba (by decide),aJ Z5];obtain⟨f,c⟩:=mE (w:=gd) (r:=[32]++([97]++(10::(hc++v)))) (by decide) (by decide) (by decide) rfl;generalize i:gd++([32]++([97]++(10::(hc++v))))=z at b f c⊢;refine bM.N (P:=λr=>r=z) hm (bM.aG ?_) (λa r' _ Z=>?_) (λ_=>ad.body X.ok bm _)
 ·rw[aJ (bL (ez.nl _).qF),aM (by simp[ar])];refine bM.N hm (z5 hm (j:=[10]) (x:=z) (.inr (.inl rfl)) c (by grind) b) (λa r' _ Z=>?_) (λ_=>ad.gf X.ok λt=>ad.ite (ad.N X.ok (ad.cM X.ok _) λ_=>ad.N X.ok (ad.words X.ok bm) λ_=>ad.N X.ok (ad.lines X.ok) λ_=>ad.ret _) (ad.ret _));subst Z;rw[aJ (bL c),f,aM (by decide)];exact bM.ok
 ·subst Z;subst i;unfold h3;rw[aJ (hn.2 (q9 (by decide) (by decide) (by decide) rfl))];refine bM.N hm (kw.ls (.inr (.inl rfl)) (D4 (.inl rfl)) (jH.yp (w:=hc) hm eW (by decide) (by decide) (by decide) d rfl (e.sfx ⟨[32,97],rfl⟩)) e).aG (λa r' _ Z=>?_) (λ_=>ad.cI X.ok _);subst Z;rw[q9 (by decide) (by decide) (by decide) d];exact bM.ok
end
def O3(D:ab Unit):Unit->ab (Unit⊕Unit):=λ_=>N (bN [120,41]) λt=>match t with
 | .eof=>b5 [120,41]
 | .word _ _=>N ((cR D).aG [41]) λ_=>N (bN [41]) λt=>match t with
   | .eof=>b5 [41]
   | .op o=>if o=[124] then N (bV 1) λ_=>aU (.inl ()) else if o=[41] then N (bV 1) λ_=>aU (.inr ()) else b6
   |_=>b6
 |_=>b6
theorem VZ(D:ab Unit):lb D=cD (O3 D) ():=rfl
theorem adL(h:b≠124):ar (124::b::t)= .op [124]:=by rw[mQ (by simp)];simp[bt,l2,yz,List.isPrefixOf,h.symm]
theorem V0{y:H}(d:qt b=true)(e:b≠35)(a:bg y=some (b::41::x)):lb D y F= .ok () x F:=by have M:ar (b::41::x)= .word [b] true:=nV (w:=[b]) (by simp) (by grind) (ez.op (oY x) (oj x) (by decide) (by decide)).iX;rw[VZ,cL];unfold O3;rw[aJ (bL a),M];simp only;have c:cR D (b::41::x) F= .ok () (41::x) F:=D5 (w:=[b]) (u:=41::x) (by grind) (ez.op (oY x) (oj x) (by decide) (by decide)).iX (by simp);rw[aJ (hn.2 c),aJ (bL (oY x)),oj];rfl
theorem ar5:lb D (97::124::98::41::x) F= .ok () x F:=by have a:ar (124::98::41::x)= .op [124]:=adL (by decide);have Y:bg (124::98::41::x)=some (124::98::41::x):=jD (by decide) (by decide) (by decide);have b:=(ez.op Y a (by decide) (by decide)).iX;have M:ar (97::124::98::41::x)= .word [97] true:=nV (w:=[97]) (by simp) (by decide) b;rw[VZ,cL];unfold O3;rw[aJ (bL (jD (by decide) (by decide) (by decide))),M];simp only;have c:cR D (97::124::98::41::x) F= .ok () (124::98::41::x) F:=D5 (w:=[97]) (u:=124::98::41::x) (by decide) b (by simp);rw[aJ (hn.2 c),aJ (bL Y),a];simp only;rw[ba trivial,aJ adH];show(if _ then cD (O3 D) () (98::41::x) F else .bad _)=_;rw[ba (by simp),<-VZ];exact V0 (by decide) (by decide) (jD (by decide) (by decide) (by decide))
theorem adM{y:H}(Y:bg y=some x)(M:ar x≠ .eof)(U:ar x≠ .line)(he:dC .item (ar x)=true):(aW true m).ls .item true y F= .ok 0 x F:=by rw[Dr,td,aJ (hn.2 (oe Y U)),cL];have a:=lz _ _ _ (cS _) Y;rw[ZS a M he rfl];rfl
def z9(l:dD)(D:ab Unit):Unit->ab (Unit⊕Unit):=λ_=>N cQ λ_=>N (bN []) λt=>if t= .eof then b5 [] else if cm t dt then N (bV 4) λ_=>aU (.inr ()) else
 N ((if t= .op [40] then bV 1 else aU ())) λ_=>N (lb D) λ_=>N (l.ls .item true) λ_=>N (bN []) λt=>if t= .op [59,59] then N (bV 2) λ_=>aU (.inl ()) else aU (.inl ())
theorem D8(l:dD)(D:ab Unit):nn l D=cD (z9 l D) ():=rfl
theorem adN(ok:E.mT):ad E m (N (bN []) λt=>if t= .op [59,59] then N (bV 2) λ_=>(aU (.inl ()):ab (Unit⊕Unit)) else aU (.inl ())):=ad.gf ok λt=>ad.ite (ad.N ok (ad.cM ok _) λ_=>ad.ret _) (ad.ret _)
theorem adO(ok:E.mT)(hm:xU E m):ad E m (N (bN []) λt=>if t= .eof then b5 [] else if cm t dt then N (bV 4) λ_=>(aU (.inr ()):ab (Unit⊕Unit)) else
 N ((if t= .op [40] then bV 1 else aU ())) λ_=>N (lb (aW true m).dl) λ_=>N ((aW true m).ls .item true) λ_=>N (bN []) λt=>if t= .op [59,59] then N (bV 2) λ_=>aU (.inl ()) else aU (.inl ())):=ad.gf ok λt=>ad.ite (ad.b5 _) (ad.ite (ad.N ok (ad.cM ok _) λ_=>ad.ret _)
 (ad.N ok (ad.ite (ad.cM ok _) (ad.ret _)) λ_=>ad.N ok (ad.uk ok hm) λ_=>ad.N ok (hm.ls _ _) λ_=>adN ok))
theorem ar6(ok:E.mT)(hm:xU E m)(s:Unit):ad E m (z9 (aW true m) (aW true m).dl s):=ad.N ok (ad.lines ok) λ_=>adO ok hm
section
variable(hm:X.c0<=m)(eW:ad X.E m (l5 true m))(kw:rp X d m)
include hm eW kw
theorem ar7{v:H}(k:cV v=true)(hu:gX d u)(af:c5 X F ([32,97,124,98,41]++([32]++(u++([59,59]++([10]++([40,99,41,32,59,59,32,100,41,32]++(dt++v)))))))):bM X (λr=>r=v) F (nn (aW true m) (aW true m).dl ([32,97,124,98,41]++([32]++(u++([59,59]++([10]++([40,99,41,32,59,59,32,100,41,32]++(dt++v))))))) F):=by
 have bm:=m4 X.ok m;have hf:=λs=>ar6 X.ok bm s;obtain⟨c,e⟩:=mE (w:=dt) (r:=v) (by decide) (by decide) (by decide) k;have l:nn (aW true m) (aW true m).dl (dt++v) F= .ok () v F:=by rw[D8,cL];unfold z9;rw[aJ (oe e (by grind)),aJ (bL e),c,if_neg (by simp),if_pos (by decide)];rfl
 have n:nn (aW true m) (aW true m).dl ([32,100,41,32]++(dt++v)) F= .ok () v F:=by
  rw[D8,cL];unfold z9;have Y:bg ([32,100,41,32]++(dt++v))=some (100::41::32::(dt++v)):=by show bg (32::100::41::32::(dt++v))=_;rw[j9];exact jD (by decide) (by decide) (by decide)
  have b:ar (100::41::32::(dt++v))= .word [100] true:=nV (w:=[100]) (by simp) (by decide) (ez.op (oY _) (oj _) (by decide) (by decide)).iX;have f:=lz _ _ _ (Nat.le_refl _) Y
  rw[aJ (oe Y (by grind)),aJ (bL f),b,if_neg (by simp),if_neg (by decide),if_neg (by simp),aJ (show aU () (100::41::32::(dt++v)) F= .ok () (100::41::32::(dt++v)) F from rfl),aJ (V0 (by decide) (by decide) f),
   aJ (adM (x:=dt++v) (by grind[j9]) (by grind) (by grind) (by rw[c];decide)),aJ (bL e),c,aM (by simp)]
  show(if _ then cD (z9 (aW true m) (aW true m).dl) () (dt++v) F else .bad _)=_;rw[ba (by grind),<-D8];exact l
 have g:bM X (λr=>r=v) F (nn (aW true m) (aW true m).dl ([10]++([40,99,41,32,59,59,32,100,41,32]++(dt++v))) F):=by
  have Y:bg ([40,99,41,32,59,59,32,100,41,32]++(dt++v))=some ([40,99,41,32,59,59,32,100,41,32]++(dt++v)):=jD (by decide) (by decide) (by decide);have b:ar ([40,99,41,32,59,59,32,100,41,32]++(dt++v))= .op [40]:=by rfl
  have h:c5 X F ([10]++([40,99,41,32,59,59,32,100,41,32]++(dt++v))):=af.sfx ⟨[32,97,124,98,41]++([32]++(u++[59,59])),by simp⟩;rw[D8,cL];unfold z9;generalize i:[40,99,41,32,59,59,32,100,41,32]++(dt++v)=z at Y b h⊢;refine bM.mm hm hf (z5 hm (j:=[10]) (x:=z) (.inr (.inl rfl)) Y (by grind) h) (λa r' _ Z=>?_) (λ_=>adO X.ok bm);subst Z;rw[aJ (bL Y),b,aM (by simp),aM (by decide),ba rfl];subst i;rw[aJ (show bV 1 ([40,99,41,32,59,59,32,100,41,32]++(dt++v)) F= .ok () (99::41::32::59::59::([32,100,41,32]++(dt++v))) F from rfl),
   aJ (V0 (x:=32::59::59::([32,100,41,32]++(dt++v))) (by decide) (by decide) (jD (by decide) (by decide) (by decide))),
   aJ (adM (x:=59::59::([32,100,41,32]++(dt++v))) (by simp[j9,z8]) (by simp[G6]) (by simp[G6]) (by rfl)),
   aJ (bL (z8 _)),G6,ba rfl,aJ (show bV 2 (59::59::([32,100,41,32]++(dt++v))) F= .ok () ([32,100,41,32]++(dt++v)) F from rfl)]
  show bM X _ F (if _ then cD (z9 (aW true m) (aW true m).dl) () ([32,100,41,32]++(dt++v)) F else .bad _);rw[ba (by simp),<-D8,n];exact bM.ok
 generalize i:[10]++([40,99,41,32,59,59,32,100,41,32]++(dt++v))=z at af g⊢;rw[D8,cL];unfold z9;have o:ar (124::98::41::([32]++(u++([59,59]++z))))= .op [124]:=adL (by decide);have Y:bg (97::124::98::41::([32]++(u++([59,59]++z))))=some (97::124::98::41::([32]++(u++([59,59]++z)))):=jD (by decide) (by decide) (by decide);have b:ar (97::124::98::41::([32]++(u++([59,59]++z))))= .word [97] true:=nV (w:=[97]) (by simp) (by decide) (ez.op (jD (by decide) (by decide) (by decide)) o (by decide) (by decide)).iX;show bM X _ F (dc _ _ (N cQ _ (32::97::124::98::41::([32]++(u++([59,59]++z)))) F))
 rw[aJ (oe (an:=97::124::98::41::([32]++(u++([59,59]++z)))) (show bg (32::97::124::98::41::([32]++(u++([59,59]++z))))=_ by grind[j9]) (by grind)),
  aJ (bL Y),b,aM (by simp),aM (by decide),aM (by simp),aJ (show aU () (97::124::98::41::([32]++(u++([59,59]++z)))) F= .ok () (97::124::98::41::([32]++(u++([59,59]++z)))) F from rfl),aJ ar5]
 have p:c5 X F ([32]++(u++([59,59]++z))):=af.sfx (gq _ _);refine bM.mm hm hf (kw.ls (v:=[59,59]++z) (.inr (.inl rfl)) hu.cc (jH.op (z8 _) G6 rfl) p) (λa r' _ Z=>?_) (λ_=>adN X.ok);subst Z;rw[aJ (bL (show bg ([59,59]++z)=some ([59,59]++z) from z8 _)),ba (show ar ([59,59]++z)= .op [59,59] from G6),aJ (show bV 2 ([59,59]++z) F= .ok () z F from rfl)];show bM X _ F (if _ then cD (z9 (aW true m) (aW true m).dl) () z F else .bad _);rw[ba (by grind),<-D8];exact g
theorem adP{w v:H}(i:cV v=true)(f:gh d w)(hu:gX d u)(af:c5 X F ([99,97,115,101,32]++w++[32,105,110,32,97,124,98,41,32]++(u++[])++[59,59,10,40,99,41,32,59,59,32,100,41,32,101,115,97,99]++v)):bM X (λr=>r=v) F (hd (aW true m) (.word oI true) ([99,97,115,101,32]++w++[32,105,110,32,97,124,98,41,32]++(u++[])++[59,59,10,40,99,41,32,59,59,32,100,41,32,101,115,97,99]++v) F):=by
 have bm:=m4 X.ok m;have he:[99,97,115,101,32]++w++[32,105,110,32,97,124,98,41,32]++(u++[])++[59,59,10,40,99,41,32,59,59,32,100,41,32,101,115,97,99]++v=oI++(32::(w++(32::(eb++([32,97,124,98,41]++([32]++(u++([59,59]++([10]++([40,99,41,32,59,59,32,100,41,32]++(dt++v))))))))))):=by simp[oI,eb,dt]
 rw[he] at af⊢;have c:=ar7 hm eW kw (v:=v) (u:=u) (F:=F) i hu;have e:cV ([32,97,124,98,41]++([32]++(u++([59,59]++([10]++([40,99,41,32,59,59,32,100,41,32]++(dt++v)))))))=true:=rfl;generalize [32,97,124,98,41]++([32]++(u++([59,59]++([10]++([40,99,41,32,59,59,32,100,41,32]++(dt++v))))))=z at af c e⊢;have g:c5 X F (w++(32::(eb++z))):=af.sfx ⟨oI++[32],by simp⟩;have j:c5 X F z:=g.sfx ⟨w++(32::eb),by simp⟩;rw[z7,if_neg (by decide),if_neg (by decide),if_neg (by decide),if_pos rfl,List.drop_left];unfold q5;obtain⟨k,⟨x,p,l⟩,s⟩:=(OX f).tok (u:=32::(eb++z));rw[aJ (bL (by rw[j9];exact k)),l];simp only;have n:cV z=true:=e;obtain⟨o,h⟩:=mE (w:=eb) (r:=z) (by decide) (by decide) (by decide) n;refine bM.N (P:=λr=>r=eb++z) hm (bM.aG ?_) (λa r' b Z=>?_) (λt=>ad.ite (ad.N X.ok (ad.cM X.ok _) λ_=>(ad.items X.ok bm).aG _) ad.b6)
 ·refine bM.N hm (adG (kw.wd w f) rfl (by simp) g) (λa r' _ Z=>?_) (λ_=>ad.N X.ok (ad.lines X.ok) λ_=>ad.gf X.ok λt=>ad.ite (ad.b5 _) (ad.ret _));subst Z;rw[aJ (oe (by rw[j9];exact h) (by grind)),aJ (bL h),o,if_neg (by simp)];exact bM.ok
 ·subst Z;have q:a= .word eb true:=by
   have b:=hn.1 b;obtain⟨_,an,y,_,b⟩:=bW b;obtain⟨_,A,B,_,b⟩:=bW b;obtain⟨t,C,D,ah,b⟩:=bW b;have x4:=nr ah;split at b
   ·cases b
   ·cases b;grind
  subst q;rw[ba (by decide),aJ (show bV 2 (eb++z) F= .ok () z F from rfl)];exact(c j).aG
end
theorem ar8{y v:H}(b:y=[32,50,62,102]\/y=[32,62,102])(a:cV v=true)(c:v≠[]):dM D (y++v) F= .ok true v F:=by
 have M:fI (y++v) F= .ok (some [62]) (102::v) F:=by
  rcases b with rfl|rfl
  ·have Y:bg ([32,50,62,102]++v)=some (50::62::102::v):=by show bg (32::50::62::102::v)=_;rw[j9];exact jD (by decide) (by decide) (by decide)
   unfold fI;rw[Y];rfl
  ·have Y:bg ([32,62,102]++v)=some (62::102::v):=by show bg (32::62::102::v)=_;rw[j9];exact jD (by decide) (by decide) (by decide)
   unfold fI;rw[Y];rfl
 unfold dM;rw[aJ M];simp only;rw[aM (by decide),aM (by decide)];obtain⟨d,e⟩:=mE (w:=[102]) (r:=v) (by decide) (by decide) (by decide) a;have U:jP D [120] (102::v) F= .ok () v F:=by unfold jP;rw[aJ (bL (show bg (102::v)=some (102::v) from e)),show ar (102::v)= .word [102] true from d];exact D5 (w:=[102]) (by decide) a c
 rw[aJ U];rfl
theorem V2{y v:H}(bw:y=[]\/y=[32,50,62,102]\/y=[32,62,102])(a:ez v v'):gH D (y++v) F= .ok () v' F:=by
 rcases bw with rfl|bw
 ·exact a.l4 D F
 ·have M:dM D (y++v) F= .ok true v F:=ar8 bw a.iX a.ne;unfold gH;rw[cL,aJ M];have aw:v.length<(y++v).length:=by grind
  show(if v.length<(y++v).length then gH D v F else .bad v)=_;rw[ba aw];exact a.l4 D F
section
variable(hm:X.c0<=m)(eW:ad X.E m (l5 true m))(kw:rp X d m)
include hm eW kw
theorem V3{v:H}(b:cV v=true)(e:gX d t)(af:c5 X F (123::([10]++(t++(10::([125]++v)))))):bM X (λr=>r=v) F (hd (aW true m) (.word [123] true) (123::([10]++(t++(10::([125]++v))))) F):=by rw[z7,ba rfl];have c:c5 X F ([10]++(t++(10::([125]++v)))):=af.sfx ⟨[123],rfl⟩;refine bM.N hm (kw.ls (.inr (.inr rfl)) e.cc (jH.yp (w:=[125]) hm eW (by simp) (by decide) (by decide) b rfl (c.sfx ⟨10::t,by simp⟩)) c).aG (λa r' _ Z=>?_) (λ_=>ad.cI X.ok _);subst Z;rw[q9 (by simp) (by decide) (by decide) b];exact bM.ok
end
theorem BN(hm:X.c0<=m){c v y:H}(aq:D3 c){t:Tok}(b:ar (c++(y++v))=t)(g:fJ t=true)(d:ez v v')(e:y=[]\/y=[32,50,62,102]\/y=[32,62,102])
  (az:bM X (λr=>r=y++v) F (hd (aW true m) t (c++(y++v)) F)):bM X (λr=>r=v') F (fA true (some (aW true m)) (dj (some (aW true m))) (c++(y++v)) F):=by
 obtain⟨⟨M,U,f,h,i⟩,j⟩:=aq.facts (y++v);have bm:=m4 X.ok (m+1);unfold fA;rw[aJ (bL M),aM f,ba (by grind),b];refine bM.N (n:=m+1) (by omega) (show bM X (λr=>r=y++v) F (rU (some (aW true m)) t (c++(y++v)) F) from az.named) (λa r' _ Z=>?_) (λ_=>ad.l4 X.ok bm.dl);subst Z;rw[V2 e d];exact bM.ok
section
variable(hm:X.c0<=m)(kw:rp X d m)
include hm kw
theorem ar9{v:H}(f:ez v v')(g:gX d t)(eW:ad X.E m (l5 true m))(af:c5 X F ([102,40,41,32,123,10]++(t++[10])++[125,32,62,102]++v)):bM X (λr=>r=v') F (fA true (some (aW true (m+1))) (dj (some (aW true (m+1)))) ([102,40,41,32,123,10]++(t++[10])++[125,32,62,102]++v) F):=by
 have bm:=m4 X.ok (m+1);have he:[102,40,41,32,123,10]++(t++[10])++[125,32,62,102]++v=[102]++(40::41::32::123::([10]++(t++(10::([125]++([32,62,102]++v)))))):=by simp
 rw[he] at af⊢;have az:=V3 hm eW kw (t:=t) (v:=[32,62,102]++v) (F:=F) rfl g (af.sfx ⟨[102,40,41,32],rfl⟩);have c:cV ([10]++(t++(10::([125]++([32,62,102]++v)))))=true:=rfl;generalize [10]++(t++(10::([125]++([32,62,102]++v))))=z at af az c⊢;have h:ar (40::41::32::123::z)= .op [40]:=by rfl
 have b:bg (40::41::32::123::z)=some (40::41::32::123::z):=jD (by decide) (by decide) (by decide);obtain⟨i,e⟩:=mE (w:=[102]) (r:=40::41::32::123::z) (by decide) (by decide) (by decide) (Jx _);unfold fA;rw[aJ (bL e),i,if_neg (by simp),if_neg (by decide)];simp only;rw[if_neg (by decide),aJ (show dM (dj (some (aW true (m+1)))) ([102]++(40::41::32::123::z)) F= .ok false ([102]++(40::41::32::123::z)) F from TC e (by decide) (by decide)),aM (by simp),aJ (D5 (by decide) (Jx _) (by simp)),ba (by decide),aJ (bL b),h,ba rfl];refine bM.N (P:=λr=>r=v') (n:=m+1) (by omega) ?_ (λa r' _ Z=>by subst Z;exact bM.ok) (λ_=>ad.ret _);have j:(aW true (m+1)).has=true:=rfl;have k:bg (32::123::z)=some (123::z):=by rw[j9];exact jD (by decide) (by decide) (by decide)
 obtain⟨l,o⟩:=mE (w:=[123]) (r:=z) (by decide) (by decide) (by decide) c;unfold kU;simp only;rw[ba j];refine bM.named ?_
 rw[aJ (show bV 1 (40::41::32::123::z) F= .ok () (41::32::123::z) F from rfl),aJ (bL (oY _)),oj,aM (by simp),ba rfl,
  aJ (show bV 1 (41::32::123::z) F= .ok () (32::123::z) F from rfl),aJ (hn.2 (oe k (by grind))),
  aJ (bL (show bg (123::z)=some (123::z) from o)),show ar (123::z)= .word [123] true from l,aM (by simp),ba (by decide)]
 refine bM.N (n:=m+1) (by omega) (show bM X (λr=>r=[32,62,102]++v) F ((aW true (m+1)).cp (.word [123] true) (123::z) F) from az.named) (λa r' _ Z=>?_) (λ_=>ad.ite bm.rd (ad.ret _));subst Z;rw[ba trivial];rw[show(aW true (m+1)).rd=gH (dj (some (aW true m))) from rfl,V2 (.inr (.inr rfl)) f];exact bM.ok
end
theorem asa(hm:X.c0<=n)(hD:ad X.E n (dj lo)):∀w,gh 0 w->yn w/\e2 X (dj lo) w:=λw a=>⟨OX a,e2.consts hm hD rfl w a⟩
theorem BO(hm:X.c0<=m+1)(hW:∀w,gh d w->e2 X (dj (some (aW true m))) w){c v:H}(Y:w7 (gh d) (gh 0) c)(b:ez v v')(af:c5 X F (c++v)):bM X (λq=>q=v') F (fA true (some (aW true m)) (dj (some (aW true m))) (c++v) F):=by have bm:=m4 X.ok (m+1);have hD:ad X.E (m+1) (dj (some (aW true m))):=bm.dl;exact arN hm hD (show gn (dj (some (aW true m))) from(rW true (m+1)).dl) (λw a=>⟨OX a,hW w a⟩) (asa hm hD) Y b af
theorem asb(hm:X.c0<=m+1):z6 X (fA true (some (aW true m)) (dj (some (aW true m)))) (yo 0):=by
 have bm:=m4 X.ok (m+1);have hD:ad X.E (m+1) (dj (some (aW true m))):=bm.dl;refine⟨λ{c v v' F} aq a af=>?_,λ{c} x aq=>(aq.aB.facts x).1⟩;have hW:∀w,gh 0 w->e2 X (dj (some (aW true m))) w:=e2.consts hm hD rfl
 rcases aq with aq|rfl|rfl|rfl
 ·exact BO hm hW (qD.q aq) a af
 ·exact BO hm hW (w7.one (.inl rfl)) a af
 ·exact BO hm hW (w7.one (.inr (.inl rfl))) a af
 ·exact BO hm hW (w7.one (.inr (.inr rfl))) a af
theorem asc(aB:d<=2)(hm:X.c0<=m)(kw:rp X d m)(e:rp X d (m+1))(eW:ad X.E m (l5 true m)):z6 X (fA true (some (aW true (m+1))) (dj (some (aW true (m+1))))) (yo (d+1)):=by
 have bm:=m4 X.ok (m+1);have f:=O2 X.ok m;have a:X.c0<=m+1:=by omega
 have hW:∀w,gh (d+1) w->e2 X (dj (some (aW true (m+1)))) w:=adg a bm aB e.VU e.wd
 refine⟨λ{c v v' F} aq b af=>?_,λ{c} x aq=>(aq.aB.facts x).1⟩;have g:=aq.aB;rcases aq with(aq|aq)|rfl|rfl|rfl
 ·grind[BO,qD.q]
 ·rcases aq with⟨t,M,rfl⟩|⟨t,M,rfl⟩|⟨t,u,M,U,rfl⟩|⟨t,u,M,U,rfl⟩|⟨t,u,M,U,rfl⟩|⟨w,u,M,U,rfl⟩|rfl|⟨w,u,M,U,rfl⟩|⟨t,M,rfl⟩
  ·exact BN a g (y:=[]) (mQ (by simp)|>.2 (Z6 _)) rfl b (.inl rfl) (ar0 a f e M af)
  ·exact BN a g (y:=[]) (nV (w:=[123]) (by simp) (by decide) (mN _)) (by decide) b (.inl rfl) (adB a f e b.iX M af)
  ·exact BN a g (y:=[]) (nV (w:=j7) (by decide) (by decide) (mN _)) (by decide) b (.inl rfl) (adC a f e b.iX M U af)
  ·have he:∀(z:H),[105,102,32,97,59,32,116,104,101,110,10]++(t++[10])++[101,108,105,102,32,98,10,116,104,101,110,32,99,10,101,108,115,101,32]++(u++[59])++[102,105,32,50,62,102]++z=([105,102,32,97,59,32,116,104,101,110,10]++(t++[10])++[101,108,105,102,32,98,10,116,104,101,110,32,99,10,101,108,115,101,32]++(u++[59])++[102,105])++([32,50,62,102]++z):=λz=>by simp
   have az:=adD a f e M U af;rw[he] at az⊢;exact BN a ⟨105,_,rfl,by decide,by decide,by decide,by decide,by decide,.inr ⟨by decide,.inl (by decide)⟩⟩ (nV (w:=j7) (by decide) (by decide) (mN _)) (by decide) b (.inr (.inl rfl)) az
  ·exact BN a g (y:=[]) (nV (w:=ug) (by decide) (by decide) (mN _)) (by decide) b (.inl rfl) (adF a f e b.iX M U af)
  ·exact BN a g (y:=[]) (nV (w:=mB) (by decide) (by decide) (mN _)) (by decide) b (.inl rfl) (adI a f e b.iX M U af)
  ·exact BN a g (y:=[]) (nV (w:=mB) (by decide) (by decide) (mN _)) (by decide) b (.inl rfl) (adK a f e b.iX af)
  ·exact BN a g (y:=[]) (nV (w:=oI) (by decide) (by decide) (mN _)) (by decide) b (.inl rfl) (adP a f e b.iX M U af)
  grind[ar9]
 ·exact BO (by omega) hW (w7.one (.inl rfl)) b af
 ·exact BO (by omega) hW (w7.one (.inr (.inl rfl))) b af
 ·exact BO (by omega) hW (w7.one (.inr (.inr rfl))) b af
theorem rp.of(hm:X.c0<=m+1)(eJ:z6 X (fA true (some (aW true m)) (dj (some (aW true m)))) (yo d))(hW:∀w,gh d w->e2 X (dj (some (aW true m))) w):rp X d (m+1):=
 ⟨λ{pre t v v' b ctx no F} ah a bn af=>arZ hm (ad.command X.ok (m4 X.ok m)) eJ (λx k aq=>(aq.aB.facts x).2 k) ah a bn af,hW,λ{t v v' b ctx no F} k a bn af=>by obtain⟨c,l,M,U,rfl⟩:=a;rw[uS] at af⊢;exact adu hm (ad.command X.ok (m4 X.ok m)) eJ (λx k aq=>(aq.aB.facts x).2 k) bn.ce bn.adw bn.adx bn.go l.length l c k (cS _) M U af⟩
theorem V4{X:fK}(aq:1<=X.c0):∀d,d<=3->∀n,X.c0+2*d<=n->rp X d n
 |0,_,n,af=>by
  obtain⟨m,rfl⟩:∃m,n=m+1:=⟨n-1,by omega⟩
  exact rp.of (by omega) (asb (by omega)) (e2.consts (m:=m+1) (by omega) (m4 X.ok (m+1)).dl rfl)
 |d+1,aB,n,af=>by
  obtain⟨m,rfl⟩:∃m,n=m+3:=⟨n-3,by omega⟩
  have b:=V4 aq d (by omega) (m+1) (by omega);have a:=V4 aq d (by omega) (m+2) (by omega);exact rp.of (by omega) (asc (by omega) (by omega) b a (O2 X.ok m)) (adg (by omega) (m4 X.ok (m+2)) (by omega) a.VU a.wd)
def gY(c:H):Prop:=(69:UInt8)∉c/\c≠[]/\c.getLast?≠some 10
theorem gY.app{y:H}(b:(69:UInt8)∉x)(a:gY y):gY (x++y):=by obtain⟨M,U,c⟩:=a;refine⟨by grind,by simp[U],?_⟩;simp_all
theorem gY.k{y:H}(a:gY x)(b:(69:UInt8)∉y/\y≠[]/\y.getLast?≠some 10):gY (x++y):=gY.app a.1 b
theorem gY.args{W:H->Prop}(hW:∀w,W w->gY w):∀{ws:bs},(∀w∈ws,W w)->ji ws=[]\/gY (ji ws)
 |[],_=> .inl rfl
 |w::t,h=>by
  have he:ji (w::t)=[32]++(w++ji t):=by rfl
  right;rw[he];refine gY.app (by decide) ?_;rcases gY.args hW (ws:=t) (λw a=>h w (by grind)) with M|M
  ·grind
  ·exact gY.app (hW w (h w (by simp))).1 M
theorem gY.simple{W a:H->Prop}(hW:∀w,W w->gY w)(b:∀w,a w->gY w){s:H}(h:qD W a s):gY s:=by
 obtain⟨x,ws,r,M,U,rfl,c⟩:=h;have d:gY x:=by simp only[rl,lS,ru,uT] at M;rcases M with rfl|rfl|rfl|rfl<;>exact⟨by decide,by decide,by decide⟩
 have e:gY (x++ji ws):=by
  rcases gY.args hW U with h|h
  ·grind
  ·exact gY.app d.1 h
 rcases c with rfl|rfl|⟨w,f,rfl⟩
 ·grind
 ·grind[gY.k]
 ·exact gY.app e.1 (gY.app (by decide) (b w f))
theorem gY.list(a:∀c,C c->gY c)(h:r8 C t):gY t:=by
 obtain⟨c,l,M,U,rfl⟩:=h;induction l generalizing c with
 |nil=>grind[cY]
 |cons p l b=>
  have he:c++cY (p::l)=(c++p.1)++(p.2++cY l):=by simp[cY]
  rw[he];obtain⟨d,e⟩:=U p (by simp);refine gY.app ?_ (b p.2 e λq f=>U q (by grind));have:(69:UInt8)∉p.1:=(by decide:∀j∈jt,(69:UInt8)∉j) p.1 d;simp[(a c M).1,this]
theorem O4:∀d,(∀w,gh d w->gY w)/\∀t,gX d t->gY t
 |0=>by
  have az:∀w∈nz,gY w:=by unfold gY;decide
  exact⟨az,λt e=>gY.list (λc aq=>gY.simple az az aq) e⟩
 |d+1=>by
  obtain⟨f,a⟩:=O4 d
  have az:∀w∈nz,gY w:=by unfold gY;decide
  have g:∀w,gh (d+1) w->gY w:=by
   intro w h;rcases h with h|⟨t,M,h|h⟩|⟨v,M,h⟩
   ·grind
   ·subst h;exact gY.k (gY.app (by decide) (a t M)) ⟨by decide,by decide,by decide⟩
   ·subst h;exact gY.k (gY.app (by decide) (a t M)) ⟨by decide,by decide,by decide⟩
   ·subst h;exact gY.k (gY.app (by decide) (f v M)) ⟨by decide,by decide,by decide⟩
  refine⟨g,λt e=>gY.list (λc aq=>?_) e⟩;rcases aq with aq|aq
  ·exact gY.simple g az aq
  ·have j:∀{t:H}{b:UInt8},gX d t->b≠69->(69:UInt8)∉t++[b]:=λe i=>by simp[(a _ e).1,Ne.symm i]
   rcases aq with⟨t,M,rfl⟩|⟨t,M,rfl⟩|⟨t,u,M,U,rfl⟩|⟨t,u,M,U,rfl⟩|⟨t,u,M,U,rfl⟩|⟨w,u,M,U,rfl⟩|rfl|⟨w,u,M,U,rfl⟩|⟨t,M,rfl⟩
   ·exact gY.k (gY.app (by decide) (a t M)) ⟨by decide,by decide,by decide⟩
   ·exact gY.app (by simp[(a t M).1]) ⟨by decide,by decide,by decide⟩
   ·exact gY.app (by simp[(a t M).1,(a u U).1]) ⟨by decide,by decide,by decide⟩
   ·exact gY.app (by simp[(a t M).1,(a u U).1]) ⟨by decide,by decide,by decide⟩
   ·exact gY.app (by simp[(a t M).1,(a u U).1]) ⟨by decide,by decide,by decide⟩
   ·exact gY.app (by simp[(f w M).1,(a u U).1]) ⟨by decide,by decide,by decide⟩
   ·exact⟨by decide,by decide,by decide⟩
   ·exact gY.app (by simp[(f w M).1,(a u U).1]) ⟨by decide,by decide,by decide⟩
   ·exact gY.app (by simp[(a t M).1]) ⟨by decide,by decide,by decide⟩
theorem adS:∀(r:H),r=(hK r).1/\(hK r).2=[]\/r=(hK r).1++10::(hK r).2
 |[]=> .inl ⟨rfl,rfl⟩
 |b::t=>by
  unfold hK;by_cases h:b=10
  ·grind
  simp_all[adS]
end Go.Eng
namespace Go.Eng
open Go Go.Proofs
variable{fr:Bool}{m n:Nat}{r:H}
theorem asd{s:H}(Y:(de s).length<=99999999)(aB:∀q,iA false 30 (de s)≠ .deep q):Nf s=some (match iA false 30 (de s) with| .ok a _ _=>(a:Int)|_=> -1):=by
 have h:=Uu s Y;unfold Nf;cases ah:iA false 30 (de s) with
 |ok a r F=>simp_all[aS]
 |more op nd ds=>simp_all[aS]
 |bad r=>rw[ah] at h;obtain⟨_,op,h⟩:=h;simp_all[aS]
 |deep q=>grind
theorem ase(af:n<=30)(h:∀q,iA true n r≠ .deep q)(hm:n<=m):Bg (iA true n r) (iA fr m r)/\∀q,iA fr m r≠ .deep q:=by grind[Bg,amm]
def oX(x:dn Nat):Int:=match x with| .ok a _ _=>(a:Int)|_=> -1
theorem asf(s:H):∃t,de s=t++[10]:=by
 unfold de;split
 ·grind[List.getLast?_eq_some_iff]
 simp
theorem asg(t:H):de (t++[10])=t++[10]:=ba (by simp)
theorem ash(s:H):(de s).length<=s.length+1:=by grind[de]
def vE(x:dn Nat):Int:=match x with| .ok _ _ _=>0| .more _ _ _=>1|_=>2
theorem Bg.vE{x y:dn Nat}(h:Bg x y)(a:∀q,x≠ .deep q):vE y=vE x:=by
 rcases h with⟨q,h⟩|rfl|⟨_,_,_,_,rfl,rfl⟩
 ·grind
 ·rfl
 ·rfl
theorem asi{s:H}(Y:(de s).length<=1000000):∃a:Int,Nh s=some (vE (iA true 30 (de s)),a):=by
 have h:=acW Y;unfold Nh;cases ah:iA true 30 (de s) with
 |ok a r F=>rw[ah] at h;obtain⟨st,M,U,_⟩:=h;exact⟨st.2.2.2.2.2.1,by rw[M,aS rfl];dsimp only;rw[U];rfl⟩
 |more op nd ds=>rw[ah] at h;obtain⟨st,c,M,U,_⟩:=h;exact⟨st.2.2.2.2.2.1,by rw[M,aS rfl];dsimp only;rw[U];rfl⟩
 |bad r=>rw[ah] at h;obtain⟨st,c,M,U⟩:=h;exact⟨st.2.2.2.2.2.1,by rw[M,aS rfl];dsimp only;rw[U];rfl⟩
 |deep q=>rw[ah] at h;obtain⟨st,c,M,U⟩:=h;exact⟨st.2.2.2.2.2.1,by rw[M,aS rfl];dsimp only;rw[U];rfl⟩
end Go.Eng
namespace Go.Eng
variable{C:H->Prop}{D:ab Unit}{F:ag}{X:fK}{b:UInt8}{c:Ctx}{α σ:Type}{d m n:Nat}{f:σ->ab (σ⊕α)}{j no:Bool}{r r0 t u v' x:H}
def m9(j:Bool):H:=bif j then [92,10] else []
theorem adT(h:r<:+m9 j):r=[]\/r=[10]\/r=[92,10]:=by
 cases j with
 |false=>left;exact List.suffix_nil.1 h
 |true=>simp_all[m9,List.suffix_cons_iff,or_comm,or_assoc]
theorem Ks(h:b::u<:+m9 j):b≠36/\b≠40/\(bg (b::u)=some (b::u)->fJ (ar (b::u))=false):=by
 rcases adT h with h|h|h
 ·cases h
 ·cases h;exact⟨by decide,by decide,λ_=>by decide⟩
 grind[m0,fV]
def kF(j:Bool):fK where
 E:={T:=m9 j,bF:=λ_=>0,c:=1,Q:=λ_ _=>True}
 ok:=by
  refine⟨cS _,λ_ _ _ _=>cS _,λ_ _ _ _ _ _=>trivial,λ_ _=>trivial,λ_ _ _ _ _ _ _ _ _ _ _=>trivial,λu h=>absurd rfl (Ks h).1,λu h=>absurd rfl (Ks h).1,λr h M U=>?_,λu h=>absurd rfl (Ks h).2.1⟩;cases r with
  |nil=>grind[ar,fJ]
  |cons b u=>grind[Ks]
 c0:=1
theorem kF.h{j:Bool}{r:H}{F:ag}:(kF j).E.hs (kF j).c0 r F↔r<:+m9 j:=⟨λh=>h.sfx,λh=>⟨h,cS _,trivial⟩⟩
theorem c5.m9(h:r<:+m9 j):c5 (kF j) F r:=by
 intro t r' a b;have:t=[]:=by grind[adT]
 cases F with
 |nil=>simp
 |cons d ds=>grind[kg,kf]
def uJ(j:Bool)(r0:H)(x:dn Unit):Prop:=match x with
 | .ok _ r F=>r<:+r0/\c5 (kF j) F r
 | .deep _=>False
 |_=>True
theorem bM.w9{v:H}{x:dn Unit}(h:bM (kF j) (λr=>r=v) F x)(c:m9 j<:+r0)(b:v<:+r0)(af:c5 (kF j) F r0):uJ j r0 x:=by
 cases x with
 |ok a r' d=>
  rcases h with⟨rfl,rfl⟩|h
  ·exact⟨b,af.sfx b⟩
  ·exact⟨(kF.h.1 h).trans c,c5.m9 (kF.h.1 h)⟩
 |more _ _ _=>trivial
 |bad _=>trivial
 |deep _=>exact h
theorem uJ.named{j:Bool}{r0 n:H}{m:ab Unit}{r:H}{F:ag}(h:uJ j r0 (m r F)):uJ j r0 (m.named n r F):=by unfold ab.named;cases hm:m r F<;>rw[hm] at h<;>first|exact h|trivial
structure hr(j:Bool)(r:H):Prop where
 um:∀u,r=36::40::u->u.head?≠some 40->∀n F,7<=n->c5 (kF j) F r->uJ j r ((aW true n).dl r F)
 pK:∀u,r=36::123::u->∀n F,7<=n->c5 (kF j) F r->uJ j r ((aW true n).dl r F)
 comp:bg r=some r->fJ (ar r)=true->∀n F,7<=n->c5 (kF j) F r->uJ j r ((aW true n).cp (ar r) r F)
 func:∀u,r=40::u->∀n F,7<=n+1->c5 (kF j) F r->uJ j r (kU true (some (aW true n)) r F)
inductive dE(j:Bool):Nat->H->Prop
 |nil:dE j 0 []
 |mark {k:Nat} {T:H} (b:UInt8):dE j k T->dE j (k+1) (b::T)
 |free {k:Nat} {T:H} {b:UInt8}:dE j k T->(m9 j<:+b::T->hr j (b::T))->dE j k (b::T)
theorem dE.sfx{k:Nat}{T:H}(h:dE j k T):∀{r:H},r<:+T->∃i,i<=k/\dE j i r:=by
 induction h with
 |nil=>intro r Z;rw[List.suffix_nil.1 Z];exact⟨0,cS _,.nil⟩
 |mark b h a=>
  intro r Z;rcases List.suffix_cons_iff.1 Z with rfl|Z
  ·exact⟨_,cS _,.mark b h⟩
  grind
 |free h aq a=>
  intro r Z;rcases List.suffix_cons_iff.1 Z with rfl|Z
  ·exact⟨_,cS _,.free h aq⟩
  grind
theorem dE.num{k:Nat}{T:H}(h:dE j k T):∃bF:H->Nat,bF T=k/\(∀r r',r'<:+r->r<:+T->bF r'<=bF r)/\∀b u,b::u<:+T->bF u+1=bF (b::u)\/(m9 j<:+b::u->hr j (b::u)):=by
 have a:∀{b:UInt8}{T:H}{bF:H->Nat}{k m:Nat},bF T=k->(∀r r',r'<:+r->r<:+T->bF r'<=bF r)->(∀c u,c::u<:+T->bF u+1=bF (c::u)\/(Eng.m9 j<:+c::u->hr j (c::u)))->k<=m->(k+1=m\/(Eng.m9 j<:+b::T->hr j (b::T)))->
   ∃bF:H->Nat,bF (b::T)=m/\(∀r r',r'<:+r->r<:+b::T->bF r'<=bF r)/\∀c u,c::u<:+b::T->bF u+1=bF (c::u)\/(Eng.m9 j<:+c::u->hr j (c::u)):=by
  intro b T bF k m M U d hm f
  have aw:∀{r:H},r<:+T->r≠b::T:=λZ he=>by have:=Z.length_le;grind
  refine⟨λr=>if r=b::T then m else bF r,ba rfl,λr r' Z bn=>?_,λc u hu=>?_⟩
  ·rcases List.suffix_cons_iff.1 bn with rfl|bn
   ·rcases List.suffix_cons_iff.1 Z with rfl|Z
    ·omega
    grind
   grind
  ·rcases List.suffix_cons_iff.1 hu with hu|hu
   ·grind
   grind
 induction h with
 |nil=>exact⟨λ_=>0,rfl,λ_ _ _ _=>cS _,λb u h=>by grind⟩
 |mark b h e=>obtain⟨bF,M,U,d⟩:=e;exact a M U d (Nat.le_succ _) (.inl rfl)
 |free h aq e=>obtain⟨bF,M,U,d⟩:=e;exact a M U d (cS _) (.inr aq)
def D9(j:Bool)(T:H):Prop:=∀r F o tabs r' a,r<:+T->c5 (kF j) F r->bt r=o->(o=[60,60]/\tabs=false\/o=[60,60,45]/\tabs=true)->gm tabs (r.drop o.length) F= .ok () r' a->c5 (kF j) a r'
theorem dE.nd{j:Bool}{k:Nat}{T:H}(h:dE j k T)(q:m9 j<:+T)(aB:D9 j T){n:Nat}(af:k+7<=n):∃E:lh,E.mT/\E.T=T/\E.bF T+E.c<=n/\∀F,E.Q T F↔c5 (kF j) F T:=by
 obtain⟨bF,M,U,f⟩:=h.num
 have nd:∀{E:lh}{r:H}{x:dn Unit},(∀r F,E.Q r F=c5 _ F r)->uJ j r x->ik E r x:=λ{E r x} d g=>by
  cases x with
  |ok a r' s=>exact⟨g.1,by rw[d];exact g.2⟩
  |more _ _ _=>trivial
  |bad _=>trivial
  |deep _=>exact g
 have e:∀{b:UInt8}{u:H},b::u<:+T->(b=36\/b=40\/bg (b::u)=some (b::u)/\fJ (ar (b::u))=true)->m9 j<:+b::u:=by grind[List.suffix_or_suffix_of_suffix,Ks]
 refine⟨{T:=T,bF:=bF,c:=7,Q:=λr F=>c5 _ F r},⟨by simp,U,λr r' F Z _ d=>d.sfx Z,λr _=>c5.nil,aB,λu hu l=>?_,λu hu=>?_,λr Z Y aq=>?_,λu hu=>?_⟩,rfl,by grind,λ_=>Iff.rfl⟩
 ·rcases f 36 _ hu with h|h
  ·grind
  ·right;exactλn F af d=>nd (λ_ _=>rfl) ((h (e hu (.inl rfl))).um u rfl l n F af d)
 ·rcases f 36 _ hu with h|h
  ·grind
  ·right;exactλn F af d=>nd (λ_ _=>rfl) ((h (e hu (.inl rfl))).pK u rfl n F af d)
 ·cases r with
  |nil=>grind[ar,fJ]
  |cons b u=>
   rcases f b u Z with h|h
   ·have az:∃i,((b::u).drop (mM (ar (b::u))).length)=u.drop i:=by
     cases m:ar _ with
     |op o=>exact⟨0,rfl⟩
     |word w p=>
      rw[m] at aq;cases w with
      |nil=>cases p with
       |true=>exact absurd aq (by decide)
       |false=>exact absurd aq (by decide)
      |cons c w=>exact⟨w.length,rfl⟩
     |line=>grind[fJ]
     |eof=>grind[fJ]
    grind[List.drop_suffix]
   ·right;exactλn F af d=>nd (λ_ _=>rfl) ((h (e Z (.inr (.inr ⟨Y,aq⟩)))).comp Y aq n F af d)
 ·rcases f 40 _ hu with h|h
  ·grind
  ·right;exactλn F af d=>nd (λ_ _=>rfl) ((h (e hu (.inr (.inl rfl)))).func u rfl n F af d)
def w_:H->Bool
 |40::_=>true
 |123::_=>true
 |36::40::_=>true
 |36::123::_=>true
 |105::102::_=>true
 |119::104::_=>true
 |117::110::_=>true
 |102::111::_=>true
 |99::97::115::_=>true
 |_=>false
theorem G7(h:fJ (ar r)=true):(∃u,r=40::u)\/∃w,oJ w=true/\ar r= .word w true/\w<+:r:=by
 cases a:ar r with
 |eof=>rw[a] at h;exact absurd h (by decide)
 |line=>rw[a] at h;exact absurd h (by decide)
 |op o=>
  have:o=[40]:=by grind[fJ]
  obtain⟨u,hu⟩:=(ib a).2.1;grind
 |word w p=>
  cases p with
  |false=>grind[fJ]
  |true=>refine .inr ⟨w,by grind[fJ],rfl,VT (by grind[cm])⟩
theorem D_{w:H}(h:oJ w=true):w=j7\/w=ug\/w=FT\/w=mB\/w=oI\/w=[123]:=by grind[oJ]
theorem hr.plain(h:w_ r=false):hr j r:=by
 refine⟨λu hu=>?_,λu hu=>?_,λY aq=>?_,λu hu=>?_⟩
 ·subst hu;cases h
 ·subst hu;cases h
 ·rcases G7 aq with⟨u,rfl⟩|⟨w,a,_,u,rfl⟩
  ·cases h
  ·rcases D_ a with rfl|rfl|rfl|rfl|rfl|rfl<;>cases h
 ·subst hu;cases h
def xa:H->Bool
 |[]=>true
 |b::t=> !w_ (b::t)&& !(t==[]&&([36,105,119,117,102,99]:H).contains b)&& !(b::t==[99,97])&&xa t
theorem V5{v:H}(M:w_ (b::t)=false)(U:(t==[]&&([36,105,119,117,102,99]:H).contains b)=false)(a:(b::t==[99,97])=false):w_ (b::t++v)=false:=by
 match t,M,U,a with
 |[],M,U,a=>unfold w_ at M⊢;grind
 |[c],M,U,a=>unfold w_ at M⊢;grind
 |c::d::t,M,U,a=>unfold w_ at M⊢;grind
theorem dE.const{j:Bool}{k:Nat}{v:H}(h:dE j k v):∀{p:H},xa p=true->dE j k (p++v)
 |[],_=>h
 |b::t,ah=>by simp only[xa,h4,BS] at ah;exact .free (h.const ah.2) λ_=>hr.plain (V5 ah.1.1.1 ah.1.1.2 ah.1.2)
theorem dE.last{k:Nat}{v:H}(h:dE j k v)(f:cV v=true)(a:b=105\/b=102\/b=99):dE j k (b::v):=by
 refine .free h λ_=>hr.plain ?_;cases v with
 |nil=>rcases a with rfl|rfl|rfl<;>rfl
 |cons c t=>
  have aq:∀x∈([102,111,97]),c≠x:=by intro x d e;subst e;have:cV (c::t)=false:=Jw ((by decide:∀x∈([102,111,97]),qt x=true) c d);grind
  unfold w_;grind
theorem asj{w:H}(c:∃v,ar r= .word w true/\∀F,c5 (kF j) F r->∀m,6<=m->v<:+r/\bM (kF j) (λq=>q=v) F (hd (aW true m) (.word w true) r F))(d:∀u,r≠40::u)(a:∀u,r≠36::u)(e:m9 j<:+r):hr j r:=by
 obtain⟨v,f,az⟩:=c;refine⟨λu hu=>absurd hu (a _),λu hu=>absurd hu (a _),λY aq n F af b=>?_,λu hu=>absurd hu (d _)⟩
 obtain⟨m,rfl⟩:∃m,n=m+1:=⟨n-1,by omega⟩
 obtain⟨g,h⟩:=az F b m (by omega);rw[f];exact(h.w9 e g b).named
section
variable(aB:d<=2)
include aB
theorem Kt(hm:5<=m):rp (kF j) d m/\ad (kF j).E m (l5 true m)/\(kF j).c0<=m:=by
 obtain⟨k,rfl⟩:∃k,m=k+1:=⟨m-1,by omega⟩
 exact⟨V4 (cS _) d (by omega) _ (by show 1+2*d<=_;omega),O2 (kF j).ok k,by show 1<=_;omega⟩
theorem hr.sub{v:H}(b:gX d t)(c:m9 j<:+36::40::(t++41::v)):hr j (36::40::(t++41::v)):=by
 have he:[36,40]++t++[41]++v=36::40::(t++41::v):=by simp
 refine⟨λu hu l n F af e=>?_,λu hu=>(by cases hu),λY aq=>?_,λu hu=>(by cases hu)⟩
 ·obtain⟨m,rfl⟩:∃m,n=m+1:=⟨n-1,by omega⟩
  obtain⟨f,o,g⟩:=Kt aB (m:=m) (by omega);have:=VO g aB f.VU (m4 (kF j).ok m) b (v:=v) (F:=F) (by grind);rw[he] at this;have i:bM (kF j) (λq=>q=v) F (dj (some (aW true m)) (36::40::(t++41::v)) F):=by
   rcases this with h|h
   ·grind[bM.ok]
   ·exact jR.D2 (.inr h) (bM.ok (a:=()))
  exact i.w9 c (by grind) e
 ·rcases G7 aq with⟨u,hu⟩|⟨w,k,_,u,hu⟩
  ·cases hu
  ·rcases D_ k with rfl|rfl|rfl|rfl|rfl|rfl<;>cases hu
theorem V6(Y:bg u=some u)(M:ar u≠ .op [41])(af:7<=n+1):uJ j (40::u) (kU true (some (aW true n)) (40::u) F):=by
 obtain⟨m,rfl⟩:∃m,n=m+1:=⟨n-1,by omega⟩
 unfold kU;refine uJ.named ?_;rw[aJ (show bV 1 _ F= .ok () u F from rfl),aJ (bL Y)];by_cases h:ar u= .eof
 ·rw[ba h];trivial
 ·rw[aM h,aM M];trivial
theorem hr.par{v:H}(e:r8 (yo d) t)(f:m9 j<:+40::(t++41::v)):hr j (40::(t++41::v)):=by
 have q:ar (40::(t++41::v))= .op _:=Bh _;refine⟨λu hu=>(by cases hu),λu hu=>(by cases hu),λY aq n F af b=>?_,λu hu n F af b=>?_⟩
 ·obtain⟨m,rfl⟩:∃m,n=m+1:=⟨n-1,by omega⟩
  obtain⟨g,s,i⟩:=Kt aB (m:=m) (by omega);have:bM (kF j) (λr=>r=v) F (hd (aW true m) (.op [40]) (40::(t++41::v)) F):=by refine bM.N i (g.ls (.inl rfl) e (jH.op (oY v) (oj v) rfl) (b.sfx ⟨[40],rfl⟩)).aG (λa r' _ Z=>?_) (λ_=>ad.jr (kF j).ok _);grind[Bm,oY,oj,bM.ok]
  exact(this.w9 f ⟨40::(t++[41]),by simp⟩ b).named
 ·obtain⟨c,l,M,U,w⟩:=e;obtain⟨⟨k,x,y,z,A⟩,o⟩:=M.aB.facts _;have p:t++41::v=c++(cY l++41::v):=by grind
  rw[p];refine V6 aB k (λh=>?_) af;have:=o .paren;rw[h] at this;cases this
theorem hr.asl{w v:H}(b:gh d w)(c:m9 j<:+36::123::([120,58,45]++(w++125::v))):hr j (36::123::([120,58,45]++(w++125::v))):=by
 have he:[36,123,120,58,45]++w++[125]++v=36::123::([120,58,45]++(w++125::v)):=by simp
 refine⟨λu hu=>(by cases hu),λu hu n F af e=>?_,λY aq=>?_,λu hu=>(by cases hu)⟩
 ·obtain⟨m,rfl⟩:∃m,n=m+1:=⟨n-1,by omega⟩
  obtain⟨f,k,g⟩:=Kt aB (m:=m) (by omega);have:=adf g (m4 (kF j).ok m) (f.wd w b) (v:=v) (F:=F) (by grind);rw[he] at this;have i:bM (kF j) (λq=>q=v) F (dj (some (aW true m)) (36::123::([120,58,45]++(w++125::v))) F):=by
   rcases this with h|h
   ·grind[bM.ok]
   ·exact jR.D2 (.inr h) (bM.ok (a:=()))
  exact i.w9 c (by grind) e
 ·rcases G7 aq with⟨u,hu⟩|⟨w,b,_,u,hu⟩
  ·cases hu
  ·rcases D_ b with rfl|rfl|rfl|rfl|rfl|rfl<;>cases hu
end
theorem hr.asm:hr j (123::120::u):=by
 refine⟨λu hu=>(by cases hu),λu hu=>(by cases hu),λY aq=>?_,λu hu=>(by cases hu)⟩;rcases G7 aq with⟨u,hu⟩|⟨w,a,b,v,hu⟩
 ·cases hu
 ·rcases D_ a with rfl|rfl|rfl|rfl|rfl|rfl<;>try cases hu
  have U:=NT _ _ (U9 b);cases U
def jS{α:Type}(x:dn α):Prop:=∃q,x= .bad q
theorem jS.N{β:Type}{m:ab α}{k:α->ab β}(h:jS (m r F)):jS (Eng.N m k r F):=by obtain⟨q,h⟩:=h;exact⟨q,hS h⟩
theorem jS.aG{α:Type}{m:ab α}{x r:H}{F:ag}(h:jS (m r F)):jS (m.aG x r F):=by obtain⟨q,h⟩:=h;exact⟨q,by grind[ab.aG]⟩
theorem jS.named{α:Type}{m:ab α}{x r:H}{F:ag}(h:jS (m r F)):jS (m.named x r F):=by obtain⟨q,h⟩:=h;exact⟨q,by grind[ab.named]⟩
theorem jS.rep{s:σ}(h:jS (f s r F)):jS (cD f s r F):=by obtain⟨q,h⟩:=h;exact⟨q,by rw[cL,h];rfl⟩
theorem jS.w9{x:dn Unit}(h:jS x):uJ j r x:=by obtain⟨q,rfl⟩:=h;trivial
theorem jS.ls(Y:bg x=some x)(a:ar x≠ .eof)(aw:ar x≠ .line)(b:cm (ar x) [33]=false)(he:dC c (ar x)=false)
  (aq:jS (fA true (some (aW true n)) (dj (some (aW true n))) x F)):jS ((aW true (n+1)).ls c no x F):=by
 rw[Dr,td,aJ (hn.2 (oe Y aw))];refine jS.rep ?_;rw[Nr Y a he];refine jS.N (jS.N ?_);unfold fv;rw[aJ (bL Y),b];exact aq.N
theorem adU(t:H):cV (41::t)=true:=(ez.op (oY t) (oj t) (by decide) (by decide)).iX
theorem adV{d:UInt8}{w:H}(b:(d::w).all qt=true)(g:d≠35)(c:cV x=true)(Z:fm (bt ((d::w++x).dropWhile cd))=false)(M:q3 (d::w)=false)(U:oJ (d::w)=false)(h:l3 (d::w)=false)(a:x≠[]):
  fA true (some (aW true n)) D (d::w++x) F=gS true D x F:=by
 obtain⟨f,e⟩:=mE (by simp) b (by grind) c;unfold fA;rw[aJ (bL e),f,aM (by simp),aM (by grind[fJ])];simp only;rw[aM (by grind),aJ (ti e Z),if_neg (by simp),aJ (D5 b c a),if_neg (by grind)]
theorem aso:jS (fA true (some (aW true n)) (dj (some (aW true n))) (49::43::40::u) F):=by
 rw[show(49::43::40::u)=[49,43]++(40::u) from rfl,adV (by decide) (by decide) (Jx _) (by
  rfl) (by decide) (by decide) (by decide) (by simp)]
 refine jS.rep ?_;rw[aJ (ti (Ju u) (by rfl)),aM (by simp),aJ (F2 _ _)];exact⟨_,rfl⟩
theorem adW:jS (hd (aW true (n+1)) (.op [40]) (40::49::43::40::u) F):=by obtain⟨b,a⟩:=mE (w:=[49,43]) (by simp) (by decide) (by decide) (Jx _);exact jS.N (jS.aG (jS.ls a (by grind) (by grind) (by rfl) (by rfl) aso))
theorem adX(Y:bg u=some u)(a:ar u≠ .op [41])(az:∀n F,jS (hd (aW true (n+2)) (.op [40]) (40::u) F)):hr j (40::u):=by
 refine⟨λv hu=>(by cases hu),λv hu=>(by cases hu),λ_ aq n F af b=>?_,λv hu n F af b=>V6 (d:=0) (by omega) Y a af⟩
 obtain⟨m,rfl⟩:∃m,n=m+3:=⟨n-3,by omega⟩
 exact((az m F).named).w9
theorem hr.fS:hr j (40::49::43::40::u):=by obtain⟨a,b⟩:=mE (w:=[49,43]) (r:=40::u) (by simp) (by decide) (by decide) (Jx _);grind[adX,adW]
theorem hr.cH:hr j (40::40::49::43::40::u):=by refine adX (Ju _) (by simp[Bh]) λn F=>?_;refine jS.N (jS.aG (jS.ls (x:=40::49::43::40::u) (Ju _) (by simp[Bh]) (by simp[Bh]) (by rfl) (by rfl) ?_));unfold fA;rw[aJ (F2 _ _),aM (by simp)];exact jS.N (jS.named (adW))
theorem hr.jg:hr j (40::50::41::u):=by
 obtain⟨g,e⟩:=mE (w:=[50]) (by simp) (by decide) (by decide) (adU _);have a:bg (50::41::u)=some (50::41::u):=e;have b:=ez.op (oY u) (oj u) (by decide) (by decide);refine⟨λv hu=>(by cases hu),λv hu=>(by cases hu),λ_ aq n F af c=>?_,λv hu n F af c=>V6 (d:=0) (by omega) a (by grind) af⟩
 obtain⟨m,rfl⟩:∃m,n=m+2:=⟨n-2,by omega⟩
 rw[Bh];refine uJ.named ?_;have aq:fA true (some (aW true m)) (dj (some (aW true m))) (50::41::u) F= .ok () (41::u) F:=by
  rw[show(50::41::u)=[50]++(41::u) from rfl,adV (by decide) (by decide) (adU _) (by
   rfl) (by decide) (by decide) (by decide) (by simp)]
  exact b.simple _ F
 have f:=(Z4 a (by rfl) aq (oY u) (by simp[oj]) (by simp[oj]) (by simp[oj])).2;have aw:(aW true (m+1)).ls .paren false (50::41::u) F= .ok 1 (41::u) F:=by rw[Dr,td,aJ (hn.2 (oe a (by grind))),cL,Nr a (by grind) (by rfl),aJ (show l5 true (m+1) _ F= .ok () _ F from f),aJ (bL (oY u))];rfl
 rw[adA,aJ (hn.2 (show(aW true _).ls .paren false ((40::50::41::u).drop 1) F=_ from aw)),Bm (oY u) (oj u)];exact⟨⟨[40,50,41],rfl⟩,c.sfx ⟨[40,50,41],rfl⟩⟩
theorem dE.Ku{k:Nat}{v:H}(h:dE j k v):∀w∈nz,dE j k (w++v):=by
 have az:∀w∈nz,w=[36,40,40,49,43,40,50,41,41,41]\/xa w=true:=by decide
 intro w a;rcases az w a with rfl|aq
 ·have b:dE j k (40::([50,41,41,41]++v)):= .free (h.const (by decide)) λ_=>hr.jg;have U:dE j k (40::([49,43]++(40::([50,41,41,41]++v)))):= .free (b.const (by decide)) λ_=>hr.fS;have M:dE j k _:= .free U λ_=>hr.cH;refine .free M λc=>⟨λu hu d=>?_,λu hu=>(by cases hu),λY aq=>?_,λu hu=>(by cases hu)⟩
  ·cases hu;simp_all
  ·rcases G7 aq with⟨u,hu⟩|⟨w,a,_,u,hu⟩
   ·cases hu
   ·rcases D_ a with rfl|rfl|rfl|rfl|rfl|rfl<;>cases hu
 ·exact h.const aq
section
variable(hm:X.c0<=m)(eW:ad X.E m (l5 true m))(kw:rp X d m)
include hm eW kw
theorem asq{v:H}(hu:gX d u)(af:c5 X F (j7++([32]++([98]++(10::(hQ++([32]++([99]++(10::(gy++([32]++(u++(59::(ea++([32,50,62,102]++v))))))))))))))):
  bM X (λr=>r=[32,50,62,102]++v) F (hd (aW true m) (.word j7 true) (j7++([32]++([98]++(10::(hQ++([32]++([99]++(10::(gy++([32]++(u++(59::(ea++([32,50,62,102]++v)))))))))))))) F):=by
 have bm:=m4 X.ok m;rw[z7,aM (by decide),ba rfl,VV,cL];have c:=af.sfx (gq j7 _);have e:c5 X F (10::(hQ++([32]++([99]++(10::(gy++([32]++(u++(59::(ea++([32,50,62,102]++v))))))))))):=c.sfx ⟨[32,98],by simp⟩;have f:c5 X F ([32]++([99]++(10::(gy++([32]++(u++(59::(ea++([32,50,62,102]++v))))))))):=e.sfx ⟨10::hQ,by simp⟩;have g:c5 X F (10::(gy++([32]++(u++(59::(ea++([32,50,62,102]++v))))))):=f.sfx ⟨[32,99],by simp⟩;have i:c5 X F ([32]++(u++(59::(ea++([32,50,62,102]++v))))):=g.sfx ⟨10::gy,by simp⟩;have b:ad X.E m (N (cI ea) λ_=>(aU (.inr ()):ab (Unit⊕Unit))):=ad.N X.ok (ad.cI X.ok _) λ_=>ad.ret _;have h:ad X.E m (N (bN []) λt=>if cm t h_ then N (cI h_) λ_=>(aU (.inl ()):ab (Unit⊕Unit)) else
  if cm t gy then N (cI gy) λ_=>N (((aW true m).ls .ko false).aG (10::ea)) _ else N _ _):=ad.gf X.ok λt=>ad.ite (ad.N X.ok (ad.cI X.ok _) λ_=>ad.ret _) (ad.ite (ad.N X.ok (ad.cI X.ok _) λ_=>ad.N X.ok ((bm.ls _ _).aG _) λ_=>b) b)
 refine bM.mm hm (yq X.ok bm) (kw.ls (.inr (.inl rfl)) (D4 (.inr (.inl rfl))) (jH.yp hm eW (by decide) (by decide) (by decide) rfl rfl e) c).aG (λa r' _ Z=>?_) (λ_=>ad.N X.ok (ad.cI X.ok _) λ_=>ad.N X.ok ((bm.ls _ _).aG _) λ_=>h);subst Z;rw[aJ (q9 (by decide) (by decide) (by decide) rfl)];refine bM.mm hm (yq X.ok bm) (kw.ls (.inr (.inl rfl)) (D4 (.inr (.inr rfl))) (jH.yp hm eW (by decide) (by decide) (by decide) rfl rfl g) f).aG (λa r' _ Z=>?_) (λ_=>h);subst Z;obtain⟨j,k⟩:=mE (w:=gy) (r:=[32]++(u++(59::(ea++([32,50,62,102]++v))))) (by decide) (by decide) (by decide) rfl;rw[aJ (bL k),j,aM (by decide),ba (by decide),aJ (q9 (by decide) (by decide) (by decide) rfl)];refine bM.mm hm (yq X.ok bm) (kw.ls (.inr (.inl rfl)) hu.cc (jH.VW hm eW (by decide) (by decide) (by decide) rfl rfl (by decide)) i).aG (λa r' _ Z=>?_) (λ_=>b);subst Z;rw[aJ (q9 (by decide) (by decide) (by decide) rfl)];exact bM.ok
theorem asr{v:H}(c:ez v v')(e:gX d t)(af:c5 X F (40::41::32::123::([10]++(t++(10::([125]++([32,62,102]++v))))))):
  bM X (λr=>r=v') F (kU true (some (aW true (m+1))) (40::41::32::123::([10]++(t++(10::([125]++([32,62,102]++v)))))) F):=by
 have bm:=m4 X.ok (m+1);have az:=V3 hm eW kw rfl e (af.sfx ⟨[40,41,32],rfl⟩);have b:cV ([10]++(t++(10::([125]++([32,62,102]++v)))))=true:=rfl;generalize [10]++(t++(10::([125]++([32,62,102]++v))))=z at af az b⊢;have i:(aW true (m+1)).has=true:=rfl;have f:bg (32::123::z)=some (123::z):=by rw[j9];exact jD (by decide) (by decide) (by decide)
 obtain⟨g,h⟩:=mE (w:=[123]) (by decide) (by decide) (by decide) b;unfold kU;simp only;refine bM.named ?_
 rw[aJ (show bV 1 _ F= .ok () (41::32::123::z) F from rfl),aJ (bL (oY _)),oj,aM (by simp),ba rfl,
  aJ (show bV 1 _ F= .ok () (32::123::z) F from rfl),aJ (hn.2 (oe f (by grind))),
  aJ (bL (show bg (123::z)=some (123::z) from h)),show ar (123::z)= .word _ true from g,aM (by simp)]
 refine bM.N (by omega) (az.named) (λa r' _ Z=>?_) (λ_=>ad.ite bm.rd (ad.ret _));subst Z;rw[ba trivial];rw[show(aW true _).rd=gH _ from rfl,V2 (.inr (.inr rfl)) c];exact bM.ok
end
theorem ez.sfx{v:H}(h:ez v v'):v'<:+v:=eV h.qF
section
variable(aB:d<=2)
include aB
theorem hr.kw{w v:H}(b:oJ w=true)(c:ar r= .word w true)(e:v<:+r)(f:m9 j<:+r)
  (az:∀m F,rp (kF j) d m->ad (kF j).E m (l5 true m)->(kF j).c0<=m->c5 (kF j) F r->bM (kF j) (λq=>q=v) F (hd (aW true m) (.word w true) r F)):hr j r:=by
 have ah:∃u,r=w++u:=by obtain⟨u,hu⟩:=VT (r:=r) (w:=w) (by grind[cm]);grind
 obtain⟨u,rfl⟩:=ah
 have a:∀x,(w++u).head?=some x->x≠40/\x≠36:=by intro x g;rcases D_ b with rfl|rfl|rfl|rfl|rfl|rfl<;>(cases g;decide)
 refine asj ⟨v,c,λF h m hm=>⟨e,?_⟩⟩ (λu hu=>(a 40 (by grind)).1 rfl) (λu hu=>(a 36 (by grind)).2 rfl) f;grind[Kt]
theorem hr.fn{v:H}(b:ez v v')(e:gX d t)(f:m9 j<:+40::41::32::123::([10]++(t++(10::([125]++([32,62,102]++v)))))):hr j (40::41::32::123::([10]++(t++(10::([125]++([32,62,102]++v)))))):=by
 refine⟨λu hu=>(by cases hu),λu hu=>(by cases hu),λ_ aq n F af a=>?_,λu hu n F af a=>?_⟩
 ·obtain⟨m,rfl⟩:∃m,n=m+2:=⟨n-2,by omega⟩
  rw[Bh];refine(jS.named ?_).w9;refine jS.N (jS.aG ?_);show jS ((aW true _).ls .paren false (41::_) F);rw[Dr,td,aJ (hn.2 (oe (oY _) (by simp[oj])))];refine jS.rep ?_;unfold fw;rw[aJ (bL (oY _)),oj,aM (by simp)];exact jS.N ⟨_,amd (c:= .paren) (oY _) (by rfl) (by simp[oj])⟩
 ·obtain⟨m,rfl⟩:∃m,n=m+1:=⟨n-1,by omega⟩
  obtain⟨g,h,i⟩:=Kt aB (m:=m) (by omega);refine(asr i h g b e a).w9 f (b.sfx.trans ?_) a;exact⟨40::41::32::123::([10]++(t++(10::([125]++[32,62,102])))),by simp⟩
end
theorem ez.F_(u:H):ez (41::u) (41::u):=ez.op (oY u) (oj u) (by decide) (by decide)
theorem ez.G8(u:H):ez (59::u) (59::u):=by
 cases u with
 |nil=>exact ez.op (z8 []) (by decide) (o:=[59]) (by decide) (by decide)
 |cons b t=>
  by_cases h:b=59
  ·subst h;exact ez.op (z8 _) G6 (by decide) (by decide)
  ·exact ez.op (z8 _) (O1 h) (by decide) (by decide)
section
structure uK(j:Bool)(d:Nat):Prop where
 wd:∀{w v:H}{k:Nat},gh d w->dE j k v->dE j k (w++v)
 ls:∀{t v v':H}{k:Nat},gX d t->ez v v'->dE j k v->dE j k (t++v)
theorem uK.list(b:∀{c v v':H}{k:Nat},C c->ez v v'->dE j k v->dE j k (c++v)){v:H}{k:Nat}(d:r8 C t)(m:ez v v')(h:dE j k v):dE j k (t++v):=by
 obtain⟨c,l,M,U,rfl⟩:=d;induction l generalizing c with
 |nil=>grind[cY]
 |cons p l e=>obtain⟨a,f⟩:=U p (by simp);have g:=e p.2 f λq n=>U q (by grind);obtain⟨o,i⟩:=VQ a;have r:=b M i (g.const ((by decide:∀j∈jt,xa j=true) p.1 a));grind[cY]
theorem uK.simple{W:H->Prop}(hW:∀{w v:H}{k:Nat},W w->dE j k v->dE j k (w++v)){c v:H}{k:Nat}(aq:qD W (gh 0) c)(h:dE j k v):dE j k (c++v):=by
 obtain⟨x,ws,r,M,U,rfl,b⟩:=aq;have d:dE j k (r++v):=by
  rcases b with rfl|rfl|⟨w,a,rfl⟩
  ·exact h
  ·exact h.const (by decide)
  ·have:=(h.Ku w a).const (p:=[32,62]) (by decide);grind
 have e:dE j k (ji ws++(r++v)):=by
  induction ws with
  |nil=>exact d
  |cons w ws f=>have:=(hW (U w (by simp)) (f λw a=>U w (by grind))).const (p:=[32]) (by decide);grind[ji]
 have:=e.const ((by decide:∀x∈rl,xa x=true) x M);grind
theorem uK.word(aB:d<=2)(i:uK j d){w v:H}{k:Nat}(c:gh (d+1) w)(h:dE j k v):dE j k (w++v):=by
 have a:∀{t u:H},gX d t->dE j k u->dE j k _:=λ{t u} e hu=>
  .free (.free (i.ls e (ez.F_ u) (hu.const (p:=[41]) (by decide))) λb=>hr.par aB e.cc b) λb=>hr.sub aB e b
 rcases c with c|⟨t,M,rfl|rfl⟩|⟨x,M,rfl⟩
 ·exact h.Ku w c
 ·simpa using a M h
 ·have:=(a M (h.const (p:=[34]) (by decide))).const (p:=[34,120]) (by decide);simp_all
 ·have U:=(i.wd M (h.const (p:=[125]) (by decide))).const (p:=[120,58,45]) (by decide);have f:dE j k _:= .free (.free U λ_=>hr.asm) λb=>hr.asl aB M b;grind
theorem uK.comp(aB:d<=2)(i:uK j d){c v:H}{k:Nat}(aq:tv (gX d) (gh d) c)(q:ez v v')(h:dE j k v):dE j k (c++v):=by
 have n:=q.iX;rcases aq with⟨t,M,rfl⟩|⟨t,M,rfl⟩|⟨t,u,M,U,rfl⟩|⟨t,u,M,U,rfl⟩|⟨t,u,M,U,rfl⟩|⟨w,u,M,U,rfl⟩|rfl|⟨w,u,M,U,rfl⟩|⟨t,M,rfl⟩
 ·have:dE j k (40::(t++41::v)):= .free (i.ls M (ez.F_ v) (h.const (p:=[41]) (by decide))) λa=>hr.par aB M.cc a;grind
 ·have l:=(i.ls M (ez.nl _) (h.const (p:=[10,125]) (by decide))).const (p:=[32]) (by decide);have he:[123,32]++(t++[10])++[125]++v=123::([32]++(t++([10,125]++v))):=by simp
  rw[he];refine .free l λa=>?_;rw[<-he] at a⊢;refine hr.kw aB (w:=[123]) (v:=v) (by decide) (nV (w:=[123]) (by decide) (by decide) (mN _)) (gq _ _) a λm F b e f g=>adB f e b n M g
 ·have l:=(i.ls M (ez.G8 _) ((i.ls U (ez.nl _) (((h.last n (.inl rfl):dE j k (105::v)).free λ_=>hr.plain rfl:dE j k (102::105::v)).const (p:=[10]) (by decide))).const (p:=[59,32,116,104,101,110,32]) (by decide))).const (p:=[102,32]) (by decide);have he:[105,102,32]++(t++[59])++[32,116,104,101,110,32]++(u++[10])++[102,105]++v=105::([102,32]++(t++([59,32,116,104,101,110,32]++(u++([10]++(102::105::v)))))):=by simp
  rw[he];refine .free l λa=>?_;rw[<-he] at a⊢;exact hr.kw aB (w:=j7) (v:=v) (by decide) (nV (w:=j7) (by decide) (by decide) (mN _)) (gq _ _) a λm F b e f g=>adC f e b n M U g
 ·have l:=(i.ls U (ez.G8 _) ((h.last n (.inr (.inl rfl)):dE j k (102::v)).const (p:=[59,102,105,32,50,62]) (by decide))).const (p:=[102,32,98,10,116,104,101,110,32,99,10,101,108,115,101,32]) (by decide);have he:105::([102,32,98,10,116,104,101,110,32,99,10,101,108,115,101,32]++(u++([59,102,105,32,50,62]++(102::v))))=j7++([32]++([98]++(10::(hQ++([32]++([99]++(10::(gy++([32]++(u++(59::(ea++([32,50,62,102]++v))))))))))))):=by rfl
  have av:dE j k (105::([102,32,98,10,116,104,101,110,32,99,10,101,108,115,101,32]++(u++([59,102,105,32,50,62]++(102::v))))):=by refine .free l λa=>?_;rw[he] at a⊢;exact hr.kw aB (w:=j7) (v:=[32,50,62,102]++v) (by decide) (nV (w:=j7) (by decide) (by decide) (mN _)) ⟨j7++([32]++([98]++(10::(hQ++([32]++([99]++(10::(gy++([32]++(u++(59::ea))))))))))),by simp⟩ a λm F b e f g=>asq f e b U g
  have a3:=(i.ls M (ez.nl _) (av.const (p:=[10,101,108]) (by decide))).const (p:=[102,32,97,59,32,116,104,101,110,10]) (by decide);have o:[105,102,32,97,59,32,116,104,101,110,10]++(t++[10])++[101,108,105,102,32,98,10,116,104,101,110,32,99,10,101,108,115,101,32]++(u++[59])++[102,105,32,50,62,102]++v=105::([102,32,97,59,32,116,104,101,110,10]++(t++([10,101,108]++(105::([102,32,98,10,116,104,101,110,32,99,10,101,108,115,101,32]++(u++([59,102,105,32,50,62]++(102::v)))))))):=by simp
  rw[o];refine .free a3 λa=>?_;rw[<-o] at a⊢;exact hr.kw aB (w:=j7) (v:=[32,50,62,102]++v) (by decide) (nV (w:=j7) (by decide) (by decide) (mN _)) ⟨[105,102,32,97,59,32,116,104,101,110,10]++(t++[10])++[101,108,105,102,32,98,10,116,104,101,110,32,99,10,101,108,115,101,32]++(u++[59])++[102,105],by simp⟩ a λm F b e f g=>adD f e b M U g
 ·have l:=(i.ls M (ez.nl _) ((i.ls U (ez.G8 _) (h.const (p:=[59,32,100,111,110,101]) (by decide))).const (p:=[10,100,111,32]) (by decide))).const (p:=[104,105,108,101,32]) (by decide);have he:[119,104,105,108,101,32]++(t++[10])++[100,111,32]++(u++[59])++[32,100,111,110,101]++v=119::([104,105,108,101,32]++(t++([10,100,111,32]++(u++([59,32,100,111,110,101]++v))))):=by simp
  rw[he];refine .free l λa=>?_;rw[<-he] at a⊢;exact hr.kw aB (w:=ug) (v:=v) (by decide) (nV (w:=ug) (by decide) (by decide) (mN _)) (gq _ _) a λm F b e f g=>adF f e b n M U g
 ·have l:=(i.wd M ((i.ls U (ez.G8 _) (h.const (p:=[59,100,111,110,101]) (by decide))).const (p:=[59,32,100,111,32]) (by decide))).const (p:=[111,114,32,120,32,105,110,32,97,32]) (by decide);have he:[102,111,114,32,120,32,105,110,32,97,32]++w++[59,32,100,111,32]++(u++[59])++[100,111,110,101]++v=102::([111,114,32,120,32,105,110,32,97,32]++(w++([59,32,100,111,32]++(u++([59,100,111,110,101]++v))))):=by simp
  rw[he];refine .free l λa=>?_;rw[<-he] at a⊢;exact hr.kw aB (w:=mB) (v:=v) (by decide) (nV (w:=mB) (by decide) (by decide) (mN _)) (gq _ _) a λm F b e f g=>adI f e b n M U g
 ·have l:=h.const (p:=[111,114,32,120,10,100,111,32,97,10,100,111,110,101]) (by decide);refine .free l λa=>?_;exact hr.kw aB (w:=mB) (v:=v) (by decide) (nV (w:=mB) (by decide) (by decide) (mN _)) (gq [102,111,114,32,120,10,100,111,32,97,10,100,111,110,101] _) a λm F b e f g=>adK f e b n g
 ·have a0:=((h.last n (.inr (.inr rfl)):dE j k (99::v)).const (p:=[32,59,59,32,100,41,32,101,115,97]) (by decide)).const (p:=[99,41]) (by decide);have l:dE j k (40::([99]++41::([32,59,59,32,100,41,32,101,115,97]++(99::v)))):= .free a0 λa=>hr.par (d:=0) (by omega) (D4 (.inr (.inr rfl))) a;have av:=(i.wd M ((i.ls U (ez.G8 _) (l.const (p:=[59,59,10]) (by decide))).const (p:=[32,105,110,32,97,124,98,41,32]) (by decide))).const (p:=[97,115,101,32]) (by decide);have he:[99,97,115,101,32]++w++[32,105,110,32,97,124,98,41,32]++(u++[])++[59,59,10,40,99,41,32,59,59,32,100,41,32,101,115,97,99]++v=99::([97,115,101,32]++(w++([32,105,110,32,97,124,98,41,32]++(u++([59,59,10]++(40::([99]++41::([32,59,59,32,100,41,32,101,115,97]++(99::v))))))))):=by simp
  rw[he];refine .free av λa=>?_;rw[<-he] at a⊢;exact hr.kw aB (w:=oI) (v:=v) (by decide) (nV (w:=oI) (by decide) (by decide) (mN _)) (gq _ _) a λm F b e f g=>adP f e b n M U g
 ·have l:=(i.ls M (ez.nl _) ((h.last n (.inr (.inl rfl)):dE j k (102::v)).const (p:=[10,125,32,62]) (by decide))).const (p:=[10]) (by decide);have he:123::([10]++(t++([10,125,32,62]++(102::v))))=123::([10]++(t++(10::([125]++([32,62,102]++v))))):=by simp
  have av:dE j k (123::([10]++(t++([10,125,32,62]++(102::v))))):=by refine .free l λa=>?_;rw[he] at a⊢;exact hr.kw aB (w:=[123]) (v:=[32,62,102]++v) (by decide) (nV (w:=[123]) (by decide) (by decide) (xN _)) ⟨123::([10]++(t++(10::[125]))),by simp⟩ a λm F b e f g=>V3 f e b rfl M g
  have a3:dE j k (40::([41,32]++(123::([10]++(t++([10,125,32,62]++(102::v))))))):=by refine .free (av.const (by decide)) λa=>?_;grind[hr.fn]
  have r:dE j k (102::(40::([41,32]++(123::([10]++(t++([10,125,32,62]++(102::v)))))))):= .free a3 λ_=>hr.plain rfl;grind
theorem G9:∀d,d<=3->uK j d
 |0,_=>⟨λa h=>h.Ku _ a,λc b h=>uK.list (λaq _ h=>uK.simple (λa h=>h.Ku _ a) aq h) c b h⟩
 |d+1,aB=>by
  have i:=G9 d (by omega);refine⟨λa h=>i.word (by omega) a h,λc b h=>uK.list (λaq b h=>?_) c b h⟩;rcases aq with aq|aq
  ·exact uK.simple (λa h=>i.word (by omega) a h) aq h
  ·exact i.comp (by omega) aq b h
end
def mS:H->Nat
 |[]=>0
 |b::t=>(if !w_ (b::t)&& !(t==[]&&([36,105,119,117,102,99]:H).contains b)&& !(b::t==[99,97]) then 0 else 1)+mS t
section
theorem dE.any{k:Nat}{B:H}(h:dE j k B):∀a,dE j (k+mS a) (a++B)
 |[]=>h
 |b::t=>by
  have c:=h.any t;unfold mS;split
  ·rename_i ah;simp only[h4,BS] at ah;rw[Nat.zero_add];exact .free c λ_=>hr.plain (V5 ah.1.1 ah.1.2 ah.2)
  ·rw[show k+(1+mS t)=k+mS t+1 by omega];exact .mark b c
def dk(j:Bool)(K:Nat)(w:H):Prop:=∀a C,w=a++C->∀k B,dE j k B->∃i,i<=k+K/\dE j i (a++B)
theorem dk.mono{K a:Nat}{w:H}(h:dk j K w)(az:K<=a):dk j a w:=λb C he k B c=>by obtain⟨i,M,U⟩:=h b C he k B c;grind
theorem dk.nil:dk j 0 []:=λa C he k B b=>by obtain⟨rfl,_⟩:=List.append_eq_nil_iff.1 he.symm;grind
theorem dk.const{p y:H}{K b:Nat}(e:dk j b y)(ah:∀n,n<=p.length->mS (p.take n)<=K)(g:mS p+b<=K):dk j K (p++y):=by
 intro c C he k B d;rcases List.append_eq_append_iff.1 he with⟨a,M,U⟩|⟨a,M,U⟩
 ·obtain⟨i,h,f⟩:=e a C U k B d;refine⟨i+mS p,by omega,?_⟩;rw[M,uS];exact f.any p
 ·refine⟨k+mS c,?_,d.any c⟩;grind[List.take_left]
theorem dk.of{p:H}{K:Nat}(ah:∀n,n<=p.length->mS (p.take n)<=K):dk j K p:=by have:=dk.const (dk.nil (j:=j)) ah (by have:=ah p.length (cS _);grind);grind
theorem dk.app{y:H}{K:Nat}(c:dk j K x)(e:dk j K y)(g:∀a C k B,y=a++C->a≠[]->dE j k (a++B)->dE j k (x++(a++B))):dk j K (x++y):=by
 intro d C he k B b;rcases List.append_eq_append_iff.1 he with⟨a,M,U⟩|⟨a,M,U⟩
 ·by_cases f:a=[]
  ·subst f;rw[pZ] at M;exact c d [] (by grind) k B b
  ·obtain⟨i,h,l⟩:=e a C U k B b;grind
 ·exact c d a M k B b
structure Kv(j:Bool)(d:Nat):Prop where
 wd:∀{w:H},gh d w->dk j (4+2*d) w
 ls:∀{t:H},gX d t->dk j (4+2*d) t
theorem O6{w:H}(a:w∈nz):dk j 4 w:=dk.of ((by decide:∀w∈nz,∀n,n<=w.length->mS (w.take n)<=4) w a)
theorem dk.uL(aB:d<=3){y:H}{K:Nat}(e:b=10\/b=41\/b=59)(f:gX d t)(h:dk j K t)(g:dk j K (b::y)):dk j K (t++b::y):=by
 refine h.app g λa C k B he af i=>?_;cases a with
 |nil=>grind
 |cons c a=>
  cases he;refine(G9 d aB).ls f (v':=b::(a++B)) ?_ i;rcases e with rfl|rfl|rfl
  ·simp[ez.nl]
  ·simp[ez.F_]
  simp[ez.G8]
theorem dk.O7(aB:d<=3){w y:H}{K:Nat}(b:gh d w)(h:dk j K w)(c:dk j K y):dk j K (w++y):=h.app c λa C k B he af e=>(G9 d aB).wd b e
theorem dk.list{K:Nat}(g:∀{c:H},C c->dk j K c)(hW:∀{c v v':H}{k:Nat},C c->ez v v'->dE j k v->dE j k (c++v))(u:r8 C t):dk j K t:=by
 obtain⟨c,l,M,U,rfl⟩:=u;induction l generalizing c with
 |nil=>grind[cY]
 |cons p l w=>
  obtain⟨e,y⟩:=U p (by simp);have z:=w p.2 y λq F=>U q (by grind);have he:c++cY (p::l)=c++(p.1++(p.2++cY l)):=by simp[cY]
  rw[he];intro A D hA k B f
  have G:∀n,n<=p.1.length->mS (p.1.take n)=0:=(by decide:∀q∈jt,∀n,n<=q.length->mS (q.take n)=0) p.1 e
  rcases List.append_eq_append_iff.1 hA with⟨a,h,m⟩|⟨a,h,m⟩
  ·rcases List.append_eq_append_iff.1 m with⟨b,E,o⟩|⟨b,E,o⟩
   ·obtain⟨i,d,r⟩:=z b D o k B f;obtain⟨I,s⟩:=VQ (x:=b++B) e;refine⟨i,d,?_⟩;have:=hW M s (r.const ((by decide:∀j∈jt,xa j=true) p.1 e));grind
   ·have d:=f.any a;have:mS a=0:=by grind[List.take_left]
    rw[this] at d;obtain⟨i,r,s⟩:=g M c [] (by simp) k (a++B) d;grind
  ·exact g M A a h k B f
theorem dk.simple(aB:d<=3){c:H}(hW:∀{w:H},gh d w->dk j (4+2*d) w)(aq:qD (gh d) (gh 0) c):dk j (4+2*d) c:=by
 obtain⟨x,ws,r,M,U,rfl,b⟩:=aq;have Z:dk j (4+2*d) r:=by
  rcases b with rfl|rfl|⟨w,a,rfl⟩
  ·exact dk.nil.mono (by omega)
  ·exact(dk.of (K:=0) (by decide)).mono (by omega)
  ·exact(dk.const (K:=4) (O6 a) (p:=[32,62]) (by decide) (by decide)).mono (by omega)
 have g:dk j (4+2*d) (ji ws++r):=by
  clear M;induction ws with
  |nil=>exact Z
  |cons w ws e=>have f:=dk.O7 aB (U w (by simp)) (hW (U w (by simp))) (e λw a=>U w (by grind));have:=dk.const f (p:=[32]) (K:=4+2*d) (λn af=>k1 ((by decide:∀n,n<=([32]:H).length->mS (([32]:H).take n)<=0) n af) (by omega)) (by rw[show mS [32]=0 from rfl];omega);grind[ji]
 have h:∀x∈rl,(∀n,n<=x.length->mS (x.take n)<=4)/\mS x=0:=by decide
 grind[dk.const]
theorem dk.k{p y:H}{K a c:Nat}(ah:∀n,n<=p.length->mS (p.take n)<=c)(b:dk j a y)(d:c+a<=K):dk j K (p++y):=dk.const b (λn af=>k1 (ah n af) (by omega)) (by have:=ah p.length (cS _);grind)
theorem dk.jv{p y:H}{K a c c0:Nat}(ah:∀n,n<=p.length->mS (p.take n)<=c0)(aq:mS p=c)(b:dk j a y)(h0:c0<=K)(d:c+a<=K):dk j K (p++y):=dk.const b (λn af=>k1 (ah n af) h0) (by omega)
theorem Kv.word(aB:d<=2)(i:Kv j d){w:H}(a:gh (d+1) w):dk j (4+2*(d+1)) w:=by
 rcases a with a|⟨t,M,rfl|rfl⟩|⟨x,M,rfl⟩
 ·exact(O6 a).mono (by omega)
 ·have:=dk.k (p:=[36,40]) (c:=2) (K:=4+2*(d+1)) (by decide) (dk.uL (by omega) (.inr (.inl rfl)) M (i.ls M) ((dk.of (p:=[41]) (K:=0) (by decide)).mono (by omega))) (by omega);grind
 ·have:=dk.k (p:=[34,120,36,40]) (c:=2) (K:=4+2*(d+1)) (by decide) (dk.uL (by omega) (.inr (.inl rfl)) M (i.ls M) ((dk.of (p:=[41,34]) (K:=0) (by decide)).mono (by omega))) (by omega);grind
 ·have:=dk.k (p:=[36,123,120,58,45]) (c:=2) (K:=4+2*(d+1)) (by decide) (dk.O7 (by omega) M (i.wd M) ((dk.of (p:=[125]) (K:=0) (by decide)).mono (by omega))) (by omega);grind
theorem Kv.comp(aB:d<=2)(i:Kv j d){c:H}(aq:tv (gX d) (gh d) c):dk j (4+2*(d+1)) c:=by
 have a:d<=3:=by omega
 rcases aq with⟨t,M,rfl⟩|⟨t,M,rfl⟩|⟨t,u,M,U,rfl⟩|⟨t,u,M,U,rfl⟩|⟨t,u,M,U,rfl⟩|⟨w,u,M,U,rfl⟩|rfl|⟨w,u,M,U,rfl⟩|⟨t,M,rfl⟩
 ·have:=dk.k (p:=[40]) (c:=2) (K:=4+2*(d+1)) (by decide) (dk.uL a (.inr (.inl rfl)) M (i.ls M) ((dk.of (p:=[41]) (K:=0) (by decide)).mono (by omega))) (by omega);grind
 ·have:=dk.k (p:=[123,32]) (c:=2) (K:=4+2*(d+1)) (by decide) (dk.uL a (.inl rfl) M (i.ls M) ((dk.of (p:=[10,125]) (K:=0) (by decide)).mono (by omega))) (by omega);grind
 ·have:=dk.k (p:=[105,102,32]) (c:=2) (K:=4+2*(d+1)) (by decide) (dk.uL a (.inr (.inr rfl)) M (i.ls M) (dk.k (p:=[59,32,116,104,101,110,32]) (c:=0) (K:=4+2*d) (by decide) (dk.uL a (.inl rfl) U (i.ls U) ((dk.of (p:=[10,102,105]) (K:=1) (by decide)).mono (by omega))) (by omega))) (by omega);simp_all
 ·have:=dk.jv (p:=[105,102,32,97,59,32,116,104,101,110,10]) (c:=1) (c0:=2) (K:=4+2*(d+1)) (by decide) rfl (dk.uL a (.inl rfl) M ((i.ls M).mono (by omega)) (dk.jv (p:=[10,101,108,105,102,32,98,10,116,104,101,110,32,99,10,101,108,115,101,32]) (c:=1) (c0:=2) (K:=4+2*d+1) (by decide) rfl (dk.uL a (.inr (.inr rfl)) U (i.ls U) ((dk.of (p:=[59,102,105,32,50,62,102]) (K:=1) (by decide)).mono (by omega))) (by omega) (by omega))) (by omega) (by omega);simp_all
 ·have:=dk.k (p:=[119,104,105,108,101,32]) (c:=2) (K:=4+2*(d+1)) (by decide) (dk.uL a (.inl rfl) M (i.ls M) (dk.k (p:=[10,100,111,32]) (c:=0) (K:=4+2*d) (by decide) (dk.uL a (.inr (.inr rfl)) U (i.ls U) ((dk.of (p:=[59,32,100,111,110,101]) (K:=0) (by decide)).mono (by omega))) (by omega))) (by omega);simp_all
 ·have:=dk.k (p:=[102,111,114,32,120,32,105,110,32,97,32]) (c:=2) (K:=4+2*(d+1)) (by decide) (dk.O7 a M (i.wd M) (dk.k (p:=[59,32,100,111,32]) (c:=0) (K:=4+2*d) (by decide) (dk.uL a (.inr (.inr rfl)) U (i.ls U) ((dk.of (p:=[59,100,111,110,101]) (K:=0) (by decide)).mono (by omega))) (by omega))) (by omega);grind
 ·exact(dk.of (K:=2) (by decide)).mono (by omega)
 ·have:=dk.k (p:=[99,97,115,101,32]) (c:=2) (K:=4+2*(d+1)) (by decide) (dk.O7 a M (i.wd M) (dk.jv (p:=[32,105,110,32,97,124,98,41,32]) (c:=0) (c0:=1) (K:=4+2*d) (by decide) rfl (dk.uL a (.inr (.inr rfl)) U (i.ls U) ((dk.of (p:=[59,59,10,40,99,41,32,59,59,32,100,41,32,101,115,97,99]) (K:=2) (by decide)).mono (by omega))) (by omega) (by omega))) (by omega);grind
 ·have:=dk.k (p:=[102,40,41,32,123,10]) (c:=2) (K:=4+2*(d+1)) (by decide) (dk.uL a (.inl rfl) M (i.ls M) ((dk.of (p:=[10,125,32,62,102]) (K:=1) (by decide)).mono (by omega))) (by omega);grind
theorem O8:∀d,d<=3->Kv j d
 |0,_=>⟨λa=>O6 a,λb=>dk.list (λaq=>dk.simple (d:=0) (by omega) (λa=>O6 a) aq) (λaq c h=>uK.simple (λa h=>h.Ku _ a) aq h) b⟩
 |d+1,aB=>by
  have i:=O8 d (by omega);have w:=G9 (j:=j) d (by omega);have e:=G9 (j:=j) (d+1) aB;refine⟨λa=>i.word (by omega) a,λb=>dk.list (λaq=>?_) (λaq c h=>?_) b⟩
  ·rcases aq with aq|aq
   ·exact dk.simple (d:=d+1) aB (λa=>i.word (by omega) a) aq
   ·exact i.comp (by omega) aq
  ·rcases aq with aq|aq
   ·exact uK.simple (λa h=>e.wd a h) aq h
   ·exact w.comp (by omega) aq c h
end
end Go.Eng
namespace Go.Eng
open Go Go.Proofs
variable{I x:H}{n:Nat}
theorem ass{st:dQ}(h:eK I st){n:Int}(M:1<=n)(U:n<=99999999):∃v c,iP st n=some (v,c)/\0<=v/\v<n/\eK I c:=by
 by_cases g:n<=256
 ·grind[tu]
 unfold iP;obtain⟨v,s1,i,t,av,d⟩:=Kl h;obtain⟨w,s2,j,u,z,e⟩:=Kl d;obtain⟨x,a,k,e_,A,f⟩:=Kl e;obtain⟨y,B,l,C,D,b⟩:=Kl f;have aq:=h.c;rw[e3 (by omega),e3 g];simp only[aY];rw[i,aS rfl];rw[show(st.1,s1.2.1,s1.2.2)=s1 by rw[aq,<-d.c],j,aS rfl];rw[show(st.1,s2.2.1,s2.2.2)=s2 by rw[aq,<-e.c],k,aS rfl];rw[show(st.1,a.2.1,a.2.2)=a by rw[aq,<-f.c],l,aS rfl];rw[b2 (by omega)];have m:W _=v*16777216:=dO (by omega) (by omega);have o:W _=w*65536:=dO (by omega) (by omega);have p:W _=x*256:=dO (by omega) (by omega);have q:W _=v*16777216+w*65536:=dO (by omega) (by omega);have r:W _=v*16777216+w*65536+x*256:=dO (by omega) (by omega);have s:W _=v*16777216+w*65536+x*256+y:=dO (by omega) (by omega);rw[m,o,p,q,r,s];refine⟨_,_,rfl,Int.tmod_nonneg _ (by omega),Int.tmod_lt_of_pos _ (by omega),aq,b.lo,b.bh,b.b4⟩
def bits:bs:=[([97]:H),([98,49]:H),([32]:H),([32]:H),([10]:H),([10]:H),([59]:H),([38]:H),([124]:H),([38,38]:H),([124,124]:H),([59,59]:H),([40]:H),([41]:H),([105,102,32]:H),([116,104,101,110,32]:H),([101,108,115,101,32]:H),([101,108,105,102,32]:H),([102,105]:H),([100,111,32]:H),([100,111,110,101]:H),([119,104,105,108,101,32]:H),([117,110,116,105,108,32]:H),([102,111,114,32]:H),([120,32]:H),([105,110,32]:H),([99,97,115,101,32]:H),([101,115,97,99]:H),([123,32]:H),([125]:H),([33,32]:H),([60]:H),([62]:H),([60,60,69]:H),([60,60,45,69]:H),([69,10]:H),([9,69,10]:H),([50,62]:H),([62,38,49]:H),([39]:H),([39,113,39]:H),([34]:H),([34,113,34]:H),([92]:H),([92,10]:H),([36]:H),([36,40]:H),([36,40,40]:H),([49,43,40,50,41]:H),([41,41]:H),([36,123]:H),([125]:H),([96]:H),([96,99,96]:H),([35,114]:H),([9]:H),([102,40,41,32]:H),([195,169]:H)]
theorem adZ:∀p∈bits,p.length<=6:=by decide
def vN(n:Nat)(x:H):Prop:=∃ax:bs,ax.length<=n/\(∀p∈ax,p∈bits)/\x=ax.flatten
theorem vN.len(h:vN n x):x.length<=6*n:=by
 obtain⟨ax,M,U,rfl⟩:=h
 have:∀ax:bs,(∀p∈ax,p∈bits)->ax.flatten.length<=6*ax.length:=by
  intro ax;induction ax with
  |nil=>simp
  |cons p t a=>grind[adZ]
 grind
theorem ad0(x:dQ)(ys:bs)(j:H×Int×Int->Option (H×dQ))(k:H×Int×Int×Int->Option (H×dQ))(s:H)(c a b:Int):Ng x ys j k (s,c,a,b)=bif(decide (0<c)) then
 (ay (iP (x.1,a,b) (ys.length:Int)) λv=>(a4 (0<=v.1/\v.1<(ys.length:Int))<|(a4 (((s.length+(at' ys v.1).length:Nat):Int)<=9223372036854775807)<|k ((s++(at' ys v.1)),(W (c-1)),v.2.2.1,v.2.2.2)))) else j (s,a,b):=rfl
theorem ast{x:dQ}(e:x.1=I){j:H×Int×Int->Option (H×dQ)}:∀(bF c:Nat)(s:H)(st:dQ),c<bF->c<=12->s.length+6*c<=900000->eK I st->
  ∃y a,fixF (Ng x bits j) bF (s,(c:Int),st.2.1,st.2.2)=j (s++y,a.2.1,a.2.2)/\vN c y/\eK I a:=by
 intro bF;induction bF with
 |zero=>omega
 |succ bF f=>
  intro c s st aq m Y h;rw[fx];cases c with
  |zero=>rw[ad0];refine⟨[],st,?_,⟨[],by simp,by simp,rfl⟩,h⟩;simp
  |succ c=>
   have o:bits.length=58:=by decide
   obtain⟨v,g,i,b,d,k⟩:=tu h (n:=bits.length) (by omega) (by omega);have ah:=at_mem b d;have q:=adZ _ ah;rw[ad0,decide_eq_true (by omega),e,h.st,i,aS rfl];dsimp only;have r:W (((c+1:Nat))-1)=c:=by grind[dO]
   rw[b2 ⟨b,d⟩,b2 (rn _ _ (by omega) (by omega))];obtain⟨y,a,t,⟨ax,u,w,z⟩,l⟩:=f c (s++at' bits v) g (by omega) (by omega) (by grind) k;refine⟨at' bits v++y,a,by grind,⟨at' bits v::ax,by grind,λp h=>?_,by grind⟩,l⟩;grind
theorem asu(x:dQ)(n:Int):zu x n=ay (iP x (W (n+1))) λz=>fixF (Ng x bits λq=>some (q.1,(x.1,q.2.1,q.2.2))) bB ([],z.1,z.2.2.1,z.2.2.2):=rfl
theorem V7{st:dQ}(h:eK I st)(af:n<=12):∃y a,zu st (n:Int)=some (y,a)/\vN n y/\eK I a:=by
 have d:W (n+1)=((n+1:Nat)):=by grind[dO]
 obtain⟨v,e,f,l,m,g⟩:=tu h (n:=((n+1:Nat))) (by omega) (by omega)
 obtain⟨c,rfl⟩:∃c:Nat,v=c:=⟨v.toNat,by omega⟩
 rw[asu,d,f,aS rfl];obtain⟨y,a,i,⟨ax,o,j,k⟩,b⟩:=ast h.c bB c [] e (by grind[gM]) (by omega) (by grind) g;exact⟨y,a,by rw[i,ps,h.c,b.st],⟨ax,by omega,j,k⟩,b⟩
def uO:H:=[92,10]
def xb:H:=[99,97,116,32,60,60,45,39,69,32,70,39,32,60,60,92,71,10,120,10,9,69,32,70,10,121,10,71,10]
def tx:bs:=[[],([32,38,38,32]:H),([32,124,32]:H),([59,32]:H)]
def uP:H:=[99,97,116,32,60,60,69]
def vO:H:=[10,120,10,69,10]
noncomputable def O9(x:dQ)(z:H×Int×Int):Option (H×dQ):=
 ay (iP (x.1,z.2.1,z.2.2) 12) λv=>bif decide (v.1=0) then(a4 (((z.1.length+uO.length:Nat):Int)<=9223372036854775807)<|some (z.1++uO,(x.1,v.2.2.1,v.2.2.2))) else some (z.1,(x.1,v.2.2.1,v.2.2.2))
noncomputable def O_(x:dQ)(y:Int)(z:H×Int×Int):Option (H×dQ):=
 bif decide (y=10) then ay (zu (x.1,z.2.1,z.2.2) 2) λv=>(a4 (((z.1.length+v.1.length:Nat):Int)<=9223372036854775807)<|O9 x (z.1++v.1,v.2.2.1,v.2.2.2)) else O9 x z
noncomputable def Pa(x:dQ)(y:Int)(z:H×Int×Int):Option (H×dQ):=
 bif decide (y=9) then ay (iP (x.1,z.2.1,z.2.2) (W ((z.1.length:Int)+1))) λu=>
 (a4 (0<=(0:Int)/\(0:Int)<=u.1/\u.1<=(z.1.length:Int))<|ay (zu (x.1,u.2.2.1,u.2.2.2) 1) λv=>(a4 ((((b3 z.1 0 u.1).length+v.1.length:Nat):Int)<=9223372036854775807)<|(a4 (0<=u.1/\u.1<=(z.1.length:Int)/\(z.1.length:Int)<=(z.1.length:Int))<|(a4 (((((b3 z.1 0 u.1)++v.1).length+(b3 z.1 u.1 (z.1.length:Int)).length:Nat):Int)<=9223372036854775807)<|O_ x y ((((b3 z.1 0 u.1)++v.1)++(b3 z.1 u.1 (z.1.length:Int))),v.2.2.1,v.2.2.2))))) else O_ x y z
noncomputable def Pb(x:dQ)(y:Int)(z:H×Int×Int):Option (H×dQ):=
 bif(bif(bif(decide (3<y)) then(decide (y<9)) else false) then(decide (0<(z.1.length:Int))) else false) then
 ay (iP (x.1,z.2.1,z.2.2) (W ((z.1.length:Int)+1))) λu=>
 (a4 (0<=(0:Int)/\(0:Int)<=u.1/\u.1<=(z.1.length:Int))<|Pa x y ((b3 z.1 0 u.1),u.2.2.1,u.2.2.2)) else Pa x y z
noncomputable def Kw(x:dQ)(y:Int)(z:H×Int×Int):Option (H×dQ):=
 bif decide (y=3) then(a4 (((xb.length+z.1.length:Nat):Int)<=9223372036854775807)<|Pb x y (xb++z.1,z.2.1,z.2.2)) else Pb x y z
theorem asv(x:dQ):Jf x=ay (iP x 12) λu=>bif decide (u.1=0) then ay (zu (x.1,u.2.2.1,u.2.2.2) 12) λv=>some (v.1,(x.1,v.2.2.1,v.2.2.2)) else
 ay (s_.h8 (x.1,u.2.2.1,u.2.2.2) 3 []) λv=>bif decide (u.1<3) then ay (iP (x.1,v.2.2.1,v.2.2.2) 4) λw=>
  (a4 (0<=w.1/\w.1<(tx.length:Int))<|(a4 (((uP.length+(at' tx w.1).length:Nat):Int)<=9223372036854775807)<|(a4 ((((uP++(at' tx w.1)).length+v.1.length:Nat):Int)<=9223372036854775807)<|(a4 (((((uP++(at' tx w.1))++v.1).length+vO.length:Nat):Int)<=9223372036854775807)<|Kw x u.1 (((uP++(at' tx w.1))++v.1)++vO,w.2.2.1,w.2.2.2))))) else Kw x u.1 (v.1,v.2.2.1,v.2.2.2):=rfl
def Kx(T:H):Prop:=vN 12 T\/∃t o,gX 3 t/\t.length<=460000/\(o=[]\/o=uO)/\((∃s∈tx,T=uP++s++t++vO++o)\/T=xb++t++o\/∃a C B P m,t=a++C/\(B=[]/\m=2\/B=C/\m=1)/\vN m P/\T=a++P++B++o)
theorem ad1{x st:dQ}(a:x.1=I)(h:eK I st){s:H}(Y:s.length<=900000):∃o b,O9 x (s,st.2.1,st.2.2)=some (s++o,b)/\(o=[]\/o=uO):=by
 obtain⟨v,e,c,f,g,i⟩:=tu h (n:=12) (by omega) (by omega);unfold O9;rw[a,h.st,c,aS rfl];by_cases d:v=0
 ·rw[decide_eq_true d,b2 (rn s uO (by omega) (by decide))];simp
 simp_all
theorem ad2{x st:dQ}(b:x.1=I)(h:eK I st){s:H}(Y:s.length<=800000){y:Int}:∃P o a,O_ x y (s,st.2.1,st.2.2)=some (s++P++o,a)/\(o=[]\/o=uO)/\(P=[]\/y=10/\vN 2 P):=by
 unfold O_;by_cases i:y=10
 ·obtain⟨P,j,d,e,f⟩:=V7 h (n:=2) (by omega);have aw:=e.len;rw[b,h.st,show 2=((2:Nat):Int) from rfl,d,aS rfl];rw[b2 (rn s P (by omega) (by omega))];obtain⟨o,a,g,c⟩:=ad1 b f (s:=s++P) (by grind);grind
 ·obtain⟨o,a,g,c⟩:=ad1 b h (s:=s) (by omega);exact⟨[],o,a,by grind,c,.inl rfl⟩
theorem asw(s:H)(v:Int):b3 s 0 v=s.take v.toNat:=by rfl
theorem asx(s:H){v:Int}(h:0<=v):b3 s v (s.length:Int)=s.drop v.toNat:=by simp[b3,Hn]
theorem ad3{st:dQ}(h:eK I st){s:H}(Y:s.length<=700000):∃v a,iP st (W ((s.length:Int)+1))=some (v,a)/\(0<=v/\v<=(s.length:Int))/\eK I a:=by have b:W _=s.length+1:=dO (by omega) (by omega);obtain⟨v,a,c,d,e,f⟩:=ass h (n:=s.length+1) (by omega) (by omega);grind
theorem ad4{x st:dQ}(c:x.1=I)(h:eK I st){s:H}(Y:s.length<=700000){y:Int}:∃e C B P m o a,Pa x y (s,st.2.1,st.2.2)=some (e++P++B++o,a)/\s=e++C/\(y=9\/C=[])/\(B=[]/\m=2/\C=[]\/B=C/\m=1)/\vN m P/\(o=[]\/o=uO)/\(y=9\/y=10\/P=[]):=by
 unfold Pa;by_cases f:y=9
 ·obtain⟨v,r,k,b,g⟩:=ad3 h Y;obtain⟨P,t,l,i,p⟩:=V7 g (n:=1) (by omega);have aw:=i.len;rw[c,h.st,k,aS rfl];rw[b2 ⟨sH 0,b.1,b.2⟩,g.st,show 1=((1:Nat):Int) from rfl,l,aS rfl];dsimp only;rw[asw,asx s b.1];have u:(s.take v.toNat).length<=s.length:=by grind
  have w:(s.drop v.toNat).length<=s.length:=by simp
  rw[b2 (rn _ P (by omega) (by omega)),b2 ⟨b.1,b.2,sH _⟩,b2 (rn _ _ (by grind) (by omega))];obtain⟨Q,o,a,q,d,j⟩:=ad2 c p (s:=s.take v.toNat++P++s.drop v.toNat) (by grind) (y:=y);have z:Q=[]:=by grind
  refine⟨s.take v.toNat,_,_,P,1,o,a,by grind,(List.take_append_drop _ _).symm,.inl f,.inr ⟨rfl,rfl⟩,i,d,.inl f⟩
 ·obtain⟨P,o,a,q,d,j⟩:=ad2 c h (s:=s) (by omega) (y:=y);refine⟨s,[],[],P,2,o,a,by grind,by simp,.inr rfl,.inl ⟨rfl,rfl,rfl⟩,?_,d,?_⟩
  ·rcases j with rfl|⟨_,h⟩
   ·exact⟨[],by simp,by simp,rfl⟩
   omega
  grind
theorem ad5{x st:dQ}(c:x.1=I)(h:eK I st){s:H}(Y:s.length<=700000){y:Int}:∃a C B P m o b,Pb x y (s,st.2.1,st.2.2)=some (a++P++B++o,b)/\s=a++C/\(B=[]/\m=2\/B=C/\m=1)/\vN m P/\(o=[]\/o=uO)/\(y<=3->C=[]/\P=[]):=by
 unfold Pb;by_cases aq:(3<y/\y<9)/\0<(s.length:Int)
 ·obtain⟨v,u,j,e,k⟩:=ad3 h Y;rw[decide_eq_true aq.1.1,decide_eq_true aq.1.2,decide_eq_true aq.2];rw[c,h.st,j,aS rfl];rw[b2 ⟨sH 0,e.1,e.2⟩];obtain⟨a,C,B,P,m,o,b,f,l,n,p,g,i,d⟩:=ad4 c k (s:=s.take v.toNat) (by grind) (y:=y);have q:B=[]:=by grind
  obtain⟨ax,w,r,t⟩:=g;refine⟨a,s.drop v.toNat,B,P,2,o,b,f,?_,.inl ⟨q,rfl⟩,⟨ax,by omega,r,t⟩,i,λh=>by omega⟩;grind[List.take_append_drop]
 ·have:(bif(bif(decide (3<y)) then(decide (y<9)) else false) then(decide (0<s.length)) else false)=false:=by grind
  obtain⟨a,C,B,P,m,o,b,f,l,n,p,g,i,d⟩:=ad4 c h Y (y:=y);grind
theorem asz{st:dQ}(h:eK I st):∃T a,Jf st=some (T,a)/\Kx T:=by
 obtain⟨y,O,G,Q,R,i⟩:=tu h (n:=12) (by omega) (by omega);have aq:=h.c;rw[asv,G,aS rfl];by_cases A:y=0
 ·obtain⟨P,J,j,b,K⟩:=V7 i (n:=12) (by omega);rw[decide_eq_true A,aq,i.st,show 12=((12:Nat):Int) from rfl,j];exact⟨_,_,rfl,.inl b⟩
 rw[e3 A,aq,i.st];obtain⟨t,J,j,b,K,k⟩:=arv (sfx:=[]) (by decide) i;rw[pZ] at j;have aw:=(rm (d:=3) (by decide)).2.1;rw[j,aS rfl]
 have rest:∀{s:H}{c:dQ},eK I c->s.length<=700000->y≠3->∃e C B P m o a,Kw st y (s,c.2.1,c.2.2)=some _/\s=e++C/\(B=[]/\m=2\/B=C/\m=1)/\vN m P/\(o=[]\/o=uO)/\(y<=3->C=[]/\P=[]):=λ{s c} p Y q=>by unfold Kw;rw[e3 q];exact ad5 aq p Y
 by_cases p:y<3
 ·obtain⟨v,c,L,D,E,u⟩:=tu k (n:=4) (by omega) (by omega);have F:=at_mem (l:=tx) D E;have S:=(by decide:∀s∈tx,s.length<=4) _ F;rw[decide_eq_true p,k.st,L,aS rfl];dsimp only;have U:uP.length=7:=rfl;rw[b2 ⟨D,E⟩,b2 (rn _ _ (by decide) (by omega)),b2 (rn _ _ (by grind) (by omega)),b2 (rn _ _ (by grind) (by decide))];have M:vO.length=5:=rfl;obtain⟨e,C,B,P,m,o,a,f,w,x,z,g,r⟩:=rest (s:=uP++at' tx v++t++vO) u (by grind) (by omega);obtain⟨rfl,rfl⟩:=r (by omega);have N:B=[]:=by grind
  refine⟨_,a,f,.inr ⟨t,o,b,by omega,g,.inl ⟨_,F,?_⟩⟩⟩;grind
 rw[e3 p];by_cases q:y=3
 ·unfold Kw;have V:xb.length=29:=rfl;rw[decide_eq_true q];dsimp only;rw[b2 (rn _ _ (by decide) (by omega))];obtain⟨e,C,B,P,m,o,a,f,w,x,z,g,r⟩:=ad5 aq k (s:=xb++t) (by grind) (y:=y);obtain⟨rfl,rfl⟩:=r (by omega);have N:B=[]:=by grind
  refine⟨_,a,f,.inr ⟨t,o,b,by omega,g,.inr (.inl ?_)⟩⟩;grind
 ·obtain⟨e,C,B,P,m,o,a,f,w,x,z,g,r⟩:=rest (s:=t) k (by omega) q;exact⟨_,a,f,.inr ⟨t,o,b,by omega,g,.inr (.inr ⟨e,C,B,P,m,w,x,z,rfl⟩)⟩⟩
theorem asB(I:H)(a:I.length<=1048576):∃T,Jg I=some T/\Kx T:=by obtain⟨st,b,M⟩:=aqU I a;obtain⟨T,c,d,e⟩:=asz M;simp_all[Jg,aS]
end Go.Eng
namespace Go.Eng
variable{D:ab Unit}{F:ag}{b:UInt8}{j tabs:Bool}{lo:Option dD}{m:Nat}{r t x:H}
theorem ad6{d a:H}(h:b::r<:+d++a)(hA:b∉d):b::r<:+a:=by
 induction d with
 |nil=>exact h
 |cons c d e=>grind[List.suffix_cons_iff]
theorem V8(d:Nat):(∀w,gh d w->(60:UInt8)∉w)/\∀t,gX d t->(60:UInt8)∉t:=by
 have az:∀w∈nz,60∉w:=by decide
 have Y:∀{W:H->Prop},(∀w,W w->60∉w)->∀{c:H},qD W (gh 0) c->60∉c:=by
  rintro W hW c ⟨x,ws,r,M,U,rfl,g⟩;have m:=(by decide:∀x∈rl,60∉x) x M;have i:60∉ji ws:=by grind[ji]
  have n:60∉r:=by
   rcases g with rfl|rfl|⟨w,b,rfl⟩
   ·simp
   ·decide
   ·have:=az w b;grind
  grind
 have aw:∀{C:H->Prop},(∀c,C c->60∉c)->∀{t:H},r8 C t->60∉t:=by
  rintro C o t ⟨c,l,M,U,rfl⟩;have i:60∉cY l:=by
   intro h;simp only[cY,List.mem_flatMap,tC] at h;obtain⟨p,ah,h|h⟩:=h
   ·exact(by decide:∀j∈jt,60∉j) _ (U p ah).1 h
   grind
  grind
 induction d with
 |zero=>exact⟨az,λt e=>aw (λc aq=>Y az aq) e⟩
 |succ d k=>
  obtain⟨f,a⟩:=k
  have b:∀w,gh (d+1) w->60∉w:=by
   intro w h;rcases h with h|⟨t,M,rfl|rfl⟩|⟨v,M,rfl⟩
   ·grind
   ·simp[a t M]
   ·simp[a t M]
   ·simp[f v M]
  refine⟨b,λt e=>aw (λc aq=>?_) e⟩;rcases aq with aq|aq
  ·exact Y b aq
  ·rcases aq with⟨t,M,rfl⟩|⟨t,M,rfl⟩|⟨t,u,M,U,rfl⟩|⟨t,u,M,U,rfl⟩|⟨t,u,M,U,rfl⟩|⟨w,u,M,U,rfl⟩|rfl|⟨w,u,M,U,rfl⟩|⟨t,M,rfl⟩
   ·simp[a t M]
   ·simp[a t M]
   ·simp[a t M,a u U]
   ·simp[a t M,a u U]
   ·simp[a t M,a u U]
   ·simp[f w M,a u U]
   ·decide
   ·simp[f w M,a u U]
   ·simp[a t M]
theorem ad8:∀(n:Nat)(d:H)(tabs:Bool)(r q:H),r.length<=n->kf d tabs r=some q->∃p s,r=p++(d++s)/\(s=[]/\q=[]\/s=10::q):=by
 intro n;induction n with
 |zero=>simp_all[kf]
 |succ n c=>
  intro d tabs r q af h;cases r with
  |nil=>grind
  |cons b t=>
   rw[xP] at h;have Y:=adS (b::t);have a:=Ji (b::t) (by simp);generalize (b::t)=r at*;by_cases aw:(if tabs then(hK r).1.dropWhile (· ==9) else(hK r).1)=d
   ·rw[ba aw] at h
    have ah:∃p,(hK r).1=p++d:=by
     cases tabs with
     |true=>exact⟨(hK r).1.takeWhile (· ==9),by grind[List.takeWhile_append_dropWhile]⟩
     |false=>simp_all
    grind
   ·rw[aM aw] at h;obtain⟨p,s,M,U⟩:=c d tabs _ q (by omega) h;rcases Y with⟨au,e⟩|au
    ·refine⟨(hK r).1++p,s,?_,U⟩;grind
    grind
theorem ad9:∀(F:ag)(d:H)(tabs:Bool)(r q:H),kg (F++[(d,tabs)]) r= .inl q->∃m,kg F r= .inl m/\kf d tabs m=some q
 |[],d,tabs,r,q,h=>by grind[kg]
 |e::F,d,tabs,r,q,h=>by
  simp only[jI,kg] at h⊢;cases a:kf e.1 e.2 r with
  |none=>rw[a] at h;cases h
  |some x=>rw[a] at h;exact ad9 F d tabs x q h
def Eb(j:Bool)(x:H):Prop:=(∃y,(x=69::y\/x=45::69::y)/\∀u tt d tabs q,10::u<:+y->tt<:+u->(10:UInt8)∉d->kf (69::d) tabs tt=some q->q<:+m9 j)\/x.head?=some 60\/x=[]\/x=[10]\/x=[92,10]
theorem D9.of{T:H}(h:∀x,60::60::x<:+T->Eb j x):D9 j T:=by
 intro r F o tabs r' J Z K a n aB
 have s:∃x,r=60::60::x/\(tabs=true->∃z,x=45::z)/\(tabs=false->x.head?≠some 45):=by
  rcases n with⟨rfl,rfl⟩|⟨rfl,rfl⟩
  ·have:[60,60]<+:r:=by grind[mQ,ib]
   obtain⟨x,rfl⟩:=this;refine⟨x,rfl,by simp,λ_ hh=>?_⟩;cases x with
   |nil=>cases hh
   |cons c z=>grind[bt,l2]
  ·have:[60,60,45]<+:r:=by grind[mQ,ib]
   obtain⟨x,rfl⟩:=this;simp
 obtain⟨x,rfl,M,U⟩:=s;have t:=h x Z;have u:(60::60::x).drop o.length=bif tabs then x.drop 1 else x:=by grind
 rw[u] at aB;rcases t with⟨y,L,A⟩|hh|rfl|rfl|rfl
 ·have b:(bif tabs then x.drop 1 else x)=69::y:=by grind
  rw[b] at aB;have s1:bg _=some (69::y):=jD (by decide) (by decide) (by decide)
  have s2:∃w p,ar (69::y)= .word w p:=by rw[x_,m3 (by decide)];simp
  have B:dP (69::y)=(dP y).map λq=>(69::q.1,q.2):=by rw[vx,aM (by rw[Jw (by decide)];simp),aM (by decide),aM (by decide),aM (by decide),aM (by decide)]
  unfold gm at aB;rw[s1] at aB;simp only[B] at aB;cases i:dP y with
  |none=>grind
  |some v=>
   obtain⟨k,q,C⟩:=v;rw[i] at aB;simp only[BZ] at aB;by_cases e_:(69::k).contains 10=true
   ·grind
   rw[aM e_,aM (by simp)] at aB;by_cases D:C≠[]
   ·grind
   rw[aM D] at aB;by_cases E:q=[]
   ·grind
   rw[aM E] at aB;cases aB;have d:=Nn _ _ _ (cS _) i;intro tt f l g;obtain⟨m,G,I⟩:=ad9 _ _ _ _ _ g;have:=A tt m k tabs f (l.trans d) (wI F tt [] m G).1 (λh=>e_ (by simp[h])) I;grind[kF.h]
 ·cases x with
  |nil=>cases hh
  |cons c z=>
   have l:tabs=false:=by grind
   have s2:∃o,ar (60::z)= .op o:=by
    rw[x_];by_cases h0:bt (60::z)=[]
    ·have:bt (60::z)≠[]:=by
      have hf:(l2.find? (λo=>o.isPrefixOf (60::z))).isSome=true:=by rw[List.find?_isSome];exact⟨[60],by decide,by simp⟩
      obtain⟨o,a⟩:=KN.1 hf;unfold bt;rw[a];have:=List.mem_of_find?_eq_some a;intro e;subst e;exact absurd this (by decide)
     grind
    simp_all
   obtain⟨N,s2⟩:=s2;have s1:bg _=some (60::z):=jD (by decide) (by decide) (by decide);simp_all[gm]
 all_goals
  simp_all[gm,bg,fV,ar]
theorem ad_{k:Nat}{T:H}(h:dE j k T)(az:k<=23)(a:m9 j<:+T)(aB:D9 j T):∀q,iA true 30 T≠ .deep q:=by obtain⟨E,M,rfl,b,_⟩:=h.nd a aB (n:=30) (by omega);grind[Z8]
theorem asG{a y b:H}(h:x++69::a=y++69::b)(g:(69:UInt8)∉y)(i:(69:UInt8)∉b):a=b:=by
 rcases List.append_eq_append_iff.1 h with⟨c,d,f⟩|⟨c,d,f⟩
 ·cases c with
  |nil=>grind
  |cons e c=>grind
 ·cases c with
  |nil=>grind
  |cons e c=>grind
theorem aea{s o:H}(b:gX 3 t)(Y:s∈tx)(e:o=m9 j):∀q,iA true 30 (uP++s++t++vO++o)≠ .deep q:=by
 have he:uP++s++t++vO++o=[99,97,116,32]++(60::60::([69]++(s++(t++(10::([120,10,69,10]++o)))))):=by simp[uP,vO]
 rw[he];have g:xa o=true:=by subst e;cases j<;>decide
 have M:dE j 0 (10::([120,10,69,10]++o)):=by have:=((dE.nil (j:=j)).const g).const (p:=[10,120,10,69,10]) (by decide);grind
 have U:=((G9 3 (by omega)).ls b (ez.nl _) M).const ((by decide:∀s∈tx,xa s=true) s Y);have i:=(U.const (p:=[69]) (by decide)).const (p:=[99,97,116,32,60,60]) (by decide);have k:(60:UInt8)∉[69]++(s++(t++(10::([120,10,69,10]++o)))):=by
  have l:=(by decide:∀s∈tx,(60:UInt8)∉s) s Y;have av:=(V8 3).2 t b;have a3:(60:UInt8)∉o:=by subst e;cases j<;>decide
  grind
 have a:(69:UInt8)∉s++(t++[10,120,10])/\(69:UInt8)∉10::o:=by
  have l:=(by decide:∀s∈tx,(69:UInt8)∉s) s Y;have av:=((O4 3).2 t b).1;have a3:(69:UInt8)∉o:=by subst e;cases j<;>decide
  grind
 generalize A:s++(t++(10::([120,10,69,10]++o)))=y at*;have f:y=(s++(t++[10,120,10]))++69::(10::o):=by simp_all
 refine ad_ (show dE j 0 ([99,97,116,32]++(60::60::([69]++y))) from i) (by omega) ?_ (D9.of λx m=> .inl ⟨y,.inl ?_,λu tt d tabs q hu n B r=>?_⟩)
 ·grind
 ·have:=ad6 m (by decide);rcases List.suffix_cons_iff.1 this with h|h
  ·grind
  ·rcases List.suffix_cons_iff.1 h with h|h
   ·cases h
   ·exact absurd (h.subset (by simp)) k
 ·obtain⟨p,s2,v,C⟩:=ad8 _ _ _ _ _ (cS _) r;obtain⟨w,z⟩:=n.trans ((eL 10 u).trans hu);rw[v,f] at z;have D:d++s2=10::o:=asG (x:=w++p) (y:=s++(t++[10,120,10])) (by grind) a.1 a.2;have E:d=[]:=by
   cases d with
   |nil=>rfl
   |cons c d=>grind
  grind
theorem Eb.none{y:H}(a:x=69::y\/x=45::69::y)(h:∀u,10::u<:+y->(69:UInt8)∉u):Eb j x:=by refine .inl ⟨y,a,λu tt d tabs q hu b e c=>?_⟩;obtain⟨p,s2,f,g⟩:=ad8 _ _ _ _ _ (cS _) c;exact absurd (b.subset (by grind)) (h u hu)
def Pd(w:H):Bool:=w==[]||w.head?==some 60||(match w with|69::y=> !y.dropLast.contains 10|45::69::y=> !y.dropLast.contains 10|_=>false)
def Ec:H->Bool
 |60::60::w=>Pd w&&Ec (60::w)
 |_::w=>Ec w
 |[]=>true
theorem V_{w:H}:∀{p:H},Ec p=true->60::60::w<:+p->Pd w=true
 |[],_,h=>by grind
 |b::p,az,h=>by
  rcases List.suffix_cons_iff.1 h with h|h
  ·cases h;simp_all[Ec]
  ·refine V_ ?_ h;unfold Ec at az;grind
theorem asI{f C B P o:H}(g:gX 3 t)(hA:t=f++C)(D:B=[]/\m=2\/B=C/\m=1)(N:vN m P)(E:o=[]\/o=[10]\/o=[92,10]):∀q,iA true 30 (f++(P++(B++o)))≠ .deep q:=by
 have O:xa o=true:=by rcases E with rfl|rfl|rfl<;>decide
 have h0:dE false 0 o:=by have:=(dE.nil (j:=false)).const O;grind
 obtain⟨ax,Q,a,rfl⟩:=N
 have F:∃i,i+3*m<=13/\dE false i (B++o):=by
  rcases D with⟨rfl,rfl⟩|⟨rfl,rfl⟩
  ·grind
  ·obtain⟨i,M,U⟩:=(O8 3 (by omega)).ls g t [] (by simp) 0 o h0;obtain⟨R,S,G⟩:=U.sfx (r:=B++o) (by grind);grind
 obtain⟨i,bh,F⟩:=F
 have ah:∀ax:bs,(∀p∈ax,p∈bits)->∃k,k<=i+3*ax.length/\dE false k (ax.flatten++(B++o)):=by
  intro ax;induction ax with
  |nil=>grind
  |cons p ax n=>intro h;obtain⟨k,I,l⟩:=n λq Y=>h q (by grind);have J:=l.any p;have:=(by decide:∀p∈bits,mS p<=3) p (h p (by simp));grind
 obtain⟨k,I,l⟩:=ah ax a;obtain⟨k',J,K⟩:=(O8 3 (by omega)).ls g f C hA k _ l;refine ad_ K (by omega) pt (D9.of λx d=>?_);have s:(60:UInt8)∉f/\(60:UInt8)∉B:=by have:=(V8 3).2 t g;grind
 have e:(69:UInt8)∉B++o:=by have:=((O4 3).2 t g).1;grind
 have v:(60:UInt8)∉B++o:=by grind
 have d:=ad6 d s.1
 have T:∃w,60::60::w<:+ax.flatten/\x=w++(B++o):=by
  generalize ax.flatten=P at d;clear ah l K I J hA;induction P with
  |nil=>exact absurd (d.subset (by simp)) v
  |cons b P n=>
   rcases List.suffix_cons_iff.1 d with h|h
   ·cases P with
    |nil=>simp only[jI,ps,Eg] at h;have U:60::x=B++o:=h.2;grind
    |cons c P=>simp only[jI,Eg] at h;obtain⟨rfl,rfl,rfl⟩:=h;simp
   ·obtain⟨w,M,U⟩:=n h;grind
 obtain⟨w,M,rfl⟩:=T;have az:Pd w=true/\(m=1->w=[69]\/w=[45,69]):=by
  match ax,Q,a,M with
  |[],_,_,M=>grind
  |[p],_,a,M=>
   have:=(by decide:∀p∈bits,Ec p=true/\(p=[60,60,69]\/p=[60,60,45,69]\/p.count 60<=1)) p (a p (by simp));simp only[List.flatten_cons,List.flatten_nil,pZ] at M;refine⟨V_ this.1 M,λ_=>?_⟩;rcases this.2 with rfl|rfl|U
   ·simp_all[List.suffix_cons_iff]
   ·simp_all[List.suffix_cons_iff]
   grind
  |[p,L],U,a,M=>refine⟨?_,λh=>by grind⟩;have:=(by decide:∀p∈bits,∀q∈bits,Ec (p++q)=true) p (a p (by simp)) L (a L (by simp));grind[V_]
  |_::_::_::_,U,_,_=>grind
 obtain⟨az,V⟩:=az;rcases D with⟨rfl,hm⟩|⟨W,hm⟩
 ·simp only[ps] at*
  have A:∀y,(!y.dropLast.contains 10)=true->∀u,10::u<:+y++o->(69:UInt8)∉u:=by
   intro y A u hu;have aw:u.length<=o.length:=by
    false_or_by_contra
    obtain⟨z,X⟩:=hu;have:(10:UInt8)∈y.dropLast:=by
     have U:z.length<y.dropLast.length:=by have:=k2 List.length X;grind
     have S:y.dropLast[z.length]? =some 10:=by
      rw[List.getElem?_dropLast];have G:z.length<y.length-1:=by grind
      rw[ba G];have Z:(y++o)[z.length]? =some 10:=by grind
      grind
     grind
    grind
   have:u<:+o:=by
    rcases List.suffix_or_suffix_of_suffix ((eL 10 u).trans hu) (gq y o) with h|h
    ·exact h
    ·rw[h.eq_of_length_le aw];simp
   grind
  unfold Pd at az;simp only[yx] at az;rcases az with(az|az)|az
  ·have:w=[]:=by grind
   subst this;rcases E with rfl|rfl|rfl
   ·exact .inr (.inr (.inl rfl))
   ·exact .inr (.inr (.inr (.inl rfl)))
   ·exact .inr (.inr (.inr (.inr rfl)))
  ·cases w with
   |nil=>grind
   |cons c w=>exact .inr (.inl (by grind))
  ·split at az
   ·exact Eb.none (.inl rfl) (A _ az)
   ·exact Eb.none (.inr rfl) (A _ az)
   grind
 ·rcases V hm with rfl|rfl
  ·exact Eb.none (.inl rfl) λu hu h=>e (hu.subset (by simp[h]))
  ·exact Eb.none (.inr rfl) λu hu h=>e (hu.subset (by simp[h]))
def BQ:H->Bool
 |36::_=>false
 |r=>w_ r
def tz:H->Nat
 |[]=>0
 |b::t=>(if BQ (b::t) then 1 else 0)+tz t
def Pe:H->Nat
 |[]=>0
 |b::t=>(if BQ (b::t)||(t==[]&&([105,119,117,102,99]:H).contains b)||b::t==[99,97] then 1 else 0)+Pe t
theorem asL{v:H}(M:BQ (b::t)=false)(U:(t==[]&&([105,119,117,102,99]:H).contains b)=false)(c:(b::t==[99,97])=false):BQ (b::t++v)=false:=by
 by_cases a:b=36
 ·subst a;rfl
 ·have e:∀r:H,BQ (b::r)=w_ (b::r):=λr=>by simp_all[BQ]
  grind[V5]
theorem aed(v:H):∀p:H,tz (p++v)<=Pe p+tz v
 |[]=>by simp
 |b::t=>by
  have a:=aed v t;rw[jI,tz,Pe];split
  ·rename_i h;by_cases aq:(BQ (b::t)||(t==[]&&([105,119,117,102,99]:H).contains b)||b::t==[99,97])=true
   ·grind
   ·simp only[yx,B0,Bool.not_eq_true] at aq;grind[asL]
  omega
theorem Kz:∀{r r':H},r'<:+r->tz r'<=tz r
 |[],r',h=>by grind
 |b::t,r',h=>by
  rcases List.suffix_cons_iff.1 h with rfl|h
  ·omega
  ·have:=Kz h;grind[tz]
theorem aee{P o:H}(d:vN 12 P)(c:o=[]\/o=[10]):∀q,iA true 30 (P++o)≠ .deep q:=by
 obtain⟨ax,k,e,rfl⟩:=d
 have af:∀ax:bs,(∀p∈ax,p∈bits)->tz (ax.flatten++o)<=2*ax.length:=by
  intro ax;induction ax with
  |nil=>intro _;rcases c with rfl|rfl<;>decide
  |cons p ax l=>intro h;have M:=(by decide:∀p∈bits,Pe p<=2) p (h p (by simp));grind[aed]
 have m:=af ax e
 have a:∀{u v:H},BQ v=true->(∃b,v=b::u)->∀i,tz (u.drop i)+1<=tz v:=λ{u v} c f i=>by obtain⟨b,rfl⟩:=f;have:=Kz (iI i u);rw[tz,ba c];omega
 have ok:(lh.mk (ax.flatten++o) tz 1 λ_ _=>True).mT:=by
  refine⟨cS _,λ_ _ h _=>Kz h,λ_ _ _ _ _ _=>trivial,λ_ _=>trivial,λ_ _ _ _ _ _ _ _ _ _ _=>trivial,λu _ _=> .inl ?_,λu _=> .inl ?_,λr _ Y aq=> .inl ?_,λu _=> .inl (a rfl ⟨_,rfl⟩ 0)⟩
  ·exact k1 (a (v:=40::u) rfl ⟨_,rfl⟩ 0) (Kz (eL _ _))
  ·exact k1 (a (v:=123::u) rfl ⟨_,rfl⟩ 0) (Kz (eL _ _))
  ·show tz _+1<=tz r;rcases G7 aq with⟨u,rfl⟩|⟨w,g,j,u,rfl⟩
   ·rw[Bh];exact a rfl ⟨_,rfl⟩ 0
   ·rw[j];rcases D_ g with rfl|rfl|rfl|rfl|rfl|rfl
    ·exact a (u:=[102]++u) (v:=105::([102]++u)) rfl ⟨_,rfl⟩ 1
    ·exact a (u:=[104,105,108,101]++u) (v:=119::([104,105,108,101]++u)) rfl ⟨_,rfl⟩ 4
    ·exact a (u:=[110,116,105,108]++u) (v:=117::([110,116,105,108]++u)) rfl ⟨_,rfl⟩ 4
    ·exact a (u:=[111,114]++u) (v:=102::([111,114]++u)) rfl ⟨_,rfl⟩ 2
    ·exact a (u:=[97,115,101]++u) (v:=99::([97,115,101]++u)) rfl ⟨_,rfl⟩ 3
    ·exact a (u:=u) (v:=123::u) rfl ⟨_,rfl⟩ 0
 exact Z8 ok (n:=30) (by grind)
def uQ:H:=[120,10,9,69,32,70,10,121,10,71,10]
def yt:ag:=[([69,32,70],true),([71],false)]
theorem aef{l:H}(h:(10:UInt8)∉l):hK (l++10::x)=(l,x):=by
 induction l with
 |nil=>rfl
 |cons b l a=>simp only[lS,B0] at h;rw[jI,hK,aM (λe=>h.1 e.symm),a h.2]
theorem aeg{d l:H}(aw:l≠[])(h:(10:UInt8)∉l)(aB:(if tabs then l.dropWhile (· ==9) else l)=d):kf d tabs (l++10::x)=some x:=by obtain⟨b,t,rfl⟩:=List.exists_cons_of_ne_nil aw;have:=aef (x:=x) h;simp_all[xP]
theorem aeh{d l:H}(aw:l≠[])(h:(10:UInt8)∉l)(aB:(if tabs then l.dropWhile (· ==9) else l)≠d):kf d tabs (l++10::x)=kf d tabs x:=by obtain⟨b,t,rfl⟩:=List.exists_cons_of_ne_nil aw;have:=aef (x:=x) h;simp_all[xP]
theorem asM(s:H):kg yt (uQ++s)= .inl s:=by
 have M:kf [69,32,70] true (uQ++s)=some ([121,10,71,10]++s):=by show kf _ _ ([120]++10::([9,69,32,70]++10::([121,10,71,10]++s)))=_;rw[aeh (by simp) (by decide) (by decide),aeg (by simp) (by decide) (by decide)]
 have U:kf [71] false ([121,10,71,10]++s)=some s:=by show kf _ _ ([121]++10::([71]++10::s))=_;grind[aeh,aeg]
 grind[yt,kg]
theorem aei{y q d:H}(a:fV b=false/\b≠35/\b≠10/\qs b=false)(Y:bg (b::y)=some (b::y))(aB:dP (b::y)=some (d,q,[]))(c:q≠[])(e:d.contains 10=false)(f:d.head?≠some 9):gm tabs (b::y) F= .ok () q (F++[(d,tabs)]):=by
 obtain⟨w,p,g⟩:∃w p,ar (b::y)= .word w p:=by simp_all[x_,m3]
 simp_all[gm]
theorem aej{y q d o:H}(Y:bg x=some (o++y))(a:(o++y).dropWhile cd=o++y)(c:bt (o++y)=o)(b:o=[60,60]/\tabs=false\/o=[60,60,45]/\tabs=true)(aB:gm tabs y F= .ok () q (F++[(d,tabs)])):dM D x F= .ok true q (F++[(d,tabs)]):=by
 have Z:fI x F= .ok (some o) y F:=by unfold fI;rw[Y];simp only[a,c];rw[ba (by rcases b with⟨rfl,_⟩|⟨rfl,_⟩<;>decide),pq]
 unfold dM;rw[aJ Z];simp only;rcases b with⟨rfl,rfl⟩|⟨rfl,rfl⟩
 ·rw[ba rfl,aJ aB];rfl
 ·rw[aM (by decide),ba rfl,aJ aB];rfl
theorem asO(z:H):dP (10::z)=some ([],10::z,[]):=by simp[vx,xN]
theorem asP{z:H}:fA true lo D ([99,97,116]++([32,60,60,45,39,69,32,70,39]++([32,60,60,92,71]++10::z))) []= .ok () (10::z) yt:=by
 obtain⟨c,a⟩:=mE (w:=[99,97,116]) (r:=[32,60,60,45,39,69,32,70,39]++([32,60,60,92,71]++10::z)) (by decide) (by decide) (by decide) rfl;have d:dM D ([32,60,60,92,71]++10::z) [([69,32,70],true)]= .ok true (10::z) yt:=by
  refine aej (o:=[60,60]) (y:=92::71::10::z) ?_ rfl ?_ (.inl ⟨rfl,rfl⟩) (aei ⟨by decide,by decide,by decide,by decide⟩ ?_ ?_ (by simp) (by decide) (by decide))
  ·show bg (32::_)=_;rw[j9];exact jD (by decide) (by decide) (by decide)
  ·rfl
  ·simp[m0,fV]
  ·rw[vx,aM (by simp[cV,fV,m3 (b:=92) (by decide)]),ba rfl];simp[asO]
 have h:dM D ([32,60,60,45,39,69,32,70,39]++([32,60,60,92,71]++10::z)) []= .ok true ([32,60,60,92,71]++10::z) [([69,32,70],true)]:=by
  refine aej (o:=[60,60,45]) (y:=39::([69,32,70,39]++([32,60,60,92,71]++10::z))) ?_ rfl ?_ (.inr ⟨rfl,rfl⟩) (aei ⟨by decide,by decide,by decide,by decide⟩ ?_ ?_ (by simp) (by decide) (by decide))
  ·show bg (32::_)=_;rw[j9];exact jD (by decide) (by decide) (by decide)
  ·rfl
  ·exact jD (by decide) (by decide) (by decide)
  ·rw[vx,aM (by simp[cV,fV,m3 (b:=39) (by decide)]),aM (by decide),ba rfl];have:gw ([69,32,70,39]++([32,60,60,92,71]++10::z))=some ([32,60,60,92,71]++10::z):=rfl;simp_all[vx,mN]
 have s1:bg ([32,60,60,45,39,69,32,70,39]++([32,60,60,92,71]++10::z))=some (60::60::45::39::([69,32,70,39]++([32,60,60,92,71]++10::z))):=by show bg (32::_)=_;rw[j9];exact jD (by decide) (by decide) (by decide)
 have e:=lz _ _ _ (cS _) s1;have f:dM D (60::60::45::39::([69,32,70,39]++([32,60,60,92,71]++10::z))) []= .ok true ([32,60,60,92,71]++10::z) [([69,32,70],true)]:=by simp_all[dM,N,fI]
 unfold fA;rw[aJ (bL a),c,aM (by simp),aM (by decide)];simp only;rw[aM (by decide),aJ (show dM D ([99,97,116]++([32,60,60,45,39,69,32,70,39]++([32,60,60,92,71]++10::z))) []= .ok false ([99,97,116]++([32,60,60,45,39,69,32,70,39]++([32,60,60,92,71]++10::z))) [] from TC a (by decide) (by decide)),aM (by simp),aJ (D5 (by decide) rfl (by simp)),ba (by decide),aJ (bL s1)];have g:ar (60::60::45::39::([69,32,70,39]++([32,60,60,92,71]++10::z)))= .op [60,60,45]:=by rfl
 rw[g,aM (by decide)];unfold gS;rw[cL,aJ f,ba rfl];show(if _ then gS true D ([32,60,60,92,71]++10::z) [([69,32,70],true)] else .bad _)=_;rw[ba (by simp)];unfold gS;rw[cL,aJ d,ba rfl];show(if _ then gS true D (10::z) yt else .bad _)=_;rw[ba (by simp)];exact(ez.nl z).simple D yt
theorem aek{o:H}(a:gX 3 t)(p:o=[10]\/o=[92,10]):∀q,iA true 30 (xb++(t++o))≠ .deep q:=by
 have u:xa o=true:=by rcases p with rfl|rfl<;>decide
 have h0:dE false 0 o:=by have:=(dE.nil (j:=false)).const u;grind
 obtain⟨k,F,v⟩:=(O8 3 (by omega)).ls a t [] (by simp) 0 o h0;have y:(60:UInt8)∉t++o:=by have M:=(V8 3).2 t a;grind
 obtain⟨E,b,G,z,A⟩:=v.nd pt (D9.of λx B=>absurd (B.subset (by simp)) y) (n:=30) (by omega);obtain⟨c,l,M,U,I⟩:=a.cc;obtain⟨⟨h,m,C,J,K⟩,L⟩:=M.aB.facts (cY l++o);rw[show c++(cY l++o)=t++o by grind] at h m C;generalize t++o=s at*;have he:xb++s=[99,97,116]++([32,60,60,45,39,69,32,70,39]++([32,60,60,92,71]++10::(uQ++s))):=by rfl
 obtain⟨O,d⟩:=mE (w:=[99,97,116]) (r:=[32,60,60,45,39,69,32,70,39]++([32,60,60,92,71]++10::(uQ++s))) (by decide) (by decide) (by decide) rfl;have e:=ez.nl (uQ++s);have eW:l5 true 30 ([99,97,116]++([32,60,60,45,39,69,32,70,39]++([32,60,60,92,71]++10::(uQ++s)))) []= .ok () (10::(uQ++s)) yt:=
  (Z4 d (by rfl) asP e.qF (by simp[ar]) (by simp[ar]) (by simp[ar])).2
 have f:cQ (10::(uQ++s)) yt= .ok true s []:=by
  rw[uo,cL,xS e.qF];have:N kh (λ_=>aU (.inl true)) (10::(uQ++s)) yt=(.ok (.inl true) s []:dn (Bool⊕Bool)):=by unfold N;rw[zx,asM];rfl
  rw[this];show(if s.length<(10::(uQ++s)).length then cD iB true s [] else .bad s)=_;rw[if_pos (by grind),cL,sw h m];rfl
 have g:iA true 30 (xb++s)=cD (fw (l5 true 30) .text true) 1 s []:=by
  rw[he];unfold iA;rw[Dr,td,aJ (hn.2 (oe d (by grind))),cL,Nr d (by grind) (by rfl),aJ eW,aJ (bL e.qF)];have:jB .text 0 (ar (10::(uQ++s))) (10::(uQ++s)) yt= .ok (.inl 1) s []:=by rw[show ar (10::(uQ++s))= .line by rfl];unfold jB;simp only;rw[aJ f];rfl
  rw[this];show(if s.length<_ then cD (fw (l5 true 30) .text true) 1 s [] else .bad _)=_;grind
 rw[g];intro q D;have af:ik E s (cD (fw (l5 true 30) .text true) 1 s []):=by refine ad.rep b (n:=30) (λi=>G4 b (O2 b 29) .text true i) 1 s [] ⟨by grind,z,(A []).2 c5.nil⟩
 rw[D] at af;exact af
theorem asS{T:H}(h:Kx T):∀q,iA true 30 (de T)≠ .deep q:=by
 have c:∀{x:H},x.getLast?=some 10->de x=x:=λh=>ba h
 have d:∀{x o:H},(o=[]\/o=uO)->∃b,(b=[]\/b=[10]\/b=[92,10])/\de (x++o)=x++b:=λ{x o} a=>by
  rcases a with rfl|rfl
  ·by_cases e:x.getLast?=some 10
   ·grind
   ·exact⟨[10],.inr (.inl rfl),by rw[pZ];exact aM e⟩
  simp_all[uO]
 rcases h with h|⟨t,o,f,aw,a,⟨s,Y,rfl⟩|rfl|⟨g,C,B,P,m,hA,i,k,rfl⟩⟩
 ·by_cases e:T.getLast?=some 10
  ·rw[c e];have:=aee h (.inl rfl);grind
  simp_all[de,aee]
 ·have he:de (uP++s++t++vO++o)=uP++s++t++vO++o:=by
   rcases a with rfl|rfl
   ·simp_all[vO]
   simp_all[uO]
  rw[he];rcases a with rfl|rfl
  ·exact aea (j:=false) f Y rfl
  ·exact aea (j:=true) f Y rfl
 ·have bk:=((O4 3).2 t f).2;rcases a with rfl|rfl
  ·have:de (xb++t++[])=xb++(t++[10]):=by rw[pZ];simp_all[de]
   simp_all[aek]
  simp_all[uO,aek]
 ·obtain⟨b,M,U⟩:=d (x:=g++P++B) a;grind[asI]
theorem Kx.len{T:H}(h:Kx T):T.length<=470000:=by
 rcases h with h|⟨t,o,c,aw,a,h⟩
 ·have:=h.len;omega
 ·have M:o.length<=2:=by rcases a with rfl|rfl<;>decide
  rcases h with⟨s,Y,rfl⟩|rfl|⟨d,C,B,P,m,rfl,e,b,rfl⟩
  ·have:=(by decide:∀s∈tx,s.length<=4) s Y;grind[uP,vO,List.length_cons]
  ·grind[xb,List.length_cons]
  ·have U:=b.len;grind
end Go.Eng
namespace Go.Eng
open Go Go.Proofs
theorem asV(I:H)(a:I.length<=1048576):∃T,Jg I=some T/\T.length<=470000/\∀q,iA true 30 (de T)≠ .deep q:=by obtain⟨T,M,U⟩:=asB I a;exact⟨T,M,U.len,asS U⟩
theorem ael{s:H}(Y:(de s).length<=99999999):∃a:Int,Jh s=some (vE (iA false 30 (de s)),a)/\match iA false 30 (de s) with
  | .ok _ _ _=>a=((de s).length:Int)
  | .more _ _ _=>a=((de s).length:Int)
  | .bad r=>a=ax (de s) r/\r<:+de s
  | .deep _=>a<((de s).length:Int):=by
 have h:=Uu s Y;unfold Jh;cases ah:iA false 30 (de s) with
 |ok a r F=>rw[ah] at h;dsimp only at h;exact⟨_,by rw[h,aS rfl];rfl,rfl⟩
 |more op nd ds=>rw[ah] at h;dsimp only at h;exact⟨_,by rw[h,aS rfl];rfl,rfl⟩
 |bad r=>rw[ah] at h;obtain⟨M,op,h⟩:=h;exact⟨_,by rw[h,aS rfl];rfl,rfl,M⟩
 |deep q=>rw[ah] at h;obtain⟨p,op,h,U⟩:=h;exact⟨_,by rw[h,aS rfl];rfl,U⟩
end Go.Eng
namespace Go.Eng
variable{F ds:ag}{α σ:Type}{f:σ->ab (σ⊕α)}{n:Nat}{r u x:H}{tabs:Bool}
def eB(F:ag):Prop:=∀d∈F,(10:UInt8)∉d.1/\(d.2=true->d.1.head?≠some 9)
theorem eB.nil:eB []:=λd h=>by cases h
abbrev j2(α:Type):=H->ag->dn α->Prop
variable{cB:j2 α}
def aT{α:Type}(cB:j2 α)(f:ab α)(u:H)(F:ag):Prop:=match f u F with
 | .ok _ r ds=>eB ds/\(r=[]->∀w,cB w ds (f (u++w) F))
 | .more _ nd ds=>eB ds/\∀w,cB w ds (f (u++(nd++w)) F)
 |_=>True
def dv{α:Type}(cB:j2 α)(f:ab α):Prop:=∀u F,cx u->u≠[]->eB F->aT cB f u F
def qG{α:Type}(P:H->Prop):j2 α:=λw ds y=>P w->∃a,y= .ok a w ds
theorem G_:∀(x nd:H),b8 nd [] x=(nd++x,[])
 |[],nd=>by simp[b8]
 |b::x,nd=>by
  unfold b8;split
  ·next h=>rw[G_];simp[fl,h]
  ·rw[G_];simp
theorem KA:∀(x nd:H)(ds:ag),b8 nd ds x=(nd++(b8 [] ds x).1,(b8 [] ds x).2)
 |[],nd,ds=>by simp[b8]
 |b::x,nd,ds=>by
  unfold b8;split
  ·rw[G_,G_];simp
  ·rw[KA x _ ds,KA x ([]++[b]) ds];simp
theorem Ed(ds:ag)(x:H):b8 [] ds (10::x)=(10::(fl ds++x),[]):=by simp[b8,G_]
theorem Pf{ds:ag}(h:eB ds):∀(x nd:H),eB (b8 nd ds x).2
 |[],nd=>h
 |b::x,nd=>by
  unfold b8;split
  ·rw[G_];exact eB.nil
  ·exact Pf h x _
def KB{α:Type}(x:H)(y:dn α):dn α:=match y with
 | .more op nd ds=> .more op (b8 nd ds x).1 (b8 nd ds x).2
 |y=>y
def mm{α β:Type}(k:α->ab β)(y:dn α):dn β:=match y with
 | .ok a r F=>k a r F
 | .more op nd ds=> .more op nd ds
 | .bad r=> .bad r
 | .deep r=> .deep r
theorem aT.shift{f g:ab α}{a:ag}(h0:f u F=g r a)(h:∀z,f (u++z) F=g (r++z) a)(bk:aT cB g r a):aT cB f u F:=by grind[aT]
theorem aT.mono{G:j2 α}{f:ab α}(bk:aT cB f u F)(h:∀w ds y,eB ds->cB w ds y->G w ds y):aT G f u F:=by grind[aT]
theorem aT.ok{f:ab α}{a:α}(h:f u F= .ok a r ds)(aB:eB ds)(Z:r≠[]):aT cB f u F:=by grind[aT]
theorem aT.bad{f:ab α}(h:f u F= .bad r):aT cB f u F:=by grind[aT]
theorem aT.deep{f:ab α}(h:f u F= .deep r):aT cB f u F:=by grind[aT]
theorem aT.named{α:Type}{cB:j2 α}{f:ab α}{u n:H}{F:ag}(h:aT cB f u F)(c:∀w ds op nd a,¬cB w ds (.more op nd a)\/cB w ds (.more (n::op) nd a)):aT cB (f.named n) u F:=by
 have b:∀w ds z,cB w ds (f z F)->cB w ds (f.named n z F):=λw ds z h=>by grind[ab.named]
 unfold aT at h⊢;rw[show f.named n u F=(match f u F with| .more op nd ds=> .more _ nd ds|y=>y) from rfl];grind
theorem aT.N{α β:Type}{m:ab α}{k:α->ab β}{x:H}{Fm:j2 α}{cB:j2 β}{u:H}{F:ag}(d:ae m)(hu:cx u)(hm:aT Fm m u F)
  (az:∀a r c,m u F= .ok a r c->cx r->r≠[]->eB c->aT cB (k a) r c)
  (h0:∀a c,m u F= .ok a [] c->(∃op,k a [] c= .more op (b8 [] c x).1 (b8 [] c x).2)\/x=[]/\∃b,k a [] c= .ok b [] c)
  (M:∀ds w y,eB ds->Fm ((b8 [] ds x).1++w) ds y->cB w (b8 [] ds x).2 (mm k (KB x y))):aT cB (Eng.N (m.aG x) k) u F:=by
 have e:∀z,Eng.N (m.aG x) k z F=mm k (KB x _):=λz=>rfl
 cases Z:m u F with
 |ok a r c=>
  unfold aT at hm;rw[Z] at hm;by_cases af:r=[]
  ·subst af;have U:Eng.N (m.aG x) k u F=k a [] c:=by rw[e,Z];rfl
   unfold aT;rw[U];rcases h0 a c Z with⟨op,f⟩|⟨g,b,f⟩
   ·simp_all[Pf]
   ·subst g;rw[f];exact⟨hm.1,λ_ w=>by exact M _ _ _ hm.1 (hm.2 rfl _)⟩
  ·refine aT.shift (by rw[e,Z];rfl) (λz=>?_) (az a r c Z (hu.sfx (d.sfx Z)) af hm.1);rw[e,d.ok z hu Z af];rfl
 |more op nd ds=>
  unfold aT at hm⊢;rw[e];rw[Z] at hm⊢;show eB _/\∀w,cB w _ _
  grind[KA,Pf]
 |bad r=>exact aT.bad (by rw[e,Z];rfl)
 |deep r=>exact aT.deep (by rw[e,Z];rfl)
theorem aT.z_{β:Type}{m:ab α}{k:α->ab β}{Fm:j2 α}{cB:j2 β}(d:ae m)(hu:cx u)(hm:aT Fm m u F)
  (az:∀a r c,m u F= .ok a r c->cx r->r≠[]->eB c->aT cB (k a) r c)
  (h0:∀a c,m u F= .ok a [] c->(∃op,k a [] c= .more op [] c)\/∃b,k a [] c= .ok b [] c)
  (M:∀ds w y,eB ds->Fm w ds y->cB w ds (mm k y)):aT cB (Eng.N m k) u F:=by
 have:=aT.N d hu hm az (λa c h=>(h0 a c h).imp id λh=>⟨rfl,h⟩) (λds w y aB h=>by cases y<;>exact M _ _ _ aB h);grind[Ug]
theorem Ha:∀(n:Nat)(u z:H),u.length<=n->cx u->bg u=none->z≠[]->bg (u++z)=bg z
 |n,[],z,_,_,h,_=>by simp
 |0,b::t,z,af,_,_,_=>by grind
 |n+1,b::t,z,af,hu,h,a=>by
  simp only[nB] at af;rw[m0] at h;rw[jI,m0];split at h
  ·next c=>rw[ba c];exact Ha n t z (by omega) hu.tail h a
  ·next c=>
   rw[aM c];split at h
   ·next d=>
    subst d;have e:=hu.ne (by decide);rw[Tj z hu.tail e];exact Ha n _ z (by grind[zv]) (hu.tail.sfx (Dm t)) h a
   ·next d=>
    rw[aM d];split at h
    ·next f=>
     rw[ba f];split at h
     ·next v=>
      simp;split at h
      ·grind
      ·rw[aM (by simp[a])];exact Ha n v z (by grind) hu.tail.tail h a
     grind
    grind
theorem aT.c4{k:Tok->ab α}(hu:cx u)(af:u≠[])(b:eB F)
  (az:∀r,r≠[]->cx r->bg r=some r->aT cB (k (ar r)) r F)
  (M:∀w,(b8 [] F x).1++w≠[]->cB w (b8 [] F x).2 (Eng.N (bN x) k ((b8 [] F x).1++w) F))
  (U:∀w y,(b8 [] F x).1++w=[]->cB w (b8 [] F x).2 y):aT cB (Eng.N (bN x) k) u F:=by
 cases Y:bg u with
 |none=>
  unfold aT;rw[dx (jC Y)];refine⟨Pf b _ _,λw=>?_⟩;by_cases h:(b8 [] F x).1++w=[]
  ·grind
  ·have:Eng.N (bN x) k (u++((b8 [] F x).1++w)) F=Eng.N (bN x) k ((b8 [] F x).1++w) F:=by show mm k _=mm k _;unfold bN;rw[Ha _ u _ (cS _) hu Y h];rfl
   grind
 |some r=>obtain⟨Z,_⟩:=ui [] Y hu af;have a:=hu.sfx (eV Y);refine aT.shift (aJ (bL Y)) (λz=>?_) (az r Z a (lz _ _ _ (cS _) Y));rw[aJ (bL (ui z Y hu af).2),Jk z a Z]
theorem aT.BR{k:Tok->ab α}(hu:cx u)(af:u≠[])(Y:bg u=some u)(h:aT cB (k (ar u)) u F):aT cB (Eng.N (bN x) k) u F:=
 aT.shift (aJ (bL Y)) (λz=>by rw[aJ (bL (ui z Y hu af).2),Jk z hu af]) h
theorem aT.ret{a:α}(af:u≠[])(aB:eB F):aT cB (aU a) u F:=aT.ok rfl aB af
def qH{σ α:Type}(f:σ->ab (σ⊕α))(y:dn (σ⊕α)):dn α:=match y with
 | .ok (.inl s') r' b=>cD f s' r' b
 | .ok (.inr a) r' b=> .ok a r' b
 | .more op nd ds=> .more op nd ds
 | .bad r=> .bad r
 | .deep r=> .deep r
theorem rq(hf:fP f)(s:σ)(r:H)(F:ag):cD f s r F=qH f (f s r F):=by
 rw[vw];cases h:f s r F with
 |ok x an b=>
  cases x with
  |inl s'=>exact ba (hf.lt h)
  |inr a=>rfl
 |_=>rfl
theorem aT.rep{g:j2 (σ⊕α)}(c_:H->Prop)(hf:fP f)(aq:∀s u F,cx u->u≠[]->c_ u->eB F->aT g (f s) u F)
  (i:∀s u F s' r c,cx u->f s u F= .ok (.inl s') r c->r≠[]->c_ r)
  (M:∀ds w y,eB ds->g w ds y->cB w ds (qH f y))
  (h0:∀s u F s' c,cx u->u≠[]->f s u F= .ok (.inl s') [] c->(∃op,cD f s' [] c= .more op [] c)\/∃b,cD f s' [] c= .ok b [] c):
  ∀(n:Nat)(s:σ)(u:H)(F:ag),u.length<=n->cx u->u≠[]->c_ u->eB F->aT cB (cD f s) u F:=by
 intro n;induction n with
 |zero=>grind
 |succ n j=>
  intro s u F af hu bj bh ah;have hm:=aq s u F hu bj bh ah;cases Z:f s u F with
  |ok x r ds=>
   unfold aT at hm;rw[Z] at hm;cases x with
   |inr a=>unfold aT;rw[rq hf,Z];exact⟨hm.1,λe w=>by grind[rq]⟩
   |inl s'=>
    by_cases d:r=[]
    ·subst d;unfold aT;rw[rq hf,Z];show(match cD f s' [] ds with| .ok _ r ds=>_| .more _ nd ds=>_|_=>True);rcases h0 s u F s' ds hu bj Z with⟨op,h⟩|⟨b,h⟩
     ·simp_all[rq]
     simp_all[rq]
    ·have aw:=hf.lt Z;refine aT.shift (by rw[rq hf,Z];rfl) (λz=>?_) (j s' r ds (by omega) (hu.sfx ((hf.ex s).sfx Z)) d (i _ _ _ _ _ _ hu Z d) hm.1);rw[rq hf,(hf.ex s).ok z hu Z d];rfl
  |more op nd ds=>unfold aT at hm⊢;rw[rq hf];rw[Z] at hm⊢;exact⟨hm.1,λw=>by grind[rq]⟩
  |bad r=>exact aT.bad (by rw[rq hf,Z];rfl)
  |deep r=>exact aT.deep (by rw[rq hf,Z];rfl)
theorem dv.rep{σ α:Type}{f:σ->ab (σ⊕α)}{c:j2 (σ⊕α)}{cB:j2 α}(hf:fP f)(aq:∀s,dv c (f s))
  (M:∀ds w y,eB ds->c w ds y->cB w ds (qH f y))
  (h0:∀s u F s' a,cx u->u≠[]->f s u F= .ok (.inl s') [] a->(∃op,cD f s' [] a= .more op [] a)\/∃b,cD f s' [] a= .ok b [] a) (s:σ):dv cB (cD f s):=
 λu F hu af ah=>aT.rep _ hf (λs u F hu af _ ah=>aq s u F hu af ah) (λ_ _ _ _ _ _ _ _ _=>trivial) M h0 _ s u F (cS _) hu af trivial ah
theorem aT.cM{k:Unit->ab α}(af:r.drop n≠[])(h:aT cB (k ()) (r.drop n) F):aT cB (Eng.N (bV n) k) r F:=
 aT.shift (g:=k ()) rfl (λz=>by
  have:n<=r.length:=by grind[List.drop_eq_nil_of_le]
  show k () _ F=_;grind) h
theorem aem:∀(d z:H),(10:UInt8)∉d->hK (d++10::z)=(d,z)
 |[],z,_=>by rfl
 |b::d,z,h=>by simp_all[hK,Ne.symm,aem]
theorem asW{d:H}(h:d.head?≠some 9):d.dropWhile (· ==9)=d:=by
 cases d with
 |nil=>rfl
 |cons b d=>simp_all
theorem aen{d:H}(M:(10:UInt8)∉d)(U:tabs=true->d.head?≠some 9)(z:H):∀(n:Nat)(t:H),t.length<=n->cx t->kf d tabs t=none->kf d tabs (t++(d++10::z))=some z:=by
 have h0:kf d tabs (d++10::z)=some z:=by
  have e:∃b t,d++10::z=b::t:=by cases d<;>exact⟨_,_,rfl⟩
  obtain⟨b,t,e⟩:=e;have f:=aem d z M;simp_all[xP,asW]
 intro n;induction n with
 |zero=>grind
 |succ n c=>
  intro t af a h;cases t with
  |nil=>exact h0
  |cons b t=>
   have e:=Nk (d++10::z) a (by simp);have aw:=Ji (b::t) (by simp);rw[xP] at h;rw[jI] at e⊢;rw[xP,e];by_cases bj:(if tabs then(hK (b::t)).1.dropWhile (· ==9) else(hK (b::t)).1)=d
   ·grind
   ·rw[aM bj] at h⊢;exact c _ (by omega) (a.sfx (Tk _)) h
theorem Wa:∀{ds:ag}(w:H),eB ds->kg ds (fl ds++w)= .inl w
 |[],w,_=>rfl
 |d::ds,w,h=>by have M:=h d (by simp);have:=aen M.1 M.2 (fl ds++w) 0 [] (cS _) (.inl rfl) (by rw[kf]);rw[ps] at this;rw[kg,fl,show d.1++10::fl ds++w=d.1++10::(fl ds++w) by simp,this];exact Wa w λe he=>h e (by simp[he])
end Go.Eng
