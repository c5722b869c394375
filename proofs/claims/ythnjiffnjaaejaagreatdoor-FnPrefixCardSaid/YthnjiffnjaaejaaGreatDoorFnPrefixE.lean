/- Part 5 of what FnPrefix needs. No condition. -/
import Derived.Test.YthnjiffnjaaejaaGreatDoorFnPrefixD
set_option linter.all false
namespace Go.Eng
open Go Go.Proofs
theorem My{β:Type}{m:Nat}{c:Ctx}{no:Bool}{kw x:aa}{K:ak β}(aG:c≠ .text)(g:∀t,dR c t=cE t kw)(d:kw≠[]/\kw.all gm=true){r:aa}{pd:aq}(h:du r):
  ae (((aZ true m).ls c no).aM x) (λ_=>ae (cV kw) (λ_=>K)) r pd=ae (ae (((aZ true m).ls c no).aM x) (λ_=>sw)) (λ_=>K) r pd:=by
 rw[kn];cases hm:(((aZ true m).ls c no).aM x) r pd with
 |ok a r1 e=>
  rw[aY hm,aY hm];have b:=jv.1 hm;have i:=((pC true m).ls c no).sfx b;obtain⟨ao,e2⟩:=Ap true m;rw[e2] at b;obtain⟨j,k⟩:=yC aG b;rw[g] at k;have f:au r1= .word kw true:=by grind[cE]
  have aC:=(ry (h.h4 i) d.1 d.2).2 f;rw[aY (Fx j f)];have:sw r1 e= .ok kw (r1.drop kw.length) e:=by grind[sw]
  grind[aY]
 |more op nd ds=>grind[dc]
 |bad q=>grind[gY]
 |deep q=>grind[jM]
theorem SK{m:Nat}{c:Ctx}{no:Bool}{kw x:aa}(aG:c≠ .text)(a:∀t,dR c t=cE t kw)(b:kw≠[]/\kw.all gm=true){r:aa}{pd:aq}(d:du r):
  ae (((aZ true m).ls c no).aM x) (λ_=>cV kw) r pd=ae (ae (((aZ true m).ls c no).aM x) (λ_=>sw)) (λ_=>aU ()) r pd:=by
 have ad:(λ_:Nat=>cV kw)=λ_=>ae (cV kw) (λ_=>aU ()):=by grind[E5]
 simp_all[My]
section
variable{R:bh}{n:Nat}(bk:oo R n){e:cd}(bd:e.ne=30- (n:Int))
include bk bd
theorem CH{c:Ctx}{x:aa}(aG:jt c=[119])(u:c≠ .text)(v:∀t,dR c t=true->∃w,t= .word w true/\w≠[]/\w.all gm=true)(M:x.length<=100){r:aa}{pd:aq}{st:ah}(h:cB e r pd)(y:fW e r pd st):
  bM false e r (ae (((aZ true n).ls c false).aM x) (λ_=>sw) r pd) (λb=>b.2) (λa r' b=>b.1=a/\a≠[]/\dR c (.word a true)=true/\r'≠[]) (pw R st (oR c) x):=by
 unfold pw;obtain⟨⟨z,A⟩,j,d⟩:=bk.im e c false (by cases c<;>first|rfl|grind[jt]) bd r pd st h y;dsimp only at d;rw[aG] at j;have B:R.nE st [119] (oR c) true=some (z,A):=j;rw[B,aO rfl];dsimp only;have k:=(tm true n).ls c false r pd;have C:=h.nl.h4 h.sfx;cases hm:(aZ true n).ls c false r pd with
 |ok a r1 g=>
  rw[hm] at d;obtain⟨l,a2,a3,_⟩:=d;have f:(((aZ true n).ls c false).aM x) r pd= .ok a r1 g:=jv.2 hm;rw[aY f];obtain⟨ao,e2⟩:=Ap true n;rw[e2] at hm;obtain⟨N,D⟩:=yC u hm;obtain⟨w,E,m,F⟩:=v _ D;have aC:=(ry (C.h4 l) m F).2 E;have h0:=a3.eta.2.2.2.2.1;rw[h0];simp only[bx,gP,aS];obtain⟨tr,G,_⟩:=a3;rw[G,vN a2,aO rfl,aC];have H:sw r1 g= .ok w (r1.drop w.length) g:=by grind[sw]
  rw[H];have o:=ama r1;rw[aC] at o;have i:=SJ (r:=r1) (by grind);rw[aC] at i;obtain⟨q,rfl⟩:=o;rw[o0] at i⊢;have p:q<:+w++q:=gQ w q;have I:W (ay e.S (w++q)+(w.length:Int))=ay e.S q:=ko h.bY a2.sfx;refine⟨(w,e.st q g tr),?_,p.trans l,a2.mono p,⟨tr,rfl,λJ=>absurd J i⟩,rfl,m,?_,i⟩
  ·show some (w,(e.S,W (ay e.S (w++q)+(w.length:Int)),e.ne,g,(0:Int),(0:Int),([]:aa),([]:bs),tr))=_;rw[I];rfl
  grind
 |more op nd ds=>
  rw[hm] at d k;simp only[dZ] at k;have O:=h.jJ;have s:=d.z;have f:(((aZ true n).ls c false).aM x) r pd= .more op (cO nd ds x).1 (cO nd ds x).2:=by grind[ak.aM]
  rw[dc f,s.1];simp only[show¬((1:Int)=0) by decide,bF,e3,aK];obtain⟨P,K,L⟩:=xb (e:=e) (nm:=[]) (x:=x) (r1:=r) (r0:=r) (nd:=nd) (ds:=ds) s fK h.sfx (.inl rfl) (by omega) h.bY (by omega);rw[K,aO rfl];exact⟨_,rfl,L.s⟩
 |bad q=>
  rw[hm] at d;have f:(((aZ true n).ls c false).aM x) r pd= .bad q:=by grind[ak.aM]
  rw[gY f,d.1];simp only[show¬((2:Int)=0) by decide,bF,e3,aK];rw[pG (by rw[d.1];decide),aO rfl];exact⟨_,rfl,d⟩
 |deep q=>
  rw[hm] at d;have f:(((aZ true n).ls c false).aM x) r pd= .deep q:=by grind[ak.aM]
  rw[jM f,d.1];simp only[show¬((2:Int)=0) by decide,bF,e3,aK];rw[pG (by rw[d.1];decide),aO rfl];exact⟨_,rfl,d⟩
end
theorem ZB(t:Tok):dR .rl t=cE t iQ:=rfl
theorem ZC(t:Tok):dR .qL t=cE t [125]:=rfl
theorem ZD(t:Tok):dR .ke t=cE t e8:=rfl
theorem ZE(t:Tok):dR .py t=cE t gN:=rfl
theorem Mz(t:Tok):dR .done t=cE t iH:=rfl
theorem Fz{t:Tok}{w:aa}(h:cE t w=true):t= .word w true:=by grind[cE]
theorem FA{c:Ctx}{kw:aa}(h:∀t,dR c t=cE t kw)(a:kw≠[]/\kw.all gm=true):∀t,dR c t=true->∃w,t= .word w true/\w≠[]/\w.all gm=true:=by grind[Fz]
theorem IM{b:UInt8}{t:aa}:(b=10/\au (b::t)= .line)\/(b≠10/\br (b::t)≠[]/\au (b::t)= .op (br (b::t)))\/(b≠10/\br (b::t)=[]/\au (b::t)= .word (c4 (b::t)).1 (c4 (b::t)).2):=by rw[CC];grind
section
variable{R:bh}{n:Nat}(hD:kp R n){e:cd}(bd:e.ne=30- (n:Int))
include hD bd
theorem amb{r:aa}{pd:aq}{st:ah}(h:cB e r pd)(J:fW e r pd st):bM false e r (pz (a_ true n) r pd) (λst=>st) (λ_ _ _=>True) (Eo R st):=by
 unfold pz Eo a9;refine bM.rep (en:=λ_ r pd x=>fW e r pd x) (λk s r pd x y z K hk=>?_) bC () r pd _ (vM h) h J
 have E:∀x:ah,x.2.2.2.2.1≠0->k x=some x:=by intro x z;obtain⟨k',ad⟩:=K x;simp_all[Lb]
 have he:=z.eta;unfold Lb;dsimp only;rw[he.2.2.2.2.1,he.2.2.2.1,he.2.2.2.2.2.2.2];simp only[bx,aK];have A:(x.1,x.2.1,x.2.2.1,pd,(0:Int),x.2.2.2.2.2.1,x.2.2.2.2.2.2.1,([]:bs),x.2.2.2.2.2.2.2.2)=x:=by grind
 rw[A];rcases xa y z with⟨d,eB,B,C,L,f,l,M⟩|⟨B,C⟩
 ·rw[C,aO rfl,aY (cA B)];obtain⟨c,rfl,N⟩:=L;have D:gq ((e.st d pd c).1,(e.st d pd c).2.1,(e.st d pd c).2.2.1,pd,(e.st d pd c).2.2.2.2.1,(e.st d pd c).2.2.2.2.2.1,(e.st d pd c).2.2.2.2.2.2.1,[],(e.st d pd c).2.2.2.2.2.2.2.2)=some (decide (d=[])):=qj e d pd c;have O:ia ((e.st d pd c).1,(e.st d pd c).2.1,(e.st d pd c).2.2.1,pd,(e.st d pd c).2.2.2.2.1,(e.st d pd c).2.2.2.2.2.1,(e.st d pd c).2.2.2.2.2.2.1,[],(e.st d pd c).2.2.2.2.2.2.2.2)=some (d.headD 0):=Fu f;have P:hr ((e.st d pd c).1,(e.st d pd c).2.1,(e.st d pd c).2.2.1,pd,(e.st d pd c).2.2.2.2.1,(e.st d pd c).2.2.2.2.2.1,(e.st d pd c).2.2.2.2.2.2.1,[],(e.st d pd c).2.2.2.2.2.2.2.2)=some (br d):=rz f;rw[D,aO rfl];cases d with
  |nil=>simp only[bx,aK];obtain⟨g,j,m⟩:=uF (tr:=c) (x:=[]) f (by simp);have o:g3 ((e.st [] pd c).1,(e.st [] pd c).2.1,(e.st [] pd c).2.2.1,pd,(e.st [] pd c).2.2.2.2.1,(e.st [] pd c).2.2.2.2.2.1,(e.st [] pd c).2.2.2.2.2.2.1,[],(e.st [] pd c).2.2.2.2.2.2.2.2) []=some g:=j;rw[o,aO rfl];exact⟨g,rfl,(m.mono l).s⟩
  |cons b t=>
   simp only[reduceCtorEq,bF,aS];rw[O,aO rfl,P];simp only[y7,pD,nY];rcases IM (b:=b) (t:=t) with⟨p,u⟩|⟨p,u,w⟩|⟨p,u,w⟩
   ·subst p;rw[u];simp only[bx,aK];exact⟨_,rfl,l,f,⟨c,rfl,N⟩,trivial⟩
   ·rw[w];simp only[p,bF,aS];by_cases F:br (b::t)=[59]
    ·simp only[F,bx,aK,cG];have Q:au (b::t)= .op [59]:=by grind
     obtain⟨q,aE⟩:=(ic Q).2.1;have S:b=59/\t=q:=by grind
     obtain⟨rfl,rfl⟩:=S;have G:t<:+59::t:=eb 59 t;have T:W (ay e.S (59::t)+1)=ay e.S t:=iK y.bY f.sfx;refine⟨e.st t pd c,?_,G.trans l,f.mono G,⟨c,rfl,λU=>absurd U (f.yJ (by decide))⟩,trivial⟩;show some (e.S,W (ay e.S (59::t)+1),e.ne,pd,(0:Int),(0:Int),([]:aa),([]:bs),c)=_;rw[T];rfl
    ·simp only[F,u,bF,e3,aK,aS,cm];obtain⟨g,j,m⟩:=pI (tr:=c) ((e.st (b::t) pd c).2.1) f l;have o:hg ((e.st (b::t) pd c).1,(e.st (b::t) pd c).2.1,(e.st (b::t) pd c).2.2.1,pd,(e.st (b::t) pd c).2.2.2.2.1,(e.st (b::t) pd c).2.2.2.2.2.1,(e.st (b::t) pd c).2.2.2.2.2.2.1,[],(e.st (b::t) pd c).2.2.2.2.2.2.2.2) (e.st (b::t) pd c).2.1=some g:=j;rw[o,aO rfl];exact⟨_,rfl,by cases j;exact m⟩
   ·rw[w];simp only[p,u,bF,bx,gP,aS,reduceCtorEq];have V:=Fq hD bd (tr0:=c) f;have X:c1 (b::t)=false:=(yG M w).2;refine bM.iy c2.k (V.mono l) (λa H Y i Z jr eT yO _=>?_) (λop nd ds i _ v=>?_) (λi v=>?_)
    ·have hl:=vx (l4 true n) (by simp) X Z;have I:H.length<r.length:=by grind
     exact bM.inl I (hk () H Y i.2.2 jr eT I yO)
    ·exact⟨i.2.2,E i.2.2 (by rw[v.z.1];decide),v⟩
    ·exact⟨i.2.2,E i.2.2 (by rw[v.1];decide),v⟩
 ·rw[C,aO rfl,dc (op:=[]) (nd:=[]) (ds:=pd) (by rw[iw B];rfl)];have D:gq ((e.tt pd).1,(e.tt pd).2.1,(e.tt pd).2.2.1,pd,(e.tt pd).2.2.2.2.1,(e.tt pd).2.2.2.2.2.1,(e.tt pd).2.2.2.2.2.2.1,[],(e.tt pd).2.2.2.2.2.2.2.2)=some true:=oS e pd;rw[D,aO rfl];simp only[aK];obtain⟨g,j,m⟩:=CG (x:=[]) y.Au (by simp);have o:g3 ((e.tt pd).1,(e.tt pd).2.1,(e.tt pd).2.2.1,pd,(e.tt pd).2.2.2.2.1,(e.tt pd).2.2.2.2.2.1,(e.tt pd).2.2.2.2.2.2.1,[],(e.tt pd).2.2.2.2.2.2.2.2) []=some g:=j;rw[o,aO rfl];exact⟨g,rfl,(m.mono ov).s⟩
end
theorem IN{α β:Type}(a:ak α)(k:α->ak β)(x:aa):(ae a k).aM x=ae (a.aM x) (λv=>(k v).aM x):=by grind[ak.aM,ae]
theorem ZF{α:Type}{p:Prop}[Decidable p](a b:ak α)(x:aa):(if p then a else b).aM x=if p then a.aM x else b.aM x:=by grind
theorem SL{α:Type}(a:α)(x:aa):(aU a).aM x=aU a:=rfl
theorem ZG(k:Nat)(x:aa):(bZ k).aM x=bZ k:=rfl
theorem IP{α β:Type}(a:α)(k:α->ak β):ae (aU a) k=k a:=rfl
theorem ZH{D:ak Unit}:∀(r w:aa)(pd:aq),c4 r=(w,true)->r.drop w.length≠[]->cP D r pd= .ok () (r.drop w.length) pd
 |[],w,pd,h,ax=>by simp[c4] at h;subst h;exact absurd rfl ax
 |b::t,w,pd,h,ax=>by
  by_cases c:c1 (b::t)=true
  ·have:w=[]:=by unfold c4 at h;rw[bm c] at h;cases h;rfl
   subst this;unfold cP;rw[cF];simp[c,cN]
  ·have d:c1 (b::t)=false:=by simpa using c
   have a:¬(b=92\/b=39\/b=34\/b=96\/ga (b::t)=true):=by intro e;rw[SD d e] at h;cases h
   have h0:c4 (b::t)=(match c4 t with|(w,true)=>(b::w,true)|(_,false)=>([],false)):=by
    rw[c4,d,aW (by simp),aW a];cases c4 t with
    |mk w p=>cases p<;>rfl
   rw[h0] at h;cases aC:c4 t with
   |mk f p=>
    rw[aC] at h;cases p with
    |false=>cases h
    |true=>
     simp only at h;cases h;simp only[mi,F5] at ax⊢;simp only[F9,Bool.not_eq_true] at a;have g:cC D (some (eH D)) (b::t) pd= .ok () t pd:=by unfold cC;simp only;rw[aW a.1,aW a.2.2.2.1,a.2.2.2.2,aW (by simp)];simp[a.2.1,a.2.2.1]
     rw[Ck d g (by simp)];exact ZH t f pd aC ax
noncomputable def Aw(R:bh):ah->Option ah:=λx=>
 (bif(!(decide (x.2.2.2.2.1=0))) then(av (gr x ([]) ([10,100,111,32,120,10,100,111,110,101]:aa)) λ(a:ah)=>some a) else(av (pw R (x.1,(W (x.2.1+2)),x.2.2.1,x.2.2.2.1,x.2.2.2.2.1,x.2.2.2.2.2.1,x.2.2.2.2.2.2.1,x.2.2.2.2.2.2.2.1,x.2.2.2.2.2.2.2.2) ([([100,111,110,101]:aa)]:bs) ([10,100,111,110,101]:aa)) λ(c,b)=>some b))
noncomputable def Ax(R:bh):ah->Option ah:=λa=>
 (cR ((decide (a.2.2.2.2.1=0))=true) (gq a) false λ(c:Bool)=>(cR ((bif(decide (a.2.2.2.2.1=0)) then(!c) else false)=true) (lA a) [] λ(d:aa)=>(bif(bif(bif(decide (a.2.2.2.2.1=0)) then(!c) else false) then(!(decide (d=([100,111]:aa)))) else false) then(av (hg a a.2.1) λ(b:ah)=>some (b.1,b.2.1,b.2.2.1,a.2.2.2.1,b.2.2.2.2.1,b.2.2.2.2.2.1,b.2.2.2.2.2.2.1,a.2.2.2.2.2.2.2.1,b.2.2.2.2.2.2.2.2)) else(cR ((decide (a.2.2.2.2.1=0))=true) (gq a) false λ(e:Bool)=>(bif(bif(decide (a.2.2.2.2.1=0)) then e else false) then(av (g3 a ([])) λ(f:ah)=>Aw R f) else Aw R a)))))
noncomputable def xk(R:bh):ah->Option ah:=λx=>
 (bif(!(decide (x.2.2.2.2.1=0))) then(av (gr x ([]) ([10,100,111,32,120,10,100,111,110,101]:aa)) λ(a:ah)=>some a) else(av (oa x) λ(b:ah)=>Ax R b))
theorem MB:([10,100,111,32,120,10,100,111,110,101]:aa)=eh:=rfl
theorem vQ:(gN:aa)≠[]/\gN.all gm=true:=by decide
theorem FB:(iH:aa)≠[]/\iH.all gm=true:=by decide
theorem Ay:(fl:aa)≠[]/\fl.all gm=true:=by decide
section
variable{R:bh}{n:Nat}(bk:oo R n){e:cd}(bd:e.ne=30- (n:Int))
theorem ZI{r:aa}{nd:aa}{ds:aq}{st:ah}{d:aq}(h0:cB e r d)(hm:iz true e r nd ds st)(f:nd.length+ei ds<=100*e.S.length+500):∃a,Ax R st=some a/\iz false e r (cO nd ds eh).1 (cO nd ds eh).2 a:=by
 have j:eh.length=10:=rfl;rcases hm with ad|⟨_,rfl,rfl⟩
 ·obtain⟨a,b,c⟩:=xb (e:=e) (nm:=[]) (x:=eh) (r1:=r) (r0:=r) (nd:=nd) (ds:=ds) ad fK h0.sfx (.inl rfl) (by omega) h0.bY (by omega);unfold Ax;rw[ad.1];simp only[show¬((1:Int)=0) by decide,bF,cR,eC,cm,aS];unfold Aw;rw[ad.1];simp only[show¬((1:Int)=0) by decide,bF,e3,aK];rw[MB,b,aO rfl];exact⟨a,rfl,c.s⟩
 ·simp only[C3,Nat.zero_add] at f;have g:(e.tt ds).2.2.2.2.1=0:=rfl;unfold Ax;rw[g,oS,fV];have k:=tn ds;have h:g3 (e.tt ds) []=some (e.S,(e.S.length:Int),e.ne,ds,1,0,[],[],true):=by unfold g3 a9 cd.tt;simp only[bx,aK];have:=h0.bY;rw[CB _ _ _ _ _ _ _ _ _ _ (by simp) (by grind) (by omega),aO rfl];rfl
  have i:nX e r [] ds (e.S,(e.S.length:Int),e.ne,ds,1,0,[],[],true):=by
   refine⟨rfl,rfl,rfl,⟨rfl,?_,?_,?_,?_⟩,?_⟩
   ·grind[ay]
   ·grind
   ·grind
   ·simp
   simp
  simp only[bx,cG,gP,aK,aS,cR,eC,cm,nY];rw[h,aO rfl];obtain⟨a,b,c⟩:=xb (e:=e) (nm:=[]) (x:=eh) (r1:=r) (r0:=r) (nd:=[]) (ds:=ds) i fK h0.sfx (.inl rfl) (by grind) h0.bY (by omega);unfold Aw;simp only[show¬((1:Int)=0) by decide,bF,e3,aK];rw[MB,b,aO rfl];exact⟨a,rfl,c.s⟩
theorem SM{r:aa}{nd:aa}{ds:aq}{st:ah}{b:aq}(h0:cB e r b)(hm:iz true e r nd ds st)(c:nd.length+ei ds<=100*e.S.length+500):∃a,xk R st=some a/\iz false e r (cO nd ds eh).1 (cO nd ds eh).2 a:=by
 have i:eh.length=10:=rfl;rcases hm with ad|⟨d,rfl,rfl⟩
 ·obtain⟨a,f,g⟩:=xb (e:=e) (nm:=[]) (x:=eh) (r1:=r) (r0:=r) (nd:=nd) (ds:=ds) ad fK h0.sfx (.inl rfl) (by omega) h0.bY (by omega);unfold xk;rw[ad.1,MB];simp only[show¬((1:Int)=0) by decide,bF,e3,aK];rw[f,aO rfl];exact⟨a,rfl,g.s⟩
 ·have h:(e.tt ds).2.2.2.2.1=0:=rfl;unfold xk;rw[h];simp only[bx,gP,aS];rw[Zz,aO rfl];exact ZI h0 (.inr ⟨d,rfl,rfl⟩) c
theorem ZJ{r:aa}{st:ah}(hm:iL e r st):∃a,Ax R st=some a/\iL e r a:=by unfold Ax;rw[hm.1];simp only[show¬((2:Int)=0) by decide,bF,cR,eC,cm,aS];unfold Aw;rw[hm.1];simp only[show¬((2:Int)=0) by decide,bF,e3,aK];rw[pG (by rw[hm.1];decide),aO rfl];grind
theorem SN{r:aa}{st:ah}(hm:iL e r st):∃a,xk R st=some a/\iL e r a:=by unfold xk;rw[hm.1];simp only[show¬((2:Int)=0) by decide,bF,e3,aK];rw[pG (by rw[hm.1];decide),aO rfl];grind
include bk bd
theorem amd{r r0:aa}{pd:aq}{tr:Bool}(h:cB e r pd)(h0:r<:+r0)(i:bu r=some r)(d:au r= .word gN true):bM false e r0 (iI (aZ true n) eh r pd) (λst=>st) (λ_ _ _=>True) (Aw R (e.st r pd tr)):=by
 unfold iI Aw;have j:(e.st r pd tr).2.2.2.2.1=0:=rfl;rw[j];simp only[bx,gP,aS];rw[aY (jv.2 (Fx i d))];obtain⟨q,rfl⟩:=(qd d).1;rw[o0];have f:q<:+gN++q:=gQ gN q;have k:W (ay e.S (gN++q)+2)=ay e.S q:=ko (w:=gN) h.bY h.sfx;have l:q≠[]:=by have:=SJ (r:=gN++q);rw[(ry (h.nl.h4 h.sfx) vQ.1 vQ.2).2 d] at this;grind[vQ]
 have g:=h.mono f;have m:((e.st (gN++q) pd tr).1,W ((e.st (gN++q) pd tr).2.1+2),(e.st (gN++q) pd tr).2.2.1,(e.st (gN++q) pd tr).2.2.2.1,(0:Int),(e.st (gN++q) pd tr).2.2.2.2.2.1,(e.st (gN++q) pd tr).2.2.2.2.2.2.1,(e.st (gN++q) pd tr).2.2.2.2.2.2.2.1,(e.st (gN++q) pd tr).2.2.2.2.2.2.2.2)=e.st q pd tr:=by show(e.S,W (ay e.S (gN++q)+2),e.ne,pd,(0:Int),(0:Int),([]:aa),([]:bs),tr)=_;rw[k];rfl
 rw[m,SK (by simp) Mz FB (h.nl.h4 g.sfx)];refine bM.iy (C:=λx=>x) c2.id ((CH bk bd (c:= .done) rfl (by simp) (FA Mz FB) (by decide) g ⟨tr,rfl,λo=>absurd o l⟩).mono (f.trans h0)) (λa r1 t b u s1 p s _=>?_) (λop nd ds b _ v=>?_) (λb y=>?_)
 ·exact⟨b.2,rfl,s1,p,s,trivial⟩
 ·grind
 grind
theorem ame{r r0:aa}{pd:aq}{st:ah}(h:cB e r pd)(i:fW e r pd st)(h0:r<:+r0)(j:r0<:+e.S)(k:bu r=some r):bM false e r0 (iI (aZ true n) eh r pd) (λst=>st) (λ_ _ _=>True) (Ax R st):=by
 obtain⟨tr,rfl,t⟩:=i;unfold Ax;have l:(e.st r pd tr).2.2.2.2.1=0:=rfl;rw[l,qj,fV,vN h,fV];by_cases c:r=[]
 ·subst c;simp only[bx,cG,gP,aK,aS,cR,eC,cm,nY];obtain⟨m,a,b⟩:=uF (tr:=tr) (x:=[]) h (by simp);rw[a,aO rfl];have d:iI (aZ true n) eh [] pd= .more [] (cO [] pd eh).1 (cO [] pd eh).2:=by unfold iI;refine dc ?_;unfold ak.aM cV m2;rw[aY (cA l2)];rfl
  rw[d];have u:=tn pd;have aC:=h.jJ;simp only[C3] at aC;obtain⟨o,p,q⟩:=xb (e:=e) (nm:=[]) (x:=eh) (r1:=[]) (r0:=r0) (nd:=[]) (ds:=pd) b h0 j (.inl rfl) (by simp only[C3];have:eh.length=10:=rfl;omega) h.bY (by decide);unfold Aw;rw[b.1];simp only[show¬((1:Int)=0) by decide,bF,e3,aK];rw[MB,p,aO rfl];exact⟨o,rfl,q.s⟩
 ·simp only[c,bF,bx,e3,aK,cG];have g:=h.nl.h4 h.sfx;by_cases aH:iU r=[100,111]
  ·have s:=(ry g vQ.1 vQ.2).1 aH;simp only[aH,bx,gP,aS];simp_all[fV,amd]
  ·simp only[aH,bF,e3,aK];have s:au r≠ .word gN true:=λf=>aH ((ry g vQ.1 vQ.2).2 f);have d:iI (aZ true n) eh r pd= .bad r:=by unfold iI;refine gY ?_;unfold ak.aM cV m2;rw[aY (cA k)];have ad:au r≠ .eof:=λf=>c (lQ.1 f);rw[aW ad,aW (by grind[Fz])];rfl
   rw[d];obtain⟨m,a,b⟩:=pI (tr:=tr) ((e.st r pd tr).2.1) h h0;rw[a,aO rfl];exact⟨_,rfl,by cases a;exact b⟩
theorem SO{r r0:aa}{pd:aq}{st:ah}(h:cB e r pd)(j:fW e r pd st)(h0:r<:+r0)(o:r0<:+e.S):bM false e r0 (ae (cS.aM eh) (λ_=>iI (aZ true n) eh) r pd) (λst=>st) (λ_ _ _=>True) (xk R st):=by
 unfold xk;rw[j.eta.2.2.2.2.1];simp only[bx,gP,aS];have l:=Fk h j;obtain⟨p,m,b⟩:=l;rw[m,aO rfl];have k:=aI.lines (c:=0) r pd;have aC:=h.jJ;cases hm:cS r pd with
 |ok a r1 s=>grind[aY,jv,ame]
 |more op nd ds=>
  rw[hm] at b k;simp only[dZ] at k;have d:(cS.aM eh) r pd= .more op (cO nd ds eh).1 (cO nd ds eh).2:=by grind[ak.aM]
  rw[dc d];obtain⟨f,g,i⟩:=ZI (R:=R) h b (by omega);exact⟨f,g,iz.mono i h0⟩
 |bad q=>
  rw[hm] at b;have d:(cS.aM eh) r pd= .bad q:=by grind[ak.aM]
  rw[gY d];obtain⟨f,g,i⟩:=ZJ (R:=R) b;exact⟨f,g,i.mono h0⟩
 |deep q=>
  rw[hm] at b;have d:(cS.aM eh) r pd= .deep q:=by grind[ak.aM]
  rw[jM d];obtain⟨f,g,i⟩:=ZJ (R:=R) b;exact⟨f,g,i.mono h0⟩
end
theorem amf(l:dS)(D:ak Unit):pA l D=ae (bP s7) (λt=>match t with
  | .eof=>b6 s7
  | .word w true=>if lZ w then ae (bZ w.length) λ_=>ae ((bP []).aM eh) λt=>if t= .op [59] then ae (bZ 1) λ_=>ae (cS.aM eh) λ_=>iI l eh else
    ae (cS.aM eh) λ_=>ae ((bP []).aM eh) λt=>if cE t fl then ae (bZ 2) λ_=>ae ((pz D).aM eh) λ_=>ae (cS.aM eh) λ_=>iI l eh else iI l eh
   else bK
  |_=>bK):=by
 unfold pA;congr 1
 funext t
 cases t with
 |word w p=>
  cases p with
  |true=>
   simp only[IN,kn];congr 1;congr 1
   funext _
   congr 1
   funext t
   rw[ZF,yx];congr 1
   ·simp[IN,kn,ZG,SL,IP]
   ·simp only[IN,kn,SL];congr 1
    funext _
    congr 1
    funext t
    rw[ZF,yx];simp[IN,kn,ZG,SL,IP]
  |false=>rfl
 |_=>rfl
theorem ZK:∀(r w:aa),du r->r≠[]->c4 r=(w,true)->r.drop w.length≠[]
 |[],w,_,c,_=>absurd rfl c
 |b::t,w,a,_,h=>by
  by_cases i:c1 (b::t)=true
  ·simp_all[c4]
  ·have d:c1 (b::t)=false:=by grind
   have e:¬(b=92\/b=39\/b=34\/b=96\/ga (b::t)=true):=by grind[SD]
   have h0:c4 (b::t)=(match c4 t with|(w,true)=>(b::w,true)|(_,false)=>([],false)):=by rw[c4,d,aW (by simp),aW e];grind
   rw[h0] at h;have j:b≠10:=by simp_all[c1]
   have f:t≠[]:=by
    rintro rfl;rcases a with ad|⟨x,ad⟩
    ·cases ad
    ·cases x with
     |nil=>grind
     |cons y ys=>simp_all
   cases aC:c4 t with
   |mk g p=>
    rw[aC] at h;cases p with
    |false=>cases h
    |true=>simp only at h;cases h;simp only[mi,F5];exact ZK t g (a.h4 (eb b t)) f aC
noncomputable def Az(R:bh):ah->Option ah:=λa=>
 (cR ((decide (a.2.2.2.2.1=0))=true) (lA a) [] λ(b:aa)=>(bif(bif(decide (a.2.2.2.2.1=0)) then(decide (b=([105,110]:aa))) else false) then(av (Eo R (a.1,(W (a.2.1+2)),a.2.2.1,a.2.2.2.1,a.2.2.2.2.1,a.2.2.2.2.2.1,a.2.2.2.2.2.2.1,a.2.2.2.2.2.2.2.1,a.2.2.2.2.2.2.2.2)) λ(c:ah)=>xk R c) else xk R a))
noncomputable def IQ(R:bh):ah->Option ah:=λx=>
 (av (hr x) λ(a:aa)=>(bif(decide (a=([59]:aa))) then xk R (x.1,(W (x.2.1+1)),x.2.2.1,x.2.2.2.1,x.2.2.2.2.1,x.2.2.2.2.2.1,x.2.2.2.2.2.2.1,x.2.2.2.2.2.2.2.1,x.2.2.2.2.2.2.2.2) else(av (oa x) λ(b:ah)=>Az R b)))
noncomputable def MC(R:bh)(p:Int):(aa×Bool×ah)->Option ah:=λ(e,d,a)=>
 (cR ((bif(!(decide (a.2.2.2.2.1=0))) then true else(!d))=false) (z3 e) false λ(f:Bool)=>(bif(bif(bif(!(decide (a.2.2.2.2.1=0))) then true else(!d)) then true else(!f)) then(av (hg a p) λ(b:ah)=>some (b.1,b.2.1,b.2.2.1,a.2.2.2.1,b.2.2.2.2.1,b.2.2.2.2.2.1,b.2.2.2.2.2.2.1,a.2.2.2.2.2.2.2.1,b.2.2.2.2.2.2.2.2)) else(av (g2 a) λ(c:ah)=>IQ R (c.1,c.2.1,c.2.2.1,a.2.2.2.1,c.2.2.2.2.1,c.2.2.2.2.2.1,c.2.2.2.2.2.2.1,a.2.2.2.2.2.2.2.1,c.2.2.2.2.2.2.2.2))))
noncomputable def SP(R:bh):ah->Option ah:=λx=>
 (av (gq x) λ(b:Bool)=>(bif b then(av (g3 x ([120,10,100,111,32,120,10,100,111,110,101]:aa)) λ(c:ah)=>some c) else(av (vu x) λ(d:Bool)=>(bif d then(av (hg x x.2.1) λ(a:ah)=>some (a.1,a.2.1,a.2.2.1,x.2.2.2.1,a.2.2.2.2.1,a.2.2.2.2.2.1,a.2.2.2.2.2.2.1,x.2.2.2.2.2.2.2.1,a.2.2.2.2.2.2.2.2)) else(av (p7 R x) λy=>MC R x.2.1 y)))))
theorem amg(R:bh)(x0:ah):Ep R x0=av (g2 x0) λa=>SP R (a.1,a.2.1,a.2.2.1,x0.2.2.2.1,a.2.2.2.2.1,a.2.2.2.2.2.1,a.2.2.2.2.2.2.1,x0.2.2.2.2.2.2.2.1,a.2.2.2.2.2.2.2.2):=rfl
theorem amh(fr:Bool)(n:Nat):(aZ fr n).dl=a_ fr n:=by cases n<;>rfl
def SQ(l:dS)(D:ak Unit):ak Unit:=ae ((bP []).aM eh) λt=>if cE t fl then ae (bZ 2) λ_=>ae ((pz D).aM eh) λ_=>ae (cS.aM eh) λ_=>iI l eh else iI l eh
def yP(l:dS)(D:ak Unit):ak Unit:=ae ((bP []).aM eh) λt=>if t= .op [59] then ae (bZ 1) λ_=>ae (cS.aM eh) λ_=>iI l eh else ae (cS.aM eh) λ_=>SQ l D
theorem ami(l:dS)(D:ak Unit):pA l D=ae (bP s7) (λt=>match t with
 | .eof=>b6 s7
 | .word w true=>if lZ w then ae (bZ w.length) λ_=>yP l D else bK
 |_=>bK):=amf l D
theorem pJ{α:Type}{m:ak α}{x:aa}{r:aa}{pd:aq}{a:α}{r1:aa}{b:aq}(h:m r pd= .ok a r1 b):(m.aM x) r pd= .ok a r1 b:=jv.2 h
theorem sx{α:Type}{m:ak α}{x:aa}{r:aa}{pd:aq}{op:bs}{nd:aa}{ds:aq}(h:m r pd= .more op nd ds):(m.aM x) r pd= .more op (cO nd ds x).1 (cO nd ds x).2:=by grind[ak.aM]
theorem uG{α:Type}{m:ak α}{x:aa}{r q:aa}{pd:aq}(h:m r pd= .bad q):(m.aM x) r pd= .bad q:=by grind[ak.aM]
theorem uH{α:Type}{m:ak α}{x:aa}{r q:aa}{pd:aq}(h:m r pd= .deep q):(m.aM x) r pd= .deep q:=by grind[ak.aM]
theorem aI.low{α:Type}{c:Nat}{f:ak α}(aC:aI c f){e:cd}{r:aa}{pd:aq}(h:cB e r pd):∀(op:bs)(nd:aa)(ds:aq)(hm:f r pd= .more op nd ds),nd.length+ei ds<=100*e.S.length+c:=by intro op nd ds hm;have:=aC r pd;rw[hm] at this;simp only[dZ] at this;have:=h.jJ;omega
theorem SR{e:cd}{ds a:aq}{r:aa}(h:cB e r a):lA (e.tt ds)=some []:=by
 have ad:lA (e.tt ds)=lA (e.tt a):=by rfl
 rw[ad];exact al9 h.Au
theorem ZL{r w:aa}{p:Bool}(h:au r= .word w p):c4 r=(w,p):=by
 cases r with
 |nil=>grind[lQ]
 |cons b t=>grind[IM]
theorem MD{α:Type}{q:Bool}{e:cd}{r0 r1:aa}{st:ah}{cv:α->aa->ah->Prop}(p:Int)(h:nW e r0 st):bM q e r0 (.bad r1:dt α) (λst=>st) cv (hg st p):=⟨_,rfl,rfl,h.s,h.lo,h.bg,h.nd,h.op⟩
theorem SS{R:bh}{p:Int}{b:aa}{c:Bool}{a:ah}(h:a.2.2.2.2.1≠0):MC R p (b,c,a)=hg a p:=by unfold MC;simp only[h,bF,e3,aK,cR,tB,cm];rfl
section
variable{R:bh}{n:Nat}(bk:oo R n)(hD:kp R n){e:cd}(bd:e.ne=30- (n:Int))
theorem ZM{r:aa}{nd:aa}{ds:aq}{st:ah}{c:aq}(h0:cB e r c)(hm:iz true e r nd ds st)(a:nd.length+ei ds<=100*e.S.length+500):∃b,Az R st=some b/\iz false e r (cO nd ds eh).1 (cO nd ds eh).2 b:=by
 rcases hm with ad|⟨_,rfl,rfl⟩
 ·unfold Az;rw[ad.1];simp only[show¬((1:Int)=0) by decide,bF,cR,eC,cm,aS];exact SM h0 (.inl ad) a
 ·unfold Az;have d:(e.tt ds).2.2.2.2.1=0:=rfl;rw[d,SR h0,fV];simp only[bx,cG,reduceCtorEq,bF,aK,aS];exact SM h0 (.inr ⟨rfl,rfl,rfl⟩) a
theorem ZN{r:aa}{st:ah}(hm:iL e r st):∃a,Az R st=some a/\iL e r a:=by unfold Az;rw[hm.1];simp only[show¬((2:Int)=0) by decide,bF,cR,eC,cm,aS];exact SN hm
include bk hD bd
theorem amj{r r0:aa}{pd:aq}{st:ah}(h:cB e r pd)(k:fW e r pd st)(h0:r<:+r0)(o:r0<:+e.S)(l:bu r=some r)(hl:au r≠ .line):bM false e r0 (SQ (aZ true n) (a_ true n) r pd) (λst=>st) (λ_ _ _=>True) (Az R st):=by
 have m:=h.nl.h4 h.sfx;unfold SQ Az;rw[aY (pJ (cA l)),k.eta.2.2.2.2.1];obtain⟨tr,rfl,p⟩:=k;rw[vN h,fV];simp only[bx,cG,aK];by_cases aH:iU r=[105,110]
 ·have s:=(ry m Ay.1 Ay.2).1 aH;have bg:cE (au r) fl=true:=by grind[cE]
  simp only[aH,bx,aK];rw[bm bg];obtain⟨q,rfl⟩:=(qd s).1;have t:bZ 2 (fl++q) pd= .ok () q pd:=rfl;rw[aY t];have i:q<:+fl++q:=gQ fl q;have u:W (ay e.S (fl++q)+2)=ay e.S q:=ko (w:=fl) h.bY h.sfx;have v:q≠[]:=by grind[SJ,fl]
  have j:=h.mono i;have x:((e.st (fl++q) pd tr).1,W ((e.st (fl++q) pd tr).2.1+2),(e.st (fl++q) pd tr).2.2.1,(e.st (fl++q) pd tr).2.2.2.1,(0:Int),(e.st (fl++q) pd tr).2.2.2.2.2.1,(e.st (fl++q) pd tr).2.2.2.2.2.2.1,(e.st (fl++q) pd tr).2.2.2.2.2.2.2.1,(e.st (fl++q) pd tr).2.2.2.2.2.2.2.2)=e.st q pd tr:=by show(e.S,W (ay e.S (fl++q)+2),e.ne,pd,(0:Int),(0:Int),([]:aa),([]:bs),tr)=_;rw[u];rfl
  rw[x];have c:=amb hD bd j ⟨tr,rfl,λy=>absurd y v⟩;obtain⟨b,z,c⟩:=c;rw[z,aO rfl];have A:=aI.low (aI.words (tm true n)) j;rw[amh] at A;cases hm:pz (a_ true n) q pd with
  |ok a r1 D=>grind[aY,pJ,SO]
  |more op nd ds=>rw[hm] at c;rw[dc (sx hm)];obtain⟨d,f,g⟩:=SM (R:=R) j (iz.up c) (by grind);exact⟨d,f,g.mono (i.trans h0)⟩
  |bad B=>rw[hm] at c;rw[gY (uG hm)];obtain⟨d,f,g⟩:=SN (R:=R) c;exact⟨d,f,g.mono (i.trans h0)⟩
  |deep B=>rw[hm] at c;rw[jM (uH hm)];obtain⟨d,f,g⟩:=SN (R:=R) c;exact⟨d,f,g.mono (i.trans h0)⟩
 ·have bg:cE (au r) fl=false:=by rw[<-IG m Ay.1 Ay.2];exact e4 aH
  simp only[aH,bF,aS];rw[aW (by grind)];have C:ae (cS.aM eh) (λ_=>iI (aZ true n) eh) r pd=iI (aZ true n) eh r pd:=aY (pJ (Mc l hl));rw[<-C];exact SO bk bd h ⟨tr,rfl,p⟩ h0 o
theorem amk{r r0:aa}{pd:aq}{st:ah}(h:cB e r pd)(j:fW e r pd st)(h0:r<:+r0)(p:r0<:+e.S)(s:bu r=some r):bM false e r0 (yP (aZ true n) (a_ true n) r pd) (λst=>st) (λ_ _ _=>True) (IQ R st):=by
 unfold yP IQ;rw[aY (pJ (cA s))];have he:=j.eta;have u:hr st=some (br r):=by obtain⟨tr,rfl,v⟩:=j;exact rz h
 rw[u,aO rfl];by_cases k:br r=[59]
 ·have l:au r= .op [59]:=(mG (by simp)).2 k;simp only[k,decide_true,cond_true];rw[if_pos l];obtain⟨q,rfl⟩:=(ic l).2.1;have x:bZ 1 ([59]++q) pd= .ok () q pd:=rfl;rw[aY x];have o:q<:+[59]++q:=List.suffix_append _ q;have y:=h.mono o;have z:q≠[]:=cB.yJ (b:=59) (t:=q) h (by decide);obtain⟨tr,rfl,v⟩:=j;have A:W (ay e.S ([59]++q)+1)=ay e.S q:=ko (w:=[59]) h.bY h.sfx;have B:((e.st ([59]++q) pd tr).1,W ((e.st ([59]++q) pd tr).2.1+1),(e.st ([59]++q) pd tr).2.2.1,(e.st ([59]++q) pd tr).2.2.2.1,(e.st ([59]++q) pd tr).2.2.2.2.1,(e.st ([59]++q) pd tr).2.2.2.2.2.1,(e.st ([59]++q) pd tr).2.2.2.2.2.2.1,(e.st ([59]++q) pd tr).2.2.2.2.2.2.2.1,(e.st ([59]++q) pd tr).2.2.2.2.2.2.2.2)=e.st q pd tr:=by show(e.S,W (ay e.S ([59]++q)+1),e.ne,pd,(0:Int),(0:Int),([]:aa),([]:bs),tr)=_;rw[A];rfl
  rw[B];exact SO bk bd y ⟨tr,rfl,λm=>absurd m z⟩ (o.trans h0) p
 ·have l:au r≠ .op [59]:=λm=>k ((mG (by simp)).1 m);simp only[k,decide_false,cond_false];rw[if_neg l];obtain⟨D,C,d⟩:=Fk h j;rw[C,aO rfl];have E:=aI.low (aI.lines (c:=0)) h;cases hm:cS r pd with
  |ok a r1 F=>grind[aY,pJ,amj]
  |more op nd ds=>rw[hm] at d;rw[dc (sx hm)];obtain⟨f,g,i⟩:=ZM (R:=R) h d (by grind);exact⟨f,g,i.mono h0⟩
  |bad q=>rw[hm] at d;rw[gY (uG hm)];obtain⟨f,g,i⟩:=ZN (R:=R) d;exact⟨f,g,i.mono h0⟩
  |deep q=>rw[hm] at d;rw[jM (uH hm)];obtain⟨f,g,i⟩:=ZN (R:=R) d;exact⟨f,g,i.mono h0⟩
omit bk hD bd in
theorem aml{r r0:aa}{b pd:aq}(h:cB e r b)(h0:r<:+r0)(f:ei pd<=100*e.S.length+400):∃a,IQ R (e.tt pd)=some a/\iz false e r0 (cO [] pd eh).1 (cO [] pd eh).2 a:=by unfold IQ;rw[Fv pd h.bY,aO rfl];simp only[reduceCtorEq,bF,aS];rw[Zz,aO rfl];obtain⟨a,c,d⟩:=ZM (R:=R) h (iz.tt (e:=e) (r:=r) pd) (by grind);exact⟨a,c,d.mono h0⟩
theorem amm{r:aa}{pd:aq}{st:ah}(h:cB e r pd)(S:fW e r pd st)(T:r<:+e.S):bM false e r (pA (aZ true n) (a_ true n) r pd) (λst=>st) (λ_ _ _=>True) (Ep R st):=by
 rw[ami,amg];obtain⟨tr,rfl,U⟩:=S;rcases xa h ⟨tr,rfl,U⟩ with⟨b,eB,z,A,V,m,s,h9⟩|⟨z,A⟩
 ·rw[A,aO rfl,aY (cA z)];obtain⟨d,rfl,MA⟩:=V;have B:((e.st b pd d).1,(e.st b pd d).2.1,(e.st b pd d).2.2.1,(e.st r pd tr).2.2.2.1,(e.st b pd d).2.2.2.2.1,(e.st b pd d).2.2.2.2.2.1,(e.st b pd d).2.2.2.2.2.2.1,(e.st r pd tr).2.2.2.2.2.2.2.1,(e.st b pd d).2.2.2.2.2.2.2.2)=e.st b pd d:=rfl;rw[B];unfold SP;rw[qj,aO rfl];by_cases t:b=[]
  ·subst t;simp only[bx,aK];obtain⟨g,f,k⟩:=uF (tr:=d) (x:=s7) m (by decide);rw[show([120,10,100,111,32,120,10,100,111,110,101]:aa)=s7 from rfl,f,aO rfl];exact⟨g,rfl,(k.mono s).s⟩
  ·simp only[t,bF,aS];rw[Mv m t,aO rfl];have J:∃g,hg (e.st b pd d) (e.st b pd d).2.1=some g/\iL e r g:=pI _ m s
   have pF:au b≠ .eof:=λC=>t (lQ.1 C);cases W:au b with
   |eof=>grind
   |line=>simp only[aK];obtain⟨g,f,k⟩:=J;rw[f,aO rfl];exact⟨_,rfl,by cases f;exact k⟩
   |op o=>simp only[aK];obtain⟨g,f,k⟩:=J;rw[f,aO rfl];exact⟨_,rfl,by cases f;exact k⟩
   |word w p=>
    simp only[aS];have v:=ZL W;have X:=h.nl.h4 m.sfx;obtain⟨⟨i,Y,K⟩,L,c⟩:=Fq hD bd (tr0:=d) m;rw[L,aO rfl];have M:K.1=e.S->i.length<=1000000:=λZ=>lF (SE m Z L).1 h.bY;unfold MC;dsimp only at c⊢;by_cases N:p=true/\lZ w=true
    ·obtain⟨rfl,rv⟩:=N;dsimp only;have Av:=ZK b w X t v;have xh:=ZH (D:=a_ true n) b w pd v Av;rw[xh] at c;obtain⟨E,a2,a3, -,j,l⟩:=c;rw[v] at j l;dsimp only at j l;have F:=l j;subst F j;have G:=(yF i (M a3.eta.1)).2;rw[G,a3.eta.2.2.2.2.1,rv];simp only[bx,gP,aS,cG];rw[fV];simp only[cG,gP,aS];rw[aY (show bZ i.length b pd= .ok () (b.drop i.length) pd from rfl)];obtain⟨O,rfl,P⟩:=a3;rcases xa a2 ⟨O,rfl,P⟩ with⟨bX,amn,H,I,tc,lj,xf,Q⟩|⟨H,I⟩
     ·rw[I,aO rfl];obtain⟨hB,rfl,MF⟩:=tc;have u:yP (aZ true n) (a_ true n) (b.drop i.length) pd=yP (aZ true n) (a_ true n) bX pd:=by unfold yP;rw[aY (pJ (cA H)),aY (pJ (cA Q))]
      rw[u];exact amk bk hD bd lj ⟨hB,rfl,MF⟩ (xf.trans (E.trans s)) T Q
     ·rw[I,aO rfl];have u:yP (aZ true n) (a_ true n) (b.drop i.length) pd= .more [] (cO [] pd eh).1 (cO [] pd eh).2:=by unfold yP;exact dc (sx (by rw[iw H];rfl))
      rw[u];have vF:=h.jJ;exact aml (R:=R) h fK (by show ei pd<=_;omega)
    ·have u:(match Tok.word w p with| .eof=>b6 s7| .word w true=>if lZ w then ae (bZ w.length) λ_=>yP (aZ true n) (a_ true n) else bK|_=>bK:ak Unit) b pd= .bad b:=by
      cases p with
      |false=>rfl
      |true=>dsimp only;rw[if_neg (λC=>N ⟨rfl,C⟩)];rfl
     refine bM.dV (y:=hg K (e.st b pd d).2.1) ?_ ?_
     ·rw[u];cases hm:cP (a_ true n) b pd with
      |ok a ct b3=>rw[hm] at c;obtain⟨E,a2,⟨O,rfl,P⟩,_⟩:=c;grind[MD,Zv]
      |more op nd ds=>rw[hm] at c;exact MD _ (c.z.2.2.2.1.mono s)
      |bad q=>rw[hm] at c;exact MD _ (c.2.mono s)
      |deep q=>rw[hm] at c;exact MD _ (c.2.mono s)
     ·cases hm:cP (a_ true n) b pd with
      |ok a ct b3=>
       rw[hm] at c;obtain⟨E,a2,a3, -,j,l⟩:=c;rw[v] at j l;dsimp only at j l;subst j;have G:=(yF i (M a3.eta.1)).2;rw[G,a3.eta.2.2.2.2.1];cases Y with
       |false=>rfl
       |true=>
        have F:=l rfl;subst F;have ax:lZ i=false:=by grind
        rw[ax];rfl
      |more op nd ds=>rw[hm] at c;exact SS (by rw[c.z.1];decide)
      |bad q=>rw[hm] at c;exact SS (by rw[c.1];decide)
      |deep q=>rw[hm] at c;exact SS (by rw[c.1];decide)
 ·rw[A,aO rfl,dc (op:=[]) (nd:=(cO [] pd s7).1) (ds:=(cO [] pd s7).2) (by rw[iw z];rfl)];have B:((e.tt pd).1,(e.tt pd).2.1,(e.tt pd).2.2.1,(e.st r pd tr).2.2.2.1,(e.tt pd).2.2.2.2.1,(e.tt pd).2.2.2.2.2.1,(e.tt pd).2.2.2.2.2.2.1,(e.st r pd tr).2.2.2.2.2.2.2.1,(e.tt pd).2.2.2.2.2.2.2.2)=e.tt pd:=rfl;rw[B];unfold SP;rw[oS,aO rfl];simp only[aK];obtain⟨g,f,k⟩:=CG (x:=s7) h.Au (by decide);rw[show([120,10,100,111,32,120,10,100,111,110,101]:aa)=s7 from rfl,f,aO rfl];exact⟨g,rfl,(k.mono ov).s⟩
end
theorem amo{σ α β:Type}(f:σ->ak (σ⊕α))(K:α->ak β):∀(N:Nat)(s:σ)(r:aa)(pd:aq),r.length<=N->ae (ca f s) K r pd=ca (λs=>ae (f s) λx=>match x with| .inl s'=>aU (.inl s')| .inr a=>ae (K a) λb=>aU (.inr b)) s r pd:=by
 intro N;induction N with
 |zero=>
  intro s r pd h;have e:r.length=0:=by omega
  rw[cF];unfold ae;rw[cF];cases ad:f s r pd with
  |ok x r1 c=>
   cases x with
   |inl s'=>grind[cN,aU]
   |inr a=>grind[cN,aU]
  |more op nd ds=>rfl
  |bad q=>rfl
  |deep q=>rfl
 |succ N d=>
  intro s r pd h;rw[cF];unfold ae;rw[cF];cases ad:f s r pd with
  |ok x r1 c=>
   cases x with
   |inl s'=>
    simp only[cN,aU];by_cases hl:r1.length<r.length
    ·rw[bm hl,bm hl];exact d s' r1 c (by omega)
    grind
   |inr a=>grind[cN,aU]
  |more op nd ds=>rfl
  |bad q=>rfl
  |deep q=>rfl
theorem amp{σ α β:Type}(f:σ->ak (σ⊕α))(K:α->ak β)(s:σ):ae (ca f s) K=ca (λs=>ae (f s) λx=>match x with| .inl s'=>aU (.inl s')| .inr a=>ae (K a) λb=>aU (.inr b)) s:=by
 funext r pd;exact amo f K r.length s r pd (cX _)
def CK(e:cd)(r:aa)(pd:aq)(x:ah):Prop:=(∃r' tr,bu r=some r'/\x=e.st r' pd tr/\(r'=[]->tr=false)/\cB e r' pd/\r'<:+r/\bu r'=some r')\/(bu r=none/\x=e.tt pd)
theorem xl{e:cd}{r:aa}{pd:aq}{st:ah}(h:cB e r pd)(d:fW e r pd st):∃x,g2 st=some x/\CK e r pd x:=by
 rcases xa h d with⟨f,g,a,b,⟨tr,i,c⟩,j,k,l⟩|⟨a,b⟩
 ·exact⟨g,b,.inl ⟨f,tr,a,i,c,j,k,l⟩⟩
 ·exact⟨_,b,.inr ⟨a,rfl⟩⟩
theorem FD{q:Bool}{e:cd}{r r0:aa}{nd:aa}{ds:aq}{st:ah}{b:aq}{x:aa}(h0:cB e r b)(hm:iz false e r nd ds st)(h:r<:+r0)(f:nd.length+ei ds<=100*e.S.length+500)(g:x.length<=100):∃a,gr st [] x=some a/\iz q e r0 (cO nd ds x).1 (cO nd ds x).2 a:=by obtain⟨a,c,d⟩:=xb (e:=e) (nm:=[]) (x:=x) (r1:=r) (r0:=r) (nd:=nd) (ds:=ds) hm.z fK h0.sfx (.inl rfl) (by omega) h0.bY (by omega);exact⟨a,c,(nX.mono d h).s⟩
theorem rA{e:cd}{r:aa}{st:ah}{nm x:aa}(hm:iL e r st):gr st nm x=some st:=pG (by rw[hm.1];decide)
theorem sy{e:cd}{w q:aa}{pd:aq}{tr:Bool}(h:cB e (w++q) pd)(k:Nat)(hk:w.length=k):(e.S,W (ay e.S (w++q)+(k:Int)),e.ne,pd,(0:Int),(0:Int),([]:aa),([]:bs),tr)=e.st q pd tr:=by subst hk;have a:W (ay e.S (w++q)+(w.length:Int))=ay e.S q:=ko (w:=w) h.bY h.sfx;rw[a];rfl
theorem cB.tu{e:cd}{w q:aa}{pd:aq}(h:cB e (w++q) pd)(a:w≠[])(b:(10:UInt8)∉w):q≠[]:=by
 rintro rfl;rw[rE] at h;rcases h.nl.h4 h.sfx with ad|⟨t,ad⟩
 ·grind
 grind
def FE(l:dS):ak Unit:=ae (l.ls .item true) λ_=>ae (bP []) λt=>if t= .op [59,59] then bZ 2 else aU ()
def AB(l:dS)(D:ak Unit)(t:Tok):ak Unit:=ae ((if t= .op [40] then bZ 1 else aU ())) λ_=>ae (kO D) λ_=>FE l
def oU(l:dS)(D:ak Unit):Unit->ak (Unit⊕Unit):=λ_=>ae cS λ_=>ae (bP []) λt=>if t= .eof then b6 [] else if cE t ep then ae (bZ 4) λ_=>aU (.inr ()) else ae (AB l D t) λ_=>aU (.inl ())
theorem ZO(l:dS)(D:ak Unit):(λ(_:Unit)=>ae cS λ_=>ae (bP []) λt=>if t= .eof then b6 [] else if cE t ep then ae (bZ 4) λ_=>aU (.inr ()) else
 ae ((if t= .op [40] then bZ 1 else aU ())) λ_=>ae (kO D) λ_=>ae (l.ls .item true) λ_=>ae (bP []) λt=>if t= .op [59,59] then ae (bZ 2) λ_=>aU (.inl ()) else aU (.inl ()))=oU l D:=by
 unfold oU
 funext _
 congr 1
 funext _
 congr 1
 funext t
 congr 1;congr 1;unfold AB FE;simp only[kn];congr 1
 funext _
 congr 1
 funext _
 congr 1
 funext _
 congr 1
 funext t
 rw[yx];congr 1
theorem amr(l:dS)(D:ak Unit):nn l D=ca (oU l D) ():=by simp[nn,ZO]
theorem ams{n:Nat}{s':Unit}{r:aa}{pd:aq}{r':aa}{a:aq}(h:oU (aZ true n) (a_ true n) () r pd= .ok (.inl s') r' a):r'.length<r.length:=by rw[<-ZO] at h;exact(Xm (pC true n) (l4 true n)).lt (s:=()) h
noncomputable def yQ(R:bh):ah->Option ah:=λx=>
 (av (R.nE x ([59,59]:aa) ([]:bs) false) λ(c,a)=>(cR ((decide (a.2.2.2.2.1=0))=true) (hr a) [] λ(b:aa)=>(bif(bif(decide (a.2.2.2.2.1=0)) then(decide (b=([59,59]:aa))) else false) then some (a.1,(W (a.2.1+2)),a.2.2.1,a.2.2.2.1,a.2.2.2.2.1,a.2.2.2.2.2.1,a.2.2.2.2.2.2.1,a.2.2.2.2.2.2.2.1,a.2.2.2.2.2.2.2.2) else some a)))
noncomputable def IS(R:bh)(x0 x:ah):Option ah:=fixF (z5 R (yQ R)) bC (x.1,x.2.1,x.2.2.1,x0.2.2.2.1,x.2.2.2.2.1,x.2.2.2.2.2.1,x.2.2.2.2.2.2.1,x0.2.2.2.2.2.2.2.1,x.2.2.2.2.2.2.2.2)
theorem amt(R:bh)(x0:ah):El R x0=(av (hr x0) λ(a:aa)=>
 (bif(decide (a=([40]:aa))) then
 (av (g2 (x0.1,(W (x0.2.1+1)),x0.2.2.1,x0.2.2.2.1,x0.2.2.2.2.1,x0.2.2.2.2.2.1,x0.2.2.2.2.2.2.1,x0.2.2.2.2.2.2.2.1,x0.2.2.2.2.2.2.2.2)) λ(b:ah)=>IS R x0 b)
 else IS R x0 x0)):=rfl
section
variable{R:bh}{n:Nat}(bk:oo R n)(hD:kp R n){e:cd}(bd:e.ne=30- (n:Int))
include bk bd
theorem amu{r:aa}{pd:aq}{st:ah}(h:cB e r pd)(p:fW e r pd st):bM false e r (FE (aZ true n) r pd) (λst=>st) (λ_ _ _=>True) (yQ R st):=by
 unfold FE yQ;refine bM.iy (C:=λx=>x) c2.id (bk.im e .item true rfl bd r pd st h p) (λa r1 u b k s1 c i _=>?_) (λop nd ds b _ l=>?_) (λb d=>?_)
 ·obtain⟨d,m⟩:=b;dsimp only at i⊢;obtain⟨ao,e2⟩:=Ap true n;rw[e2] at k;obtain⟨s,v⟩:=yC (by simp) k;rw[aY (cA s),i.eta.2.2.2.2.1];obtain⟨tr,rfl,t⟩:=i;rw[rz c,fV];simp only[bx,cG,aK];by_cases f:br r1=[59,59]
  ·have g:au r1= .op [59,59]:=(mG (by simp)).2 f;simp only[f,bx,aK];rw[bm g];obtain⟨q,rfl⟩:=(ic g).2.1;have o:q<:+[59,59]++q:=gQ _ q;exact⟨_,mj some (sy c 2 rfl),o.trans s1,c.mono o,⟨tr,rfl,λj=>absurd j (c.tu (by simp) (by decide))⟩,trivial⟩
  ·have g:au r1≠ .op [59,59]:=λj=>f ((mG (by simp)).1 j);simp only[f,bF,aS];rw[aW g];exact⟨_,rfl,s1,c,⟨tr,rfl,t⟩,trivial⟩
 ·obtain⟨d,m⟩:=b;dsimp only at l⊢;rw[l.z.1];simp only[show¬((1:Int)=0) by decide,bF,cR,eC,cm,aS];grind
 ·obtain⟨e5,m⟩:=b;dsimp only at d⊢;rw[d.1];simp only[show¬((2:Int)=0) by decide,bF,cR,eC,cm,aS];grind
include hD
theorem ZP{r0 r:aa}{pd:aq}{x:ah}(h:cB e r pd)(L:CK e r pd x):bM false e r (ae (kO (a_ true n)) (λ_=>FE (aZ true n)) r pd) (λst=>st) (λ_ _ _=>True) (fixF (z5 R (yQ R)) bC x):=by
 unfold kO;rw[amp];refine bM.rep (en:=λ_ r pd x=>CK e r pd x) (λk s r pd x aB L mE hk=>?_) bC () r pd _ (vM h) h L;simp only[kn] at hk⊢;rcases L with⟨i,m,M,rfl,MA,E,F,h9⟩|⟨M,rfl⟩
 ·rw[aY (cA M)];unfold z5;have N:((e.st i pd m).1,(e.st i pd m).2.1,(e.st i pd m).2.2.1,(e.st i pd m).2.2.2.1,(e.st i pd m).2.2.2.2.1,(e.st i pd m).2.2.2.2.2.1,(e.st i pd m).2.2.2.2.2.2.1,(e.st i pd m).2.2.2.2.2.2.2.1,(e.st i pd m).2.2.2.2.2.2.2.2)=e.st i pd m:=rfl;dsimp only;rw[N,qj,aO rfl];by_cases H:i=[]
  ·subst H;simp only[bx,aK];obtain⟨f,j,t⟩:=uF (tr:=m) (x:=[120,41]) E (by decide);rw[j,aO rfl];exact⟨f,rfl,(t.mono F).s⟩
  ·simp only[H,bF,aS];rw[Mv E H,aO rfl];have X:∃f,hg (e.st i pd m) (e.st i pd m).2.1=some f/\iL e r f:=pI _ E F
   have pF:au i≠ .eof:=λC=>H (lQ.1 C);cases ht:au i with
   |eof=>grind
   |line=>simp only[aK];obtain⟨f,j,t⟩:=X;rw[j,aO rfl];exact⟨_,rfl,by cases j;exact t⟩
   |op o=>simp only[aK];obtain⟨f,j,t⟩:=X;rw[j,aO rfl];exact⟨_,rfl,by cases j;exact t⟩
   |word w p=>
    simp only[aS,kn];have gS:c1 i=false:=(yG h9 ht).2;have l:=Fq hD bd (tr0:=m) E;have ho:=aI.low (aI.cP (w3 true n▸(tm true n).dl)) E;obtain⟨⟨dF,fu,iS⟩,hb,l⟩:=l;rw[hb,aO rfl];dsimp only at l⊢;cases hm:cP (a_ true n) i pd with
    |ok a v c=>
     rw[hm] at l;obtain⟨cU,a2,a3, -, -, -⟩:=l;rw[aY (pJ hm),a3.eta.2.2.2.2.1];simp only[bx,gP,aS];have hl:=vx (l4 true n) H gS hm;obtain⟨u,rfl,ME⟩:=a3;obtain⟨jL,O,pH⟩:=xl a2 ⟨u,rfl,ME⟩;rw[O,aO rfl];rcases pH with⟨g,d,P,rfl,MF,y,xf,CJ⟩|⟨P,rfl⟩
     ·rw[aY (cA P)];have Q:((e.st g c d).1,(e.st g c d).2.1,(e.st g c d).2.2.1,(e.st v c u).2.2.2.1,(e.st g c d).2.2.2.2.1,(e.st g c d).2.2.2.2.2.1,(e.st g c d).2.2.2.2.2.2.1,(e.st v c u).2.2.2.2.2.2.2.1,(e.st g c d).2.2.2.2.2.2.2.2)=e.st g c d:=rfl;rw[Q,qj,aO rfl];have I:g<:+r:=xf.trans (cU.trans F);by_cases S:g=[]
      ·subst S;simp only[bx,aK];obtain⟨f,j,t⟩:=uF (tr:=d) (x:=[41]) y (by decide);rw[j,aO rfl];exact⟨f,rfl,(t.mono I).s⟩
      ·simp only[S,bF,aS];rw[rz y,aO rfl];have arV:au g≠ .eof:=λC=>S (lQ.1 C);have T:∃f,hg (e.st g c d) (e.st g c d).2.1=some f/\iL e r f:=pI _ y I
       by_cases J:br g=[124]
       ·have D:au g= .op [124]:=(mG (by simp)).2 J;obtain⟨q,rfl⟩:=(ic D).2.1;rw[D,J];simp only[bx,gP,aS,cG,kn,C0,and_true,show¬((124:UInt8)=41) by decide,bF,e3];have G:q<:+[124]++q:=gQ _ q;have U:=y.tu (by simp) (by decide);rw[aY (show bZ 1 ([124]++q) c= .ok () q c from rfl)];obtain⟨z,IT,Y⟩:=xl (y.mono G) ⟨d,rfl,λC=>absurd C U⟩;have V:g2 ((e.st ([124]++q) c d).1,W ((e.st ([124]++q) c d).2.1+1),(e.st ([124]++q) c d).2.2.1,(e.st v c u).2.2.2.1,(e.st ([124]++q) c d).2.2.2.2.1,(e.st ([124]++q) c d).2.2.2.2.2.1,(e.st ([124]++q) c d).2.2.2.2.2.2.1,(e.st v c u).2.2.2.2.2.2.2.1,(e.st ([124]++q) c d).2.2.2.2.2.2.2.2)=some z:=by rw[<-IT];exact mj g2 (sy y 1 rfl)
        rw[V,aO rfl];have Z:q.length<r.length:=by grind
        have CM:(z.1,z.2.1,z.2.2.1,(e.st v c u).2.2.2.1,z.2.2.2.2.1,z.2.2.2.2.2.1,z.2.2.2.2.2.2.1,(e.st v c u).2.2.2.2.2.2.2.1,z.2.2.2.2.2.2.2.2)=z:=by rcases Y with⟨nB,SW, -,rfl, -⟩|⟨-,rfl⟩<;>rfl
        rw[CM];exact bM.inl Z (hk () q c z (G.trans I) (y.mono G) Z Y)
       ·by_cases K:br g=[41]
        ·have D:au g= .op [41]:=(mG (by simp)).2 K;obtain⟨q,rfl⟩:=(ic D).2.1;rw[D,K];simp only[bx,gP,aS,cG,kn,C0,and_true,show¬((41:UInt8)=124) by decide,bF,e3,aK,cm];have G:q<:+[41]++q:=gQ _ q;have U:=y.tu (by simp) (by decide);rw[aY (show bZ 1 ([41]++q) c= .ok () q c from rfl)];have cr:=amu bk bd (y.mono G) (st:=e.st q c d) ⟨d,rfl,λC=>absurd C U⟩;have V:yQ R ((e.st ([41]++q) c d).1,W ((e.st ([41]++q) c d).2.1+1),(e.st ([41]++q) c d).2.2.1,(e.st v c u).2.2.2.1,(e.st ([41]++q) c d).2.2.2.2.1,(e.st ([41]++q) c d).2.2.2.2.2.1,(e.st ([41]++q) c d).2.2.2.2.2.2.1,(e.st v c u).2.2.2.2.2.2.2.1,(e.st ([41]++q) c d).2.2.2.2.2.2.2.2)=yQ R (e.st q c d):=mj (yQ R) (sy y 1 rfl);rw[V];obtain⟨b,oy,A⟩:=cr.mono (G.trans I);rw[oy,IP];dsimp only;cases B:FE (aZ true n) q c with
         |ok a eO lf=>rw[B] at A;rw[aY B];exact⟨b,rfl,A⟩
         |more op nd ds=>rw[B] at A;rw[dc B];exact⟨b,rfl,A⟩
         |bad q=>rw[B] at A;rw[gY B];exact⟨b,rfl,A⟩
         |deep q=>rw[B] at A;rw[jM B];exact⟨b,rfl,A⟩
        ·simp only[J,K,bF,e3,aK];obtain⟨f,j,t⟩:=T;rw[j,aO rfl]
         have fin:∃b:ah,some (f.1,f.2.1,f.2.2.1,(e.st v c u).2.2.2.1,f.2.2.2.2.1,f.2.2.2.2.2.1,f.2.2.2.2.2.2.1,(e.st v c u).2.2.2.2.2.2.2.1,f.2.2.2.2.2.2.2.2)=some b/\iL e r b:=⟨_,rfl,by cases j;exact t⟩
         cases D:au g with
         |eof=>grind
         |line=>exact fin
         |word _ _=>exact fin
         |op o=>have aQ:=(ic D).1;subst aQ;simp only[J,K,cm];exact fin
     ·rw[dc (op:=[]) (by rw[iw P];rfl)];have Q:((e.tt c).1,(e.tt c).2.1,(e.tt c).2.2.1,(e.st v c u).2.2.2.1,(e.tt c).2.2.2.2.1,(e.tt c).2.2.2.2.2.1,(e.tt c).2.2.2.2.2.2.1,(e.st v c u).2.2.2.2.2.2.2.1,(e.tt c).2.2.2.2.2.2.2.2)=e.tt c:=rfl;rw[Q,oS,aO rfl];simp only[aK];obtain⟨f,j,t⟩:=CG (x:=[41]) a2.Au (by decide);rw[j,aO rfl];exact⟨f,rfl,(t.mono ov).s⟩
    |more op nd ds=>rw[hm] at l;rw[dc (sx hm),l.z.1];simp only[show¬((1:Int)=0) by decide,bF,e3,aK];obtain⟨f,al,bf⟩:=FD (q:=false) (x:=[41]) E l F (by grind) (by decide);rw[al,aO rfl];exact⟨f,rfl,bf⟩
    |bad q=>rw[hm] at l;rw[gY (uG hm),l.1];simp only[show¬((2:Int)=0) by decide,bF,e3,aK];rw[rA l,aO rfl];exact⟨_,rfl,l.mono F⟩
    |deep q=>rw[hm] at l;rw[jM (uH hm),l.1];simp only[show¬((2:Int)=0) by decide,bF,e3,aK];rw[rA l,aO rfl];exact⟨_,rfl,l.mono F⟩
 ·rw[dc (op:=[]) (by rw[iw M];rfl)];unfold z5;have N:((e.tt pd).1,(e.tt pd).2.1,(e.tt pd).2.2.1,(e.tt pd).2.2.2.1,(e.tt pd).2.2.2.2.1,(e.tt pd).2.2.2.2.2.1,(e.tt pd).2.2.2.2.2.2.1,(e.tt pd).2.2.2.2.2.2.2.1,(e.tt pd).2.2.2.2.2.2.2.2)=e.tt pd:=rfl;dsimp only;rw[N,oS,aO rfl];simp only[aK];obtain⟨f,j,t⟩:=CG (x:=[120,41]) aB.Au (by decide);rw[j,aO rfl];exact⟨f,rfl,(t.mono ov).s⟩
end
theorem IU:(ep:aa)≠[]/\ep.all gm=true:=by decide
def yR:aa:=10::ep
def FF:aa:=[32]++fl++[10]++ep
def AE:aa:=[120,32]++fl++[10]++ep
theorem amx{σ α:Type}(f:σ->ak (σ⊕α))(x:aa):∀(N:Nat)(s:σ)(r:aa)(pd:aq),r.length<=N->(ca f s).aM x r pd=ca (λs=>(f s).aM x) s r pd:=by
 intro N;induction N with
 |zero=>
  intro s r pd h;have d:r.length=0:=by omega
  rw[cF];unfold ak.aM;rw[cF];cases ad:f s r pd with
  |ok y r1 b=>grind[cN]
  |more op nd ds=>rfl
  |bad q=>rfl
  |deep q=>rfl
 |succ N c=>
  intro s r pd h;rw[cF];unfold ak.aM;rw[cF];cases ad:f s r pd with
  |ok y r1 b=>
   cases y with
   |inl s'=>
    simp only[cN];by_cases hl:r1.length<r.length
    ·rw[bm hl,bm hl];exact c s' r1 b (by omega)
    grind
   |inr a=>rfl
  |more op nd ds=>rfl
  |bad q=>rfl
  |deep q=>rfl
noncomputable def yS:ah->Option ah:=λx=>(av (gr x ([]) ([10,101,115,97,99]:aa)) λ(a:ah)=>some a)
noncomputable def IV(R:bh)(a:ah->Option ah):ah->Option ah:=λx=>
 (cR ((decide (x.2.2.2.2.1=0))=true) (lA x) [] λ(b:aa)=>(bif(bif(decide (x.2.2.2.2.1=0)) then(decide (b=([101,115,97,99]:aa))) else false) then some (x.1,(W (x.2.1+4)),x.2.2.1,x.2.2.2.1,x.2.2.2.2.1,x.2.2.2.2.2.1,x.2.2.2.2.2.2.1,x.2.2.2.2.2.2.2.1,x.2.2.2.2.2.2.2.2) else(bif(decide (x.2.2.2.2.1=0)) then(av (El R x) λ(c:ah)=>a c) else a x)))
noncomputable def IW(R:bh)(b:ah->Option ah):ah->Option ah:=λa=>
 (cR ((decide (a.2.2.2.2.1=0))=true) (gq a) false λ(c:Bool)=>(bif(bif(decide (a.2.2.2.2.1=0)) then c else false) then(av (g3 a ([])) λ(d:ah)=>IV R b d) else IV R b a))
theorem ZQ(R:bh)(j k:ah->Option ah)(x:ah):Em R j k x=(bif(decide (x.2.2.2.2.1=0)) then(av (oa x) λ(a:ah)=>IW R k a) else j x):=rfl
noncomputable def xm(R:bh):ah->Option ah:=λx=>
 (bif(!(decide (x.2.2.2.2.1=0))) then(av (gr x ([]) ([32,105,110,10,101,115,97,99]:aa)) λ(b:ah)=>some b) else(av (lA x) λ(c:aa)=>(bif(!(decide (c=([105,110]:aa)))) then(av (hg x x.2.1) λ(a:ah)=>some (a.1,a.2.1,a.2.2.1,x.2.2.2.1,a.2.2.2.2.1,a.2.2.2.2.2.1,a.2.2.2.2.2.2.1,x.2.2.2.2.2.2.2.1,a.2.2.2.2.2.2.2.2)) else(fixF (Em R yS) bC (x.1,(W (x.2.1+2)),x.2.2.1,x.2.2.2.1,x.2.2.2.2.1,x.2.2.2.2.2.1,x.2.2.2.2.2.2.1,x.2.2.2.2.2.2.2.1,x.2.2.2.2.2.2.2.2)))))
noncomputable def IX(R:bh):ah->Option ah:=λb=>
 (bif(decide (b.2.2.2.2.1=0)) then(av (oa b) λ(a:ah)=>(cR ((decide (a.2.2.2.2.1=0))=true) (gq a) false λ(c:Bool)=>(bif(bif(decide (a.2.2.2.2.1=0)) then c else false) then(av (g3 a ([])) λ(d:ah)=>xm R d) else xm R a))) else xm R b)
noncomputable def SX(R:bh):ah->Option ah:=λx=>
 (av (gq x) λ(b:Bool)=>(bif b then(av (g3 x ([120,32,105,110,10,101,115,97,99]:aa)) λ(c:ah)=>some c) else(av (vu x) λ(d:Bool)=>(bif d then(av (hg x x.2.1) λ(a:ah)=>some (a.1,a.2.1,a.2.2.1,x.2.2.2.1,a.2.2.2.2.1,a.2.2.2.2.2.1,a.2.2.2.2.2.2.1,x.2.2.2.2.2.2.2.1,a.2.2.2.2.2.2.2.2)) else(av (p7 R x) λy=>IX R y.2.2)))))
theorem amy(R:bh)(x0:ah):En R x0=av (g2 x0) λa=>SX R (a.1,a.2.1,a.2.2.1,x0.2.2.2.1,a.2.2.2.2.1,a.2.2.2.2.2.1,a.2.2.2.2.2.2.1,x0.2.2.2.2.2.2.2.1,a.2.2.2.2.2.2.2.2):=rfl
theorem FG{e:cd}{r:aa}{b pd:aq}{x:aa}(h:cB e r b)(c:ei pd<=100*e.S.length+800)(d:x.length<=100):∃a,g3 (e.tt pd) x=some a/\nX e r (cO [] pd x).1 (cO [] pd x).2 a:=by
 have h0:=h.bY;have f:=tn pd;have g:=As x [] pd;refine⟨(e.S,(e.S.length:Int),e.ne,(cO [] pd x).2,1,0,(cO [] pd x).1,[],true),?_,rfl,rfl,rfl,⟨rfl,?_,?_,?_,?_⟩,?_⟩
 ·unfold g3 a9 cd.tt;simp only[bx,aK];rw[CB _ _ _ _ _ _ _ _ _ _ (by omega) (by grind) (by omega),aO rfl]
 ·grind[ay]
 ·grind
 ·grind
 ·simp
 simp
theorem amz{l:dS}{D:ak Unit}(aH:l.dl=D)(hl:yI l)(t:Tok):aI 50 (AB l D t):=by subst aH;exact(aI.ite (aI.dg _) (aI.ret _)).ae λ_=>((aI.wX hl).mono (by decide)).ae λ_=>(hl.ls _ _).ae λ_=>(aI.dD (by simp)).ae λt=>aI.ite (aI.dg _) (aI.ret _)
section
variable{R:bh}{n:Nat}(bk:oo R n)(hD:kp R n){e:cd}(bd:e.ne=30- (n:Int))
include bk hD bd
theorem amA{r:aa}{pd:aq}{st:ah}(h:cB e r pd)(k:fW e r pd st)(i:bu r=some r):bM false e r (AB (aZ true n) (a_ true n) (au r) r pd) (λst=>st) (λ_ _ _=>True) (El R st):=by
 unfold AB;rw[amt];obtain⟨tr,rfl,l⟩:=k;rw[rz h,aO rfl];by_cases a:br r=[40]
 ·have b:au r= .op [40]:=(mG (by simp)).2 a;simp only[a,b,bx,aK,cG];obtain⟨q,rfl⟩:=(ic b).2.1;rw[aY (show bZ 1 ([40]++q) pd= .ok () q pd from rfl)];have c:q<:+[40]++q:=gQ _ q;have m:=h.tu (by simp) (by decide);obtain⟨d,o,j⟩:=xl (h.mono c) (st:=e.st q pd tr) ⟨tr,rfl,λf=>absurd f m⟩;have p:g2 ((e.st ([40]++q) pd tr).1,W ((e.st ([40]++q) pd tr).2.1+1),(e.st ([40]++q) pd tr).2.2.1,(e.st ([40]++q) pd tr).2.2.2.1,(e.st ([40]++q) pd tr).2.2.2.2.1,(e.st ([40]++q) pd tr).2.2.2.2.2.1,(e.st ([40]++q) pd tr).2.2.2.2.2.2.1,(e.st ([40]++q) pd tr).2.2.2.2.2.2.2.1,(e.st ([40]++q) pd tr).2.2.2.2.2.2.2.2)=some d:=by rw[<-o];exact mj g2 (sy h 1 rfl)
  rw[p,aO rfl];have g:IS R (e.st ([40]++q) pd tr) d=fixF (z5 R (yQ R)) bC d:=by unfold IS;rcases j with⟨s,t, -,rfl, -⟩|⟨-,rfl⟩<;>rfl
  rw[g];exact(ZP (r0:=[40]++q) bk hD bd (h.mono c) j).mono c
 ·have b:au r≠ .op [40]:=λf=>a ((mG (by simp)).1 f);simp only[a,b,bF,aS,cm];rw[IP];have g:IS R (e.st r pd tr) (e.st r pd tr)=fixF (z5 R (yQ R)) bC (e.st r pd tr):=rfl;rw[g];exact ZP (r0:=r) bk hD bd h (.inl ⟨r,tr,i,rfl,l,h,fK,i⟩)
omit bk hD bd in
theorem SY{k:ah->Option ah}{x:ah}(h:x.2.2.2.2.1≠0):IV R k x=k x:=by unfold IV;simp_all[cR]
omit bk hD bd in
theorem SZ{k:ah->Option ah}{x:ah}(h:x.2.2.2.2.1≠0):IW R k x=k x:=by unfold IW;simp only[h,bF,cR,eC,cm,aS];exact SY h
theorem amB{r:aa}{pd:aq}{st:ah}(h:cB e r pd)(I:fW e r pd st):bM false e r ((nn (aZ true n) (a_ true n)).aM yR r pd) (λst=>st) (λ_ _ _=>True) (fixF (Em R yS) bC st):=by
 rw[amr,amx _ _ _ _ _ _ (cX _)];refine bM.rep (en:=λ_ r pd x=>fW e r pd x) (λk s r pd x p w J hk=>?_) bC () r pd _ (vM h) h I
 have m:∀x:ah,x.2.2.2.2.1≠0->k x=yS x:=by intro x w;obtain⟨k',ad⟩:=J x;simp_all[ZQ]
 have K:yR.length<=100:=by decide
 have y:∀{r1:aa}{nd:aa}{ds:aq}{st:ah}{op:bs},r1<:+r->iz false e r1 nd ds st->nd.length+ei ds<=100*e.S.length+500->oU (aZ true n) (a_ true n) s r pd= .more op nd ds->bM false e r (cN (λs=>(oU (aZ true n) (a_ true n) s).aM yR) r ((oU (aZ true n) (a_ true n) s).aM yR r pd)) (λst=>st) (λ_ _ _=>True) (k st):=by intro r1 nd ds st op ad D L M;rw[sx M,m st (by rw[D.z.1];decide)];obtain⟨z,N,O⟩:=FD (q:=false) (x:=yR) (p.mono ad) D ad L K;unfold yS;rw[show([10,101,115,97,99]:aa)=yR from rfl,N];exact⟨z,rfl,O⟩
 rw[ZQ,w.eta.2.2.2.2.1];simp only[bx,aK];obtain⟨U,P,f⟩:=Fk p w;rw[P,aO rfl];have Q:=aI.low (aI.lines (c:=0)) p;cases hm:cS r pd with
 |ok a r1 i=>
  rw[hm] at f;obtain⟨t,a2,a3,u,V⟩:=f;obtain⟨tr,rfl,S⟩:=a3;unfold IW;have v:(e.st r1 i tr).2.2.2.2.1=0:=rfl;rw[v,qj,fV];simp only[bx,cG,aK];by_cases A:r1=[]
  ·subst A;simp only[bx,aK];obtain⟨z,B,o⟩:=uF (tr:=tr) (x:=[]) a2 (by decide);rw[B,aO rfl,SY (by rw[o.1];decide)];have g:oU (aZ true n) (a_ true n) s r pd= .more [] [] i:=by unfold oU;rw[aY hm,aY (cA u)];rfl
   exact y t o.s (by have:=a2.jJ;show([]:aa).length+ei i<=_;omega) g
  ·simp only[A,bF,aS];unfold IV;rw[v,vN a2,fV];simp only[bx,cG,aK];have E:=h.nl.h4 a2.sfx;have T:au r1≠ .eof:=λC=>A (lQ.1 C);by_cases aH:iU r1=[101,115,97,99]
   ·have F:=(ry E IU.1 IU.2).1 aH;simp only[aH,bx,aK];obtain⟨q,rfl⟩:=(qd F).1;have G:q<:+ep++q:=gQ _ q;have g:oU (aZ true n) (a_ true n) s r pd= .ok (.inr ()) q i:=by unfold oU;rw[aY hm,aY (cA u),F];rfl
    rw[pJ g];exact⟨_,mj some (sy a2 4 rfl),G.trans t,a2.mono G,⟨tr,rfl,λC=>absurd C (a2.tu (by decide) (by decide))⟩,trivial⟩
   ·have bg:cE (au r1) ep=false:=by rw[<-IG E IU.1 IU.2];exact e4 aH
    simp only[aH,bF,aS];have j:oU (aZ true n) (a_ true n) s r pd=ae (AB (aZ true n) (a_ true n) (au r1)) (λ_=>aU (.inl ())) r1 i:=by unfold oU;rw[aY hm,aY (cA u),aW T,aW (by grind)]
    have d:=amA bk hD bd a2 ⟨tr,rfl,S⟩ u;obtain⟨b,H,d⟩:=d;rw[H,aO rfl];have W:∀op nd ds,AB (aZ true n) (a_ true n) (au r1) r1 i= .more op nd ds->nd.length+ei ds<=100*e.S.length+50:=aI.low (amz (w3 true n) (tm true n) _) a2
    cases l:AB (aZ true n) (a_ true n) (au r1) r1 i with
    |ok a2 X Y=>rw[l] at d;obtain⟨Z,fu,iS,_⟩:=d;rw[aY l] at j;have hl:=ams (s':=()) j;rw[pJ j];grind[bM.inl]
    |more op nd ds=>grind[dc]
    |bad q=>rw[l] at d;rw[gY l] at j;rw[uG j];rw[m b (by rw[d.1];decide)];unfold yS;rw[rA d];exact⟨_,rfl,d.mono t⟩
    |deep q=>rw[l] at d;rw[jM l] at j;rw[uH j];rw[m b (by rw[d.1];decide)];unfold yS;rw[rA d];exact⟨_,rfl,d.mono t⟩
 |more op nd ds=>
  rw[hm] at f;have g:oU (aZ true n) (a_ true n) s r pd= .more op nd ds:=by unfold oU;grind[dc]
  have H:=Q _ _ _ hm;rcases f with f|⟨_,rfl,rfl⟩
  ·rw[SZ (by grind)];exact y List.suffix_rfl (.inl f) (by omega) g
  ·unfold IW;have v:(e.tt ds).2.2.2.2.1=0:=rfl;rw[v,oS,fV];simp only[decide_true,if_true,cond_true];obtain⟨z,B,o⟩:=FG (pd:=ds) (x:=[]) p (by omega) (by simp);rw[B,aO rfl,SY (by rw[o.1];decide)];exact y fK o.s (by show([]:aa).length+ei ds<=_;omega) g
 |bad q=>
  rw[hm] at f;have g:oU (aZ true n) (a_ true n) s r pd= .bad q:=by simp_all[oU,gY]
  rw[uG g,SZ (by rw[f.1];decide),m _ (by rw[f.1];decide)];unfold yS;rw[rA f];exact⟨_,rfl,f⟩
 |deep q=>
  rw[hm] at f;have g:oU (aZ true n) (a_ true n) s r pd= .deep q:=by simp_all[oU,jM]
  rw[uH g,SZ (by rw[f.1];decide),m _ (by rw[f.1];decide)];unfold yS;rw[rA f];exact⟨_,rfl,f⟩
end
def pK(D:ak Unit):ak Tok:=ae (cP D) λ_=>ae cS λ_=>ae (bP []) λt=>if t= .eof then b6 [] else aU t
theorem amC(l:dS)(D:ak Unit):qN l D=ae (bP AE) λt=>match t with
 | .eof=>b6 AE
 | .word _ _=>ae ((pK D).aM FF) λt=>if cE t fl then ae (bZ 2) λ_=>(nn l D).aM yR else bK
 |_=>bK:=rfl
section
variable{R:bh}{n:Nat}(bk:oo R n)(hD:kp R n){e:cd}(bd:e.ne=30- (n:Int))
theorem MH{r r0:aa}{nd:aa}{ds:aq}{st:ah}{b:aq}(h0:cB e r b)(hm:iz false e r nd ds st)(c:r<:+r0)(d:nd.length+ei ds<=100*e.S.length+500):∃a,xm R st=some a/\iz false e r0 (cO nd ds FF).1 (cO nd ds FF).2 a:=by obtain⟨a,f,g⟩:=FD (q:=false) (x:=FF) h0 hm c d (by decide);unfold xm;rw[hm.z.1];simp only[show¬((1:Int)=0) by decide,bF,e3,aK];rw[show([32,105,110,10,101,115,97,99]:aa)=FF from rfl,f];exact⟨a,rfl,g⟩
theorem MI{r:aa}{st:ah}(hm:iL e r st):xm R st=some st:=by unfold xm;rw[hm.1];simp only[show¬((2:Int)=0) by decide,bF,e3,aK];rw[rA hm];rfl
theorem S0{st:ah}(hm:st.2.2.2.2.1≠0):IX R st=xm R st:=by simp_all[IX]
include bk hD bd
theorem amD{r r0:aa}{pd:aq}{st:ah}(h:cB e r pd)(d:fW e r pd st)(h0:r<:+r0)(k:bu r=some r)(l:r≠[]):bM false e r0 ((if cE (au r) fl then ae (bZ 2) λ_=>(nn (aZ true n) (a_ true n)).aM yR else bK:ak Unit) r pd) (λst=>st) (λ_ _ _=>True) (xm R st):=by
 obtain⟨tr,rfl,m⟩:=d;have f:(e.st r pd tr).2.2.2.2.1=0:=rfl;unfold xm;rw[f,vN h,aO rfl];simp only[bx,gP,aS];have a:=h.nl.h4 h.sfx;by_cases aH:iU r=[105,110]
 ·have g:=(ry a Ay.1 Ay.2).1 aH;simp only[aH,bx,gP,aS];have bg:cE (au r) fl=true:=by grind[cE]
  rw[bm bg];obtain⟨q,rfl⟩:=(qd g).1;rw[aY (show bZ 2 (fl++q) pd= .ok () q pd from rfl)];have b:q<:+fl++q:=gQ _ q;have aG:=amB bk hD bd (h.mono b) (st:=e.st q pd tr) ⟨tr,rfl,λi=>absurd i (h.tu (by decide) (by decide))⟩;refine bM.dV (aG.mono (b.trans h0)) ?_;exact mj (fixF (Em R yS) bC) (sy h 2 rfl)
 ·have bg:cE (au r) fl=false:=by rw[<-IG a Ay.1 Ay.2];exact e4 aH
  simp only[aH,bF,e3,aK];rw[aW (by grind)];obtain⟨o,c,j⟩:=pI (tr:=tr) (e.st r pd tr).2.1 h h0;rw[c,aO rfl];exact⟨_,rfl,by cases c;exact j⟩
theorem amE{r r0:aa}{pd:aq}{tr0:Bool}(h:cB e r pd)(g:r<:+r0){w:aa}{p:Bool}(N:au r= .word w p):bM false e r0 (ae ((pK (a_ true n)).aM FF) (λt=>if cE t fl then ae (bZ 2) λ_=>(nn (aZ true n) (a_ true n)).aM yR else bK) r pd) (λst=>st) (λ_ _ _=>True) (av (p7 R (e.st r pd tr0)) λy=>IX R y.2.2):=by
 have b:=Fq hD bd (tr0:=tr0) h;have O:=aI.low (aI.cP (w3 true n▸(tm true n).dl)) h;obtain⟨⟨P,Q,S⟩,D,b⟩:=b;rw[D,aO rfl];dsimp only at b⊢;cases hm:cP (a_ true n) r pd with
 |ok a E F=>
  rw[hm] at b;obtain⟨m,a2,a3, -, -, -⟩:=b;unfold IX;rw[a3.eta.2.2.2.2.1];simp only[bx,aK];obtain⟨T,G,d⟩:=Fk a2 a3;rw[G,aO rfl];have H:=aI.low (aI.lines (c:=0)) a2;cases i:cS E F with
  |ok U o s=>
   rw[i] at d;obtain⟨e5,u,I,z,V⟩:=d;obtain⟨tr,rfl,J⟩:=I;have A:(e.st o s tr).2.2.2.2.1=0:=rfl;rw[A,qj,fV];simp only[bx,cG,aK];by_cases v:o=[]
   ·subst v;simp only[bx,aK];obtain⟨K,B,C⟩:=uF (tr:=tr) (x:=[]) u (by decide);rw[B,aO rfl];have f:pK (a_ true n) r pd= .more [] [] s:=by unfold pK;rw[aY hm,aY i,aY (cA z)];rfl
    rw[dc (sx f)];have:=u.jJ;obtain⟨j,k,l⟩:=MH (R:=R) u C.s (e5.trans (m.trans g)) (by show([]:aa).length+ei s<=_;omega);exact⟨j,k,l⟩
   ·simp only[v,bF,aS];have L:au o≠ .eof:=λM=>v (lQ.1 M);have f:pK (a_ true n) r pd= .ok (au o) o s:=by unfold pK;rw[aY hm,aY i,aY (cA z),aW L];rfl
    rw[aY (pJ f)];exact amD bk hD bd u ⟨tr,rfl,J⟩ (e5.trans (m.trans g)) z v
  |more op nd ds=>
   rw[i] at d;have f:pK (a_ true n) r pd= .more op nd ds:=by unfold pK;grind[aY,dc]
   rw[dc (sx f)];have W:=H _ _ _ i;rcases d with d|⟨_,rfl,rfl⟩
   ·rw[d.1];simp only[show¬((1:Int)=0) by decide,bF,cR,eC,cm,aS];obtain⟨j,k,l⟩:=MH (R:=R) a2 (.inl d) (m.trans g) (by omega);exact⟨j,k,l⟩
   ·have A:(e.tt ds).2.2.2.2.1=0:=rfl;rw[A,oS,fV];simp only[bx,cG,aK];obtain⟨K,B,C⟩:=FG (pd:=ds) (x:=[]) a2 (by omega) (by simp);rw[B,aO rfl];obtain⟨j,k,l⟩:=MH (R:=R) a2 C.s (m.trans g) (by show([]:aa).length+ei ds<=_;omega);exact⟨j,k,l⟩
  |bad q=>
   rw[i] at d;have f:pK (a_ true n) r pd= .bad q:=by unfold pK;grind[aY,gY]
   rw[gY (uG f),d.1];simp only[show¬((2:Int)=0) by decide,bF,cR,eC,cm,aS];rw[MI d];exact⟨_,rfl,d.mono (m.trans g)⟩
  |deep q=>
   rw[i] at d;have f:pK (a_ true n) r pd= .deep q:=by unfold pK;grind[aY,jM]
   rw[jM (uH f),d.1];simp only[show¬((2:Int)=0) by decide,bF,cR,eC,cm,aS];rw[MI d];exact⟨_,rfl,d.mono (m.trans g)⟩
 |more op nd ds=>
  rw[hm] at b;have f:pK (a_ true n) r pd= .more op nd ds:=by unfold pK;rw[dc hm]
  rw[dc (sx f),S0 (by rw[b.z.1];decide)];obtain⟨j,k,l⟩:=MH (R:=R) h b g (by grind);exact⟨j,k,l⟩
 |bad q=>
  rw[hm] at b;have f:pK (a_ true n) r pd= .bad q:=by simp_all[pK,gY]
  rw[gY (uG f),S0 (by rw[b.1];decide),MI b];exact⟨_,rfl,b.mono g⟩
 |deep q=>
  rw[hm] at b;have f:pK (a_ true n) r pd= .deep q:=by simp_all[pK,jM]
  rw[jM (uH f),S0 (by rw[b.1];decide),MI b];exact⟨_,rfl,b.mono g⟩
theorem amF{r:aa}{pd:aq}{st:ah}(h:cB e r pd)(s:fW e r pd st):bM false e r (qN (aZ true n) (a_ true n) r pd) (λst=>st) (λ_ _ _=>True) (En R st):=by
 rw[amC,amy];obtain⟨tr,rfl,t⟩:=s;rcases xa h ⟨tr,rfl,t⟩ with⟨a,y,i,j,u,k,m,z⟩|⟨i,j⟩
 ·rw[j,aO rfl,aY (cA i)];obtain⟨b,rfl,A⟩:=u;have l:((e.st a pd b).1,(e.st a pd b).2.1,(e.st a pd b).2.2.1,(e.st r pd tr).2.2.2.1,(e.st a pd b).2.2.2.2.1,(e.st a pd b).2.2.2.2.2.1,(e.st a pd b).2.2.2.2.2.2.1,(e.st r pd tr).2.2.2.2.2.2.2.1,(e.st a pd b).2.2.2.2.2.2.2.2)=e.st a pd b:=rfl;rw[l];unfold SX;rw[qj,aO rfl];by_cases g:a=[]
  ·subst g;simp only[bx,aK];obtain⟨d,c,f⟩:=uF (tr:=b) (x:=AE) k (by decide);rw[show([120,32,105,110,10,101,115,97,99]:aa)=AE from rfl,c,aO rfl];exact⟨d,rfl,(f.mono m).s⟩
  ·simp only[g,bF,aS];rw[Mv k g,aO rfl];have q:∃d,hg (e.st a pd b) (e.st a pd b).2.1=some d/\iL e r d:=pI _ k m
   have B:au a≠ .eof:=λv=>g (lQ.1 v);cases C:au a with
   |eof=>grind
   |line=>simp only[aK];obtain⟨d,c,f⟩:=q;rw[c,aO rfl];exact⟨_,rfl,by cases c;exact f⟩
   |op o=>simp only[aK];obtain⟨d,c,f⟩:=q;rw[c,aO rfl];exact⟨_,rfl,by cases c;exact f⟩
   |word w p=>simp only[aS];grind[amE]
 ·rw[j,aO rfl,dc (op:=[]) (nd:=(cO [] pd AE).1) (ds:=(cO [] pd AE).2) (by rw[iw i];rfl)];have l:((e.tt pd).1,(e.tt pd).2.1,(e.tt pd).2.2.1,(e.st r pd tr).2.2.2.1,(e.tt pd).2.2.2.2.1,(e.tt pd).2.2.2.2.2.1,(e.tt pd).2.2.2.2.2.2.1,(e.st r pd tr).2.2.2.2.2.2.2.1,(e.tt pd).2.2.2.2.2.2.2.2)=e.tt pd:=rfl;rw[l];unfold SX;rw[oS,aO rfl];simp only[aK];obtain⟨d,c,f⟩:=CG (x:=AE) h.Au (by decide);rw[show([120,32,105,110,10,101,115,97,99]:aa)=AE from rfl,c,aO rfl];exact⟨d,rfl,(f.mono ov).s⟩
end
theorem MJ:(iQ:aa)≠[]/\iQ.all gm=true:=by decide
theorem CO:(e8:aa)≠[]/\e8.all gm=true:=by decide
theorem S1:(hM:aa)≠[]/\hM.all gm=true:=by decide
theorem S2:(ib:aa)≠[]/\ib.all gm=true:=by decide
theorem MK:([125]:aa)≠[]/\([125]:aa).all gm=true:=by decide
theorem S3(t:Tok)(h:dR .p9 t=true):∃w,t= .word w true/\w≠[]/\w.all gm=true/\(w=ib\/w=hM\/w=e8):=by
 simp only[dR,AN] at h;rcases h with(h|h)|h
 ·exact⟨ib,Fz h,S2.1,S2.2,.inl rfl⟩
 ·exact⟨hM,Fz h,S1.1,S1.2,.inr (.inl rfl)⟩
 ·exact⟨e8,Fz h,CO.1,CO.2,.inr (.inr rfl)⟩
theorem amG{β:Type}{m:Nat}{c:Ctx}{no:Bool}{kw x y:aa}{K:ak β}(aG:c≠ .text)(b:∀t,dR c t=cE t kw)(e:kw≠[]/\kw.all gm=true){r:aa}{pd:aq}(f:du r):
  ae (((aZ true m).ls c no).aM x) (λ_=>ae ((cV kw).aM y) (λ_=>K)) r pd=ae (ae (((aZ true m).ls c no).aM x) (λ_=>sw)) (λ_=>K) r pd:=by
 rw[<-My aG b e f];cases hm:(((aZ true m).ls c no).aM x) r pd with
 |ok a r1 g=>
  rw[aY hm,aY hm];have d:=jv.1 hm;obtain⟨ao,e2⟩:=Ap true m;rw[e2] at d;obtain⟨h,i⟩:=yC aG d;rw[b] at i;have j:au r1= .word kw true:=by grind[cE]
  have:=Fx (pd:=g) h j;grind[aY,pJ]
 |more op nd ds=>grind[dc]
 |bad q=>grind[gY]
 |deep q=>grind[jM]
def S4:aa:=[10]++iQ++[32,120,10]++e8
def xn:aa:=10::e8
def ML(l:dS):Unit->ak (Unit⊕Unit):=λ_=>ae ((l.ls .rl false).aM S4) λ_=>ae (cV iQ) λ_=>ae ((l.ls .p9 false).aM xn) λ_=>
    ae (bP []) λt=>if cE t ib then ae (cV ib) λ_=>aU (.inl ()) else
     if cE t hM then ae (cV hM) λ_=>ae ((l.ls .ke false).aM xn) λ_=>ae (cV e8) λ_=>aU (.inr ()) else ae (cV e8) λ_=>aU (.inr ())
theorem amH(l:dS):qM l=ca (ML l) ():=rfl
theorem amI{n:Nat}{s':Unit}{r:aa}{pd:aq}{r':aa}{a:aq}(h:ML (aZ true n) () r pd= .ok (.inl s') r' a):r'.length<r.length:=(Xl (pC true n)).lt (s:=()) h
def MM(l:dS):ak (Unit⊕Unit):=ae ((l.ls .p9 false).aM xn) λ_=>
    ae (bP []) λt=>if cE t ib then ae (cV ib) λ_=>aU (.inl ()) else
     if cE t hM then ae (cV hM) λ_=>ae ((l.ls .ke false).aM xn) λ_=>ae (cV e8) λ_=>aU (.inr ()) else ae (cV e8) λ_=>aU (.inr ())
def S5(l:dS):ak (Unit⊕Unit):=ae (ae ((l.ls .p9 false).aM xn) λ_=>sw) λa=>if a=ib then aU (.inl ()) else if a=hM then ae (ae ((l.ls .ke false).aM xn) λ_=>sw) λ_=>aU (.inr ()) else aU (.inr ())
theorem amJ{n:Nat}{s:Unit}{r:aa}{pd:aq}(a:du r):ML (aZ true n) s r pd=ae (ae (((aZ true n).ls .rl false).aM S4) λ_=>sw) (λ_=>MM (aZ true n)) r pd:=by show ae (((aZ true n).ls .rl false).aM S4) (λ_=>ae (cV iQ) λ_=>MM (aZ true n)) r pd=_;exact My (by simp) ZB MJ a
theorem amK{r:aa}{pd:aq}{w:aa}(a:du r)(b:w≠[]/\w.all gm=true)(c:au r= .word w true):sw r pd= .ok w (r.drop w.length) pd:=by grind[ry,sw]
theorem amL{n:Nat}{r:aa}{pd:aq}(g:du r):MM (aZ true n) r pd=S5 (aZ true n) r pd:=by
 unfold MM S5;rw[kn];cases hm:(((aZ true n).ls .p9 false).aM xn) r pd with
 |ok a r1 h=>
  rw[aY hm,aY hm];have e:=jv.1 hm;have i:=((pC true n).ls .p9 false).sfx e;have f:=g.h4 i;obtain⟨ao,e2⟩:=Ap true n;rw[e2] at e;obtain⟨d,j⟩:=yC (by simp) e;obtain⟨w,b,k,l,o⟩:=S3 _ j;rw[aY (cA d),aY (amK f ⟨k,l⟩ b),b];rcases o with rfl|rfl|rfl
  ·rw[bm (by decide),bm rfl,aY (Fx d b)]
  ·rw[aW (by decide),bm (by decide),aW (by decide),bm rfl,aY (Fx d b)];have aH:du (r1.drop hM.length):=f.h4 (lE _ _);have:=My (β:=Unit⊕Unit) (m:=n) (no:=false) (x:=xn) (K:=aU (.inr ())) (c:= .ke) (by simp) ZD CO aH (pd:=h);omega
  ·rw[aW (by decide),aW (by decide),aW (by decide),aW (by decide),aY (Fx d b)]
 |more op nd ds=>grind[dc]
 |bad q=>grind[gY]
 |deep q=>grind[jM]
noncomputable def CP(R:bh):aa×ah->Option ah:=λy=>
 (bif(bif(decide (y.2.2.2.2.2.1=0)) then(decide (y.1=([101,108,115,101]:aa))) else false) then(av (pw R y.2 ([([102,105]:aa)]:bs) ([10,102,105]:aa)) λ(b,a)=>some a) else some y.2)
theorem ZU(R:bh)(j:aa×ah->Option ah)(k:aa×ah->Option ah)(y:aa×ah):HS R j k y=(bif(bif(decide (y.2.2.2.2.2.1=0)) then(decide (y.1=([101,108,105,102]:aa))) else false) then
 (av (pw R y.2 ([([116,104,101,110]:aa)]:bs) ([10,116,104,101,110,32,120,10,102,105]:aa)) λz=>
 (bif(decide (z.2.2.2.2.2.1=0)) then
 (av (pw R z.2 ([([101,108,105,102]:aa),([101,108,115,101]:aa),([102,105]:aa)]:bs) ([10,102,105]:aa)) λv=>k v)
 else k (y.1,z.2)))
 else j y):=rfl
section
variable{R:bh}{n:Nat}(bk:oo R n)(hD:kp R n){e:cd}(bd:e.ne=30- (n:Int))
theorem MN{y:aa×ah}(h:y.2.2.2.2.2.1≠0):CP R y=some y.2:=by simp_all[CP]
include bk bd
theorem amM{r:aa}{pd:aq}{st:ah}(h:cB e r pd)(E:fW e r pd st):bM false e r (qM (aZ true n) r pd) (λst=>st) (λ_ _ _=>True) (fixF (HS R (CP R)) bC (ib,st)):=by
 rw[amH];refine bM.rep (en:=λ_ r pd (x:aa×ah)=>x.1=ib/\fW e r pd x.2) (λk s r pd x l i F hk=>?_) bC () r pd _ (vM h) h ⟨rfl,E⟩;obtain⟨W,x⟩:=x;obtain⟨rfl,i⟩:=i;dsimp only at i
 have g:∀y:aa×ah,(y.2.2.2.2.2.1≠0\/y.1≠ib)->k y=CP R y:=by
  intro y bz;obtain⟨k',ad⟩:=F y;rw[ad,ZU];rcases bz with bz|bz
  ·grind
  ·have:decide (y.1=([101,108,105,102]:aa))=false:=e4 bz;grind
 rw[ZU];dsimp only;rw[i.eta.2.2.2.2.1,decide_eq_true (show(ib:aa)=[101,108,105,102] from rfl)];simp only[bx,aK];have d:∀{u:aa}{m:aq},ML (aZ true n) s r pd= .ok (.inl ()) u m->u.length<r.length:=λG=>amI (s':=()) G
 rw[amJ (l.nl.h4 l.sfx)] at d⊢;refine bM.iy (C:=cN _ r) c2.k (CH bk bd (c:= .rl) rfl (by simp) (FA ZB MJ) (by decide) l i) (λa r1 X b H s1 o z Y=>?_) (λop nd ds b _ p=>?_) (λb q=>?_)
 ·rw[aY H] at d;rw[z.eta.2.2.2.2.1];simp only[bx,aK];rw[amL (o.nl.h4 o.sfx)] at d⊢;unfold S5 at d⊢;have I:=(CH bk bd (c:= .p9) (x:=xn) rfl (by simp) (λt Z=>by grind[S3]) (by decide) o z).mono s1;refine bM.iy (C:=cN _ r) c2.k I (λa2 J K f L s2 v j M=>?_) (λop nd ds f _ A=>?_) (λf B=>?_)
  ·rw[aY L] at d;obtain⟨rfl, -,N, -⟩:=M;obtain⟨w,O,fq,iJ,P⟩:=S3 _ N;cases O;rcases P with sv|sv|sv
   ·rw[sv] at d⊢;rw[bm rfl] at d⊢;have hl:=d rfl;exact bM.inl hl (hk () J K f s2 v hl ⟨sv,j⟩)
   ·rw[sv,aW (by decide),bm rfl,g f (.inr (by rw[sv];decide))];unfold CP;rw[j.eta.2.2.2.2.1,sv,decide_eq_true (show(hM:aa)=[101,108,115,101] from rfl)];simp only[bx,aK];have Q:=(CH bk bd (c:= .ke) (x:=xn) rfl (by simp) (FA ZD CO) (by decide) v j).mono s2;refine bM.iy (C:=cN _ r) c2.k Q (λa3 ct b3 D Md S T U V=>?_) (λop nd ds D _ oL=>?_) (λD kr=>?_)
    ·exact⟨_,rfl,S,T,U,trivial⟩
    ·grind
    grind
   ·rw[sv,aW (by decide),aW (by decide),g f (.inr (by rw[sv];decide))];unfold CP;rw[sv,e4 (show¬(e8:aa)=[101,108,115,101] by decide)]
    have:∀b:Bool,(bif b then false else false)=false:=by decide
    rw[this];exact⟨_,rfl,s2,v,j,trivial⟩
  ·rw[g f (.inl (by rw[A.z.1];decide)),MN (by rw[A.z.1];decide)];grind
  ·rw[g f (.inl (by rw[B.1];decide)),MN (by rw[B.1];decide)];grind
 ·rw[p.z.1];simp only[show¬((1:Int)=0) by decide,bF,aS];rw[g _ (.inl (by show b.2.2.2.2.2.1≠0;rw[p.z.1];decide)),MN (by show b.2.2.2.2.2.1≠0;rw[p.z.1];decide)];grind
 ·rw[q.1];simp only[show¬((2:Int)=0) by decide,bF,aS];rw[g _ (.inl (by show b.2.2.2.2.2.1≠0;rw[q.1];decide)),MN (by show b.2.2.2.2.2.1≠0;rw[q.1];decide)];grind
end
theorem CQ{α:Type}(m:Option α):av m (λy=>some y)=m:=by cases m<;>rfl
def yT(l:dS)(w:aa):ak Unit:=if w=[123] then ae ((l.ls .qL false).aM [10,125]) λ_=>cV [125]
 else if w=m1 then qM l
 else if w=nj then pA l l.dl
 else if w=px then qN l l.dl
 else ae ((l.ls .py false).aM eh) λ_=>iI l eh
section
variable{R:bh}{n:Nat}(bk:oo R n)(hD:kp R n){e:cd}(bd:e.ne=30- (n:Int))
noncomputable def S7(R:bh)(x0:ah):Option ah:=
 (av (pw R x0 ([([100,111]:aa)]:bs) ([10,100,111,32,120,10,100,111,110,101]:aa)) λz=>(bif(decide (z.2.2.2.2.2.1=0)) then(av (pw R z.2 ([([100,111,110,101]:aa)]:bs) ([10,100,111,110,101]:aa)) λv=>some v.2) else some z.2))
theorem amO(R:bh)(x0:ah)(w:aa):B3 R x0 w=(bif(decide (w=([123]:aa))) then(av (pw R x0 ([([125]:aa)]:bs) ([10,125]:aa)) λz=>some z.2) else
 (bif(bif(decide (w=([119,104,105,108,101]:aa))) then(decide (w=([119,104,105,108,101]:aa))) else(decide (w=([117,110,116,105,108]:aa)))) then S7 R x0 else
 (bif(decide (w=([105,102]:aa))) then fixF (HS R (CP R)) bC (ib,x0) else
 (bif(decide (w=([102,111,114]:aa))) then(av (Ep R x0) λy=>some y) else
 (bif(decide (w=([99,97,115,101]:aa))) then(av (En R x0) λy=>some y) else some x0))))):=by
 unfold B3 a9;cases decide (w=([123]:aa)) with
 |true=>rfl
 |false=>cases decide (w=([119,104,105,108,101]:aa))<;>rfl
include bk bd
theorem ZV{r:aa}{pd:aq}{st:ah}(h:cB e r pd)(i:fW e r pd st):bM false e r (ae (((aZ true n).ls .py false).aM eh) (λ_=>iI (aZ true n) eh) r pd) (λst=>st) (λ_ _ _=>True) (S7 R st):=by
 have j:ae (((aZ true n).ls .py false).aM eh) (λ_=>iI (aZ true n) eh) r pd=ae (ae (((aZ true n).ls .py false).aM eh) (λ_=>sw)) (λ_=>ae (((aZ true n).ls .done false).aM (10::iH)) λ_=>cV iH) r pd:=by unfold iI;exact amG (by simp) ZE vQ (h.nl.h4 h.sfx)
 rw[j];unfold S7;refine bM.iy (C:=λx=>x) c2.id (CH bk bd (c:= .py) rfl (by simp) (FA ZE vQ) (by decide) h i) (λa r1 p b q s1 d f s=>?_) (λop nd ds b _ k=>?_) (λb l=>?_)
 ·rw[f.eta.2.2.2.2.1];simp only[bx,aK];rw[SK (by simp) Mz FB (d.nl.h4 d.sfx)];refine bM.iy (C:=λx=>x) c2.id ((CH bk bd (c:= .done) rfl (by simp) (FA Mz FB) (by decide) d f).mono s1) (λa t u g v s2 m o w=>?_) (λop nd ds g _ y=>?_) (λg z=>?_)
  ·exact⟨_,rfl,s2,m,o,trivial⟩
  ·grind
  grind
 ·rw[k.z.1];grind
 ·rw[l.1];grind
include hD
theorem amP{r:aa}{pd:aq}{st:ah}(h:cB e r pd)(b:fW e r pd st){w:aa}(j:qK w=true):bM false e r (yT (aZ true n) w r pd) (λst=>st) (λ_ _ _=>True) (B3 R st w):=by
 rw[amO];unfold yT;have f:w=m1\/w=wU\/w=H6\/w=nj\/w=px\/w=[123]:=by grind[qK]
 rcases f with rfl|rfl|rfl|rfl|rfl|rfl
 ·rw[aW (by decide),bm rfl];exact amM bk bd h b
 ·rw[aW (by decide),aW (by decide),aW (by decide),aW (by decide)];exact ZV bk bd h b
 ·rw[aW (by decide),aW (by decide),aW (by decide),aW (by decide)];exact ZV bk bd h b
 ·rw[aW (by decide),aW (by decide),bm rfl,w3];refine bM.dV (amm bk hD bd h b h.sfx) ?_;exact CQ _
 ·rw[aW (by decide),aW (by decide),aW (by decide),bm rfl,w3];refine bM.dV (amF bk hD bd h b) ?_;exact CQ _
 ·rw[bm rfl,SK (by simp) ZC MK (h.nl.h4 h.sfx)];refine bM.iy (C:=λx=>x) c2.id (CH bk bd (c:= .qL) rfl (by simp) (FA ZC MK) (by decide) h b) (λa k l d m s2 g i o=>?_) (λop nd ds d _ p=>?_) (λd q=>?_)
  ·exact⟨_,rfl,s2,g,i,trivial⟩
  ·grind
  grind
end
def setAt(y:ah)(a:Int):ah:=(y.1,a,y.2.2.1,y.2.2.2.1,y.2.2.2.2.1,y.2.2.2.2.2.1,y.2.2.2.2.2.2.1,y.2.2.2.2.2.2.2.1,y.2.2.2.2.2.2.2.2)
noncomputable def AF(R:bh)(nm:aa):ah->Option ah:=λx=>
 (av (gr x nm ([])) λ(a:ah)=>(bif(decide (a.2.2.2.2.1=0)) then(av (B5 R (su a)) λ(b:ah)=>some b) else some (su a)))
noncomputable def ZW(R:bh):ah->Option ah:=λx=>
 (av (hr x) λ(c:aa)=>(bif(decide (c=([40]:aa))) then(av (R.nE (setAt x (W (x.2.1+1))) ([41]:aa) ([]:bs) true) λz=>(av (gr z.2 ([]) ([41]:aa)) λ(b:ah)=>AF R [40] (setAt b (W (b.2.1+1))))) else(av (lA x) λ(a:aa)=>(av (B3 R (setAt x (W (x.2.1+(a.length:Int)))) a) λ(d:ah)=>AF R a d))))
theorem amQ(R:bh)(x0:ah):yp R x0=(av (yi x0 x0.2.1) λz=>
 (bif(!z.1) then
 some (z.2.1,z.2.2.1,z.2.2.2.1,x0.2.2.2.1,z.2.2.2.2.2.1,z.2.2.2.2.2.2.1,z.2.2.2.2.2.2.2.1,x0.2.2.2.2.2.2.2.1,z.2.2.2.2.2.2.2.2.2)
 else ZW R (z.2.1,z.2.2.1,z.2.2.2.1,x0.2.2.2.1,z.2.2.2.2.2.1,z.2.2.2.2.2.2.1,z.2.2.2.2.2.2.2.1,x0.2.2.2.2.2.2.2.1,z.2.2.2.2.2.2.2.2.2))):=rfl
theorem ZX{st:ah}{nm:aa}(h:st.2.2.2.2.1=1)(ax:nm≠[])(i:st.2.2.2.2.2.2.2.1.length<=2000000)(j:st.2.2.2.2.2.2.1.length+ei st.2.2.2.1<=1000000000):gr st nm []=some (st.1,st.2.1,st.2.2.1,st.2.2.2.1,st.2.2.2.2.1,st.2.2.2.2.2.1,st.2.2.2.2.2.2.1,[nm]++st.2.2.2.2.2.2.2.1,st.2.2.2.2.2.2.2.2):=by
 obtain⟨a,b,c,d,uE,f,g,op,tr⟩:=st;simp only at h i j⊢;subst h;have l:=tn d
 have k:∀e,vq (a,b,c,d,1,f,g,e,tr) []=some (a,b,c,(cO g d []).2,1,f,(cO g d []).1,e,tr):=λe=>CB _ _ _ _ _ _ _ _ _ _ (by simp) (by omega) (by omega)
 unfold gr a9;simp only[bx,aK];simp only[ax,bF,e3,aK];rw[b8 (by grind),k,aO rfl];rfl
theorem ZY{R:bh}{e:cd}{q r:aa}{nd:aa}{ds:aq}{y:ah}{nm:aa}(hm:nX e.up q nd ds y)(i:q<:+r)(hl:q.length<r.length)(f:r<:+e.S)(j:e.S.length<=1000000)(k:nd.length+ei ds<=100*e.S.length+1000)(ax:nm≠[])(a:Int)(l:y.2.1<=a/\a<=y.2.1+1):∃c,AF R nm (setAt y a)=some c/\iz true e r nd ds c:=by
 obtain⟨ad,g,h,b,m⟩:=hm;have d:=f.length_le;have n:=b.op;unfold AF;rw[ZX (st:=setAt y a) ad ax (by show y.2.2.2.2.2.2.2.1.length<=_;omega) (by show y.2.2.2.2.2.2.1.length+ei y.2.2.2.1<=_;grind),aO rfl];show∃c,(bif decide (y.2.2.2.2.1=0) then _ else _)=some c/\_
 rw[ad];simp only[show¬((1:Int)=0) by decide,decide_false,cond_false];refine⟨_,rfl,.inl ⟨ad,g,h,⟨b.s,?_,?_,b.nd,?_⟩,?_⟩⟩
 ·show ay e.S r<=a;have:ay e.S r<=ay e.S q:=by grind[ay]
  have:=b.lo;have hu:ay e.up.S q=ay e.S q:=rfl;omega
 ·show a<=_;have:=b.bg;have hu:e.up.S=e.S:=rfl;grind
 ·show([nm]++y.2.2.2.2.2.2.2.1).length<=_;grind
 ·show _<=a;have hu:e.up.S=e.S:=rfl;grind
theorem MO{R:bh}{e:cd}{q r:aa}{y:ah}{nm:aa}(hm:iL e.up q y)(d:q<:+r)(hl:q.length<r.length)(a:Int)(f:y.2.1<=a/\a<=y.2.1+1):∃c,AF R nm (setAt y a)=some c/\iL e r c:=by
 obtain⟨ad,b⟩:=hm;have g:=b.op;unfold AF;rw[pG (st:=setAt y a) (by show y.2.2.2.2.1≠1;omega),aO rfl];show∃c,(bif decide (y.2.2.2.2.1=0) then _ else _)=some c/\_
 rw[ad];simp only[show¬((2:Int)=0) by decide,bF,aS];refine⟨_,rfl,ad,⟨b.s,?_,?_,b.nd,?_⟩⟩
 ·show ay e.S r<=a;have:ay e.S r<=ay e.S q:=by grind[ay]
  have:=b.lo;have hu:ay e.up.S q=ay e.S q:=rfl;omega
 ·show a<=_;have:=b.bg;have hu:e.up.S=e.S:=rfl;grind
 ·show y.2.2.2.2.2.2.2.1.length<=_;omega
theorem ZZ{R:bh}{e:cd}{q:aa}{pd:aq}{tr:Bool}{nm:aa}{n:Nat}(bd:e.ne=30- (n:Int))(ax:n<=30):AF R nm (e.up.st q pd tr)=B5 R (e.st q pd tr):=by
 unfold AF;rw[pG (by show(0:Int)≠1;decide),aO rfl];have h0:(e.up.st q pd tr).2.2.2.2.1=0:=rfl;rw[h0];simp only[bx,aK];have:su (e.up.st q pd tr)=e.st q pd tr:=by
  show(e.S,ay e.S q,W (e.ne+1-1),pd,(0:Int),(0:Int),([]:aa),([]:bs),tr)=_;have ad:e.ne+1-1=e.ne:=by omega
  rw[ad,dU (by omega) (by omega)];rfl
 grind[CQ]
section
variable{R:bh}{n:Nat}(gF:∀m,n=m+1->kp R m/\oo R m)(hD:kp R n)(ax:n<=30){e:cd}(bd:e.ne=30- (n:Int))
include gF hD ax bd
theorem Z0{r:aa}{pd:aq}{st:ah}(h:cB e r pd)(Y:fW e r pd st)(ag:bu r=some r)(aG:hs (au r)=true):bM true e r (ae ((aZ true n).cp (au r)) (λ_=>gO (a_ true n)) r pd) (λst=>st) (λ_ _ _=>True) (yp R st):=by
 obtain⟨tr,rfl,gZ⟩:=Y;rw[amQ];unfold yi;have Z:=h.nl.h4 h.sfx;cases n with
 |zero=>
  have C:decide (30<=(e.st r pd tr).2.2.1)=true:=by show decide (30<=e.ne)=true;grind
  rw[C];have aC:(aZ true 0).cp (au r) r pd= .deep r:=rfl;rw[jM aC];obtain⟨st,j,c⟩:=pI (tr:=tr) ((e.st r pd tr).2.1) h fK;simp only[aK,ss];rw[j,aO rfl,aO rfl];exact⟨_,rfl,by cases j;exact c⟩
 |succ m=>
  obtain⟨Mr,N⟩:=gF m rfl;have C:decide (30<=(e.st r pd tr).2.2.1)=false:=by show decide (30<=e.ne)=false;grind
  rw[C];simp only[aS,nY,gP];have xe:W ((e.st r pd tr).2.2.1+1)=e.ne+1:=dU (by show-_<=e.ne+1;omega) (by grind);rw[xe];have II:((e.st r pd tr).1,(e.st r pd tr).2.1,e.ne+1,(e.st r pd tr).2.2.2.1,(e.st r pd tr).2.2.2.2.1,(e.st r pd tr).2.2.2.2.2.1,(e.st r pd tr).2.2.2.2.2.2.1,(e.st r pd tr).2.2.2.2.2.2.2.1,(e.st r pd tr).2.2.2.2.2.2.2.2)=e.up.st r pd tr:=rfl;rw[II];unfold ZW;rw[rz h.xd,aO rfl];have O:e.up.ne=30- (m:Int):=by show e.ne+1=_;omega
  have Ff:(aZ true (m+1)).cp (au r)=(hN (aZ true m) (au r)).named (mx (au r)):=rfl;rw[Ff];by_cases A:br r=[40]
  ·have P:au r= .op [40]:=(mG (by simp)).2 A;simp only[A,bx,aK];rw[P];obtain⟨q,rfl⟩:=(ic P).2.1;have f:q<:+[40]++q:=gQ _ q;have hl:q.length<([40]++q).length:=by simp
   have D:=h.tu (by simp) (by decide);have k:=(h.mono f).xd;have E:setAt (e.up.st ([40]++q) pd tr) (W ((e.up.st ([40]++q) pd tr).2.1+1))=e.up.st q pd tr:=sy h.xd 1 rfl;rw[E];obtain⟨b,j,c⟩:=N.im e.up .paren false rfl O q pd (e.up.st q pd tr) k ⟨tr,rfl,λi=>absurd i D⟩;have vP:R.nE (e.up.st q pd tr) [41] [] true=some b:=j;rw[vP,aO rfl];have p:=aI.low ((tm true m).ls .paren false) k;have F:∀x,((hN (aZ true m) (.op [40])).named x) ([40]++q) pd=((ae (((aZ true m).ls .paren false).aM [41]) (λ_=>jI [41])).named x) q pd:=λx=>rfl
   have G:∀(x:aa),(ae ((hN (aZ true m) (.op [40])).named x) (λ_=>gO (a_ true (m+1)))) ([40]++q) pd=ae ((ae (((aZ true m).ls .paren false).aM [41]) (λ_=>jI [41])).named x) (λ_=>gO (a_ true (m+1))) q pd:=λx=>rfl
   rw[G];have s:e.up.S=e.S:=rfl;cases hk:(aZ true m).ls .paren false q pd with
   |ok a r1 l=>
    rw[hk] at c;obtain⟨H,a2,⟨o,a3,Q⟩,eX⟩:=c;dsimp only at a3;have mE:=hk;obtain⟨ao,e2⟩:=Ap true m;rw[e2] at hk;obtain⟨hH,mo⟩:=yC (by simp) hk;have I:au r1= .op [41]:=by grind[dR]
    obtain⟨v,rfl⟩:=(ic I).2.1;have d:(ae (((aZ true m).ls .paren false).aM [41]) (λ_=>jI [41])).named (mx (.op [40])) q pd= .ok () v l:=by grind[ak.named,aY,pJ,E6]
    rw[aY d];have nq:gr b.2 [] [41]=some b.2:=pG (by rw[a3];show(0:Int)≠1;decide);rw[nq,aO rfl,a3];have S:v<:+[41]++v:=gQ [41] v;have J:setAt (e.up.st ([41]++v) l o) (W ((e.up.st ([41]++v) l o).2.1+1))=e.up.st v l o:=sy a2 1 rfl;rw[J,ZZ bd ax];have sr:=a2.tu (by simp) (by decide);exact(ZA hD bd (a2.tq.mono S) ⟨o,rfl,λi=>absurd i sr⟩).mono (S.trans (H.trans f))
   |more op nd ds=>
    rw[hk] at c;have hb:=p _ _ _ hk;rw[s] at hb;have d:(ae (((aZ true m).ls .paren false).aM [41]) (λ_=>jI [41])).named (mx (.op [40])) q pd= .more ([40]::op) (cO nd ds [41]).1 (cO nd ds [41]).2:=by unfold ak.named;rw[dc (sx hk)];rfl
    rw[dc d];obtain⟨T,al,K⟩:=xb (e:=e.up) (nm:=[]) (x:=[41]) (r1:=q) (r0:=q) c.z fK k.sfx (.inl rfl) (by grind) k.bY (by simp);rw[al,aO rfl];have ZR:=As [41] nd ds;have t:=K.2.2.2.1.bg;have jY:=K.2.2.2.1.lo;have U:=f.length_le;have hle:=h.sfx.length_le;have V:0<=ay e.up.S q:=by grind[ay]
    have X:=h.bY;rw[s] at t;have y:W (T.2.1+1)=T.2.1+1:=dU (by omega) (by omega);rw[y];exact ZY K f hl h.sfx h.bY (by grind) (by simp) _ ⟨by omega,by omega⟩
   |bad u=>
    rw[hk] at c;have d:(ae (((aZ true m).ls .paren false).aM [41]) (λ_=>jI [41])).named (mx (.op [40])) q pd= .bad u:=by grind[ak.named,gY,uG]
    rw[gY d,rA c,aO rfl];have g:iL e.up q b.2:=c;have t:=g.2.bg;have jY:=g.2.lo;have hle:=h.sfx.length_le;have U:=f.length_le;have V:0<=ay e.up.S q:=by grind[ay]
    have X:=h.bY;rw[s] at t;have y:W (b.2.2.1+1)=b.2.2.1+1:=dU (by omega) (by omega);rw[y];exact MO g f hl _ ⟨by omega,by omega⟩
   |deep u=>
    rw[hk] at c;have d:(ae (((aZ true m).ls .paren false).aM [41]) (λ_=>jI [41])).named (mx (.op [40])) q pd= .deep u:=by grind[ak.named,jM,uH]
    rw[jM d,rA c,aO rfl];have g:iL e.up q b.2:=c;have t:=g.2.bg;have jY:=g.2.lo;have hle:=h.sfx.length_le;have U:=f.length_le;have V:0<=ay e.up.S q:=by grind[ay]
    have X:=h.bY;rw[s] at t;have y:W (b.2.2.1+1)=b.2.2.1+1:=dU (by omega) (by omega);rw[y];exact MO g f hl _ ⟨by omega,by omega⟩
  ·have arX:au r≠ .op [40]:=λi=>A ((mG (by simp)).1 i);simp only[A,bF,aS];rw[vN h.xd,aO rfl]
   obtain⟨w,z,L⟩:∃w,au r= .word w true/\qK w=true:=by unfold hs at aG;grind
   have B:w≠[]/\w.all gm=true:=by
    have gS:w=m1\/w=wU\/w=H6\/w=nj\/w=px\/w=[123]:=by grind[qK]
    rcases gS with rfl|rfl|rfl|rfl|rfl|rfl<;>decide
   have aC:=(ry Z B.1 B.2).2 z;rw[aC,z];have h7:=(qd z).1;have l3:=(qd z).2;obtain⟨q,rfl⟩:=h7;have f:q<:+w++q:=gQ _ q;have hl:q.length<(w++q).length:=by grind[List.length_pos_iff]
   have D:=h.tu B.1 l3;have k:=(h.mono f).xd;have E:setAt (e.up.st (w++q) pd tr) (W ((e.up.st (w++q) pd tr).2.1+(w.length:Int)))=e.up.st q pd tr:=sy h.xd w.length rfl;rw[E];obtain⟨b,j,c⟩:=amP N Mr O k (st:=e.up.st q pd tr) ⟨tr,rfl,λi=>absurd i D⟩ L;rw[j,aO rfl];have F:(hN (aZ true m) (.word w true)) (w++q) pd=yT (aZ true m) w q pd:=by show ae (bZ w.length) (λ_=>yT (aZ true m) w) (w++q) pd=_;rw[aY (show bZ w.length (w++q) pd= .ok () q pd from by simp[bZ])]
   have p:=dZ.kind (tm true m) (r:=w++q) (pd:=pd) (by omega);rw[z,F] at p;have s:e.up.S=e.S:=rfl;have vF:=h.jJ;have M:setAt b b.2.1=b:=rfl;cases hk:yT (aZ true m) w q pd with
   |ok a r1 l=>
    rw[hk] at c;obtain⟨H,a2,⟨o,a3,Q⟩,eX⟩:=c;have d:((hN (aZ true m) (.word w true)).named (mx (.word w true))) (w++q) pd= .ok () r1 l:=by grind[ak.named]
    rw[aY d];dsimp only at a3;rw[a3,ZZ bd ax];exact(ZA hD bd a2.tq ⟨o,rfl,Q⟩).mono (H.trans f)
   |more op nd ds=>
    rw[hk] at c p;simp only[dZ] at p;have d:((hN (aZ true m) (.word w true)).named (mx (.word w true))) (w++q) pd= .more (w::op) nd ds:=by unfold ak.named;rw[F,hk];rfl
    rw[dc d];have g:iz false e.up q nd ds b:=c;have:=ZY (R:=R) (nm:=w) g.z f hl h.sfx h.bY (by omega) B.1 b.2.1 ⟨by omega,by omega⟩;rw[M] at this;exact this
   |bad u=>
    rw[hk] at c;have d:((hN (aZ true m) (.word w true)).named (mx (.word w true))) (w++q) pd= .bad u:=by grind[ak.named]
    rw[gY d];have g:iL e.up q b:=c;have:=MO (R:=R) (nm:=w) g f hl b.2.1 ⟨by omega,by omega⟩;rw[M] at this;exact this
   |deep u=>
    rw[hk] at c;have d:((hN (aZ true m) (.word w true)).named (mx (.word w true))) (w++q) pd= .deep u:=by grind[ak.named]
    rw[jM d];have g:iL e.up q b:=c;have:=MO (R:=R) (nm:=w) g f hl b.2.1 ⟨by omega,by omega⟩;rw[M] at this;exact this
end
noncomputable def qY:ah->Option ah:=λx=>
 (av (gr x ([102,40,41]:aa) ([])) λ(a:ah)=>some (su a))
theorem amV{e:cd}{q r:aa}{nd:aa}{ds:aq}{y:ah}(hm:nX e.up q nd ds y)(k:q<:+r)(hl:q.length<r.length)(f:r<:+e.S)(l:e.S.length<=1000000)(m:nd.length+ei ds<=100*e.S.length+1000):∃b,qY y=some b/\iz true e r nd ds b:=by
 obtain⟨ad,g,h,a,c⟩:=hm;have d:=f.length_le;have n:=a.op;have hu:e.up.S=e.S:=rfl;have i:ay e.up.S q=ay e.S q:=rfl;unfold qY;rw[ZX (st:=y) ad (by simp) (by omega) (by grind),aO rfl];have o:ay e.S r<=ay e.S q:=by grind[ay]
 have jY:=a.lo;have j:=a.bg;rw[hu] at j c;refine⟨_,rfl,.inl ⟨ad,g,h,⟨a.s,?_,?_,a.nd,?_⟩,c⟩⟩
 ·show ay e.S r<=y.2.1;omega
 ·show y.2.1<=_;omega
 ·show([[102,40,41]]++y.2.2.2.2.2.2.2.1).length<=_;grind
theorem Z2{e:cd}{q r:aa}{y:ah}(hm:iL e.up q y)(b:q<:+r):∃a,qY y=some a/\iL e r a:=by unfold qY;rw[rA hm,aO rfl];exact⟨_,rfl,(iL.mono (e:=e) ⟨hm.1,hm.2.tq.su⟩ b)⟩
theorem amW{e:cd}{q:aa}{pd:aq}{tr:Bool}{n:Nat}(bd:e.ne=30- (n:Int))(ax:n<=30):su (e.up.st q pd tr)=e.st q pd tr:=by
 show(e.S,ay e.S q,W (e.ne+1-1),pd,(0:Int),(0:Int),([]:aa),([]:bs),tr)=_;have ad:e.ne+1-1=e.ne:=by omega
 rw[ad,dU (by omega) (by omega)];rfl
theorem Z3{e:cd}{q:aa}{pd:aq}{tr:Bool}{n:Nat}(bd:e.ne=30- (n:Int))(ax:n<=30):qY (e.up.st q pd tr)=some (e.st q pd tr):=by unfold qY;rw[pG (by show(0:Int)≠1;decide),aO rfl,amW bd ax]
theorem amX{e:cd}{pd:aq}{n:Nat}(bd:e.ne=30- (n:Int))(ax:n<=30):qY (e.up.tt pd)=some (e.tt pd):=by grind[w_,Z3]
noncomputable def S9(R:bh):ah->Option ah:=λa=>
 (av (gq a) λ(d:Bool)=>(bif d then(av (g3 a ([123,32,120,10,125]:aa)) λ(e:ah)=>qY e) else(av (hr a) λ(c:aa)=>(cR ((decide (c=([40]:aa)))=false) (lA a) [] λ(f:aa)=>(cR ((decide (c=([40]:aa)))=false) (yf f) false λ(g:Bool)=>(bif(bif(decide (c=([40]:aa))) then true else g) then(av (yp R a) λ(h:ah)=>qY h) else(av (hg a a.2.1) λ(b:ah)=>qY (b.1,b.2.1,b.2.2.1,a.2.2.2.1,b.2.2.2.2.1,b.2.2.2.2.2.1,b.2.2.2.2.2.2.1,a.2.2.2.2.2.2.2.1,b.2.2.2.2.2.2.2.2))))))))
noncomputable def S_(R:bh):ah->Option ah:=λx=>
 (av (gq x) λ(c:Bool)=>(bif c then(av (g3 x ([41,32,123,32,120,10,125]:aa)) λ(d:ah)=>qY d) else(av (hr x) λ(e:aa)=>(bif(!(decide (e=([41]:aa)))) then(av (hg x x.2.1) λ(a:ah)=>qY (a.1,a.2.1,a.2.2.1,x.2.2.2.1,a.2.2.2.2.1,a.2.2.2.2.2.1,a.2.2.2.2.2.2.1,x.2.2.2.2.2.2.2.1,a.2.2.2.2.2.2.2.2)) else(av (oa (setAt x (W (x.2.1+1)))) λ(b:ah)=>(bif(!(decide (b.2.2.2.2.1=0))) then(av (gr b ([]) ([123,32,120,10,125]:aa)) λ(f:ah)=>qY f) else S9 R b))))))
theorem amY(R:bh)(x0:ah):Es R x0=(bif(decide (28<x0.2.2.1)) then
 (av (hg x0 x0.2.1) λ(a:ah)=>
 some (a.1,a.2.1,a.2.2.1,x0.2.2.2.1,a.2.2.2.2.1,a.2.2.2.2.2.1,a.2.2.2.2.2.2.1,x0.2.2.2.2.2.2.2.1,a.2.2.2.2.2.2.2.2))
 else
 (av (g2 (x0.1,(W (x0.2.1+1)),(W (x0.2.2.1+1)),x0.2.2.2.1,x0.2.2.2.2.1,x0.2.2.2.2.2.1,x0.2.2.2.2.2.2.1,x0.2.2.2.2.2.2.2.1,x0.2.2.2.2.2.2.2.2)) λ(b:ah)=>
 S_ R (b.1,b.2.1,b.2.2.1,x0.2.2.2.1,b.2.2.2.2.1,b.2.2.2.2.2.1,b.2.2.2.2.2.2.1,x0.2.2.2.2.2.2.2.1,b.2.2.2.2.2.2.2.2))):=rfl
noncomputable def FH(R:bh):ah->Option ah:=λa=>
 (av (gq a) λ(d:Bool)=>(bif d then g3 a ([123,32,120,10,125]:aa) else(av (hr a) λ(c:aa)=>(cR ((decide (c=([40]:aa)))=false) (lA a) [] λ(e:aa)=>(cR ((decide (c=([40]:aa)))=false) (yf e) false λ(f:Bool)=>(bif(bif(decide (c=([40]:aa))) then true else f) then yp R a else(av (hg a a.2.1) λ(b:ah)=>some (b.1,b.2.1,b.2.2.1,a.2.2.2.1,b.2.2.2.2.1,b.2.2.2.2.2.1,b.2.2.2.2.2.2.1,a.2.2.2.2.2.2.2.1,b.2.2.2.2.2.2.2.2))))))))
noncomputable def MQ(R:bh):ah->Option ah:=λx=>
 (av (gq x) λ(c:Bool)=>(bif c then g3 x ([41,32,123,32,120,10,125]:aa) else(av (hr x) λ(d:aa)=>(bif(!(decide (d=([41]:aa)))) then(av (hg x x.2.1) λ(a:ah)=>some (a.1,a.2.1,a.2.2.1,x.2.2.2.1,a.2.2.2.2.1,a.2.2.2.2.2.1,a.2.2.2.2.2.2.1,x.2.2.2.2.2.2.2.1,a.2.2.2.2.2.2.2.2)) else(av (oa (setAt x (W (x.2.1+1)))) λ(b:ah)=>(bif(!(decide (b.2.2.2.2.1=0))) then gr b ([]) ([123,32,120,10,125]:aa) else FH R b))))))
theorem Z4{α β:Type}(c:Bool)(a b:Option α)(k:α->Option β):av (bif c then a else b) k=bif c then av a k else av b k:=by grind
theorem amZ(R:bh)(x:ah):S9 R x=av (FH R x) qY:=by unfold S9 FH;simp[ss,Z4,Zm,nY]
theorem am0(R:bh)(x:ah):S_ R x=av (MQ R x) qY:=by unfold S_ MQ;simp[ss,Z4,nY,amZ]
theorem am1{q:Bool}{e:cd}{r1 r:aa}{X:dt Unit}{y:Option ah}{n:Nat}(bd:e.ne=30- (n:Int))(ax:n<=30)(h:bM q e.up r1 X (λst=>st) (λ_ _ _=>True) y)(ad:r1<:+r)(hl:r1.length<r.length)(f:r<:+e.S)(g:e.S.length<=1000000):bM true e r X (λst=>st) (λ_ _ _=>True) (av y qY):=by
 obtain⟨b,rfl,h⟩:=h;rw[aO rfl];cases X with
 |ok a r' l=>obtain⟨i,a2,⟨tr,a3,j⟩,_⟩:=h;dsimp only at a3;subst a3;rw[Z3 bd ax];exact⟨_,rfl,i.trans ad,a2.tq,⟨tr,rfl,j⟩,trivial⟩
 |more op nd ds=>
  rcases h with h|⟨_,k,d⟩
  ·have c:nX e.up r1 nd ds b:=h;exact amV c ad hl f g (by have:=c.2.2.2.1.nd;rw[c.2.1,c.2.2.1] at this;exact this)
  ·dsimp only at d;subst k d;rw[amX bd ax];exact⟨_,rfl,.inr ⟨rfl,rfl,rfl⟩⟩
 |bad u=>exact Z2 h ad
 |deep u=>exact Z2 h ad
theorem bM.named{q:Bool}{α β:Type}{e:cd}{r0 r:aa}{pd:aq}{m:ak α}{x:aa}{pr:β->ah}{cv:α->aa->β->Prop}{y:Option β}(h:bM q e r0 (m r pd) pr cv y):bM q e r0 (m.named x r pd) pr cv y:=by unfold ak.named;cases hm:m r pd<;>rw[hm] at h<;>exact h
def FI:aa:=[41,32,123,32,120,10,125]
def yU:aa:=[123,32,120,10,125]
def Ta(l:dS):ak Unit:=ae (bP yU) λt=>if t= .eof then b6 yU else if hs t then ae (l.cp t) λ_=>l.rd else bK
def Tb(l:dS):ak Unit:=ae (bP FI) λt=>if t= .eof then b6 FI else if t= .op [41] then ae (bZ 1) λ_=>ae (cS.aM yU) λ_=>Ta l else bK
section
variable{R:bh}{n:Nat}(gF:∀m,n=m+1->kp R m/\oo R m)(hD:kp R n)(ax:n<=30){e:cd}(bd:e.ne=30- (n:Int))
include gF hD ax bd
theorem am2{r:aa}{pd:aq}{st:ah}(h:cB e r pd)(f:fW e r pd st)(g:bu r=some r):bM true e r (Ta (aZ true n) r pd) (λst=>st) (λ_ _ _=>True) (FH R st):=by
 unfold Ta;rw[aY (cA g)];have k:= @Z0 R n gF hD ax e bd r pd st h f g;obtain⟨tr,rfl,q⟩:=f;unfold FH;rw[qj,aO rfl];by_cases b:r=[]
 ·subst b;simp only[bx,aK];obtain⟨i,a,c⟩:=uF (tr:=tr) (x:=yU) h (by decide);rw[show([123,32,120,10,125]:aa)=yU from rfl,a];exact⟨i,rfl,c.s⟩
 ·simp only[b,bF,aS];have l:au r≠ .eof:=λm=>b (lQ.1 m);rw[aW l,rz h,aO rfl,vN h];have o:=h.nl.h4 h.sfx;have s:=Zb o;by_cases j:br r=[40]
  ·simp only[j,bx,cR,tB,cm,aK];have aG:hs (au r)=true:=by grind
   rw[bm aG];have p:(aZ true n).rd=gO (a_ true n):=by cases n<;>rfl
   grind
  ·simp only[j,bF];rw[fV,Y3,fV];simp only[cG,aS];have d:qK (iU r)=hs (au r):=by grind
   rw[d];by_cases aG:hs (au r)=true
   ·rw[aG,bm rfl];have p:(aZ true n).rd=gO (a_ true n):=by cases n<;>rfl
    grind
   ·rw[aW aG,F1.2 aG];simp only[aS];obtain⟨i,a,c⟩:=pI (tr:=tr) (e.st r pd tr).2.1 h fK;rw[a,aO rfl];exact⟨_,rfl,by cases a;exact c⟩
theorem am4{u:aa}{pd:aq}{x:ah}(h:cB e u pd)(z:CK e u pd x):bM true e u (Tb (aZ true n) u pd) (λst=>st) (λ_ _ _=>True) (MQ R x):=by
 unfold Tb MQ;rcases z with⟨r,tr,p,rfl,K,i,s,L⟩|⟨p,rfl⟩
 ·rw[aY (cA p),qj,aO rfl];by_cases t:r=[]
  ·subst t;simp only[bx,aK];obtain⟨d,f,g⟩:=uF (tr:=tr) (x:=FI) i (by decide);rw[show([41,32,123,32,120,10,125]:aa)=FI from rfl,f];exact⟨d,rfl,(g.mono s).s⟩
  ·simp only[t,bF,aS];have A:au r≠ .eof:=λj=>t (lQ.1 j);rw[aW A,rz i,aO rfl];by_cases l:br r=[41]
   ·have m:au r= .op [41]:=(mG (by simp)).2 l;simp only[l,bx,gP,aS];rw[bm m];obtain⟨v,rfl⟩:=(ic m).2.1;have y:v<:+[41]++v:=gQ [41] v;have B:=i.tu (by simp) (by decide);have C:setAt (e.st ([41]++v) pd tr) (W ((e.st ([41]++v) pd tr).2.1+1))=e.st v pd tr:=sy i 1 rfl;rw[C,aY (show bZ 1 ([41]++v) pd= .ok () v pd from rfl)];have o:=i.mono y;obtain⟨M,D,b⟩:=Fk o (st:=e.st v pd tr) ⟨tr,rfl,λj=>absurd j B⟩;rw[D,aO rfl];have E:=aI.low (aI.lines (c:=0)) o;have k:v<:+u:=y.trans s;cases hm:cS v pd with
    |ok a r1 N=>rw[hm] at b;obtain⟨F,a2,a3,G,O⟩:=b;rw[aY (pJ hm),a3.eta.2.2.2.2.1];simp only[bx,gP,aS];exact(am2 gF hD ax bd a2 a3 G).mono (F.trans k)
    |more op nd ds=>
     rw[hm] at b;rw[dc (sx hm)];have P:=E _ _ _ hm;rcases b with b|⟨_,rfl,rfl⟩
     ·rw[b.1];simp only[show¬((1:Int)=0) by decide,bF,e3,aK];obtain⟨d,H,I⟩:=FD (q:=true) (x:=yU) o (.inl b) k (by omega) (by decide);rw[show([123,32,120,10,125]:aa)=yU from rfl,H];exact⟨d,rfl,I⟩
     ·have J:(e.tt ds).2.2.2.2.1=0:=rfl;rw[J];simp only[bx,gP,aS];unfold FH;rw[oS,aO rfl];simp only[aK];obtain⟨d,f,g⟩:=FG (pd:=ds) (x:=yU) o (by omega) (by decide);rw[show([123,32,120,10,125]:aa)=yU from rfl,f];exact⟨d,rfl,(g.mono k).s⟩
    |bad w=>rw[hm] at b;rw[gY (uG hm),b.1];simp only[show¬((2:Int)=0) by decide,bF,e3,aK];rw[rA b];exact⟨_,rfl,b.mono k⟩
    |deep w=>rw[hm] at b;rw[jM (uH hm),b.1];simp only[show¬((2:Int)=0) by decide,bF,e3,aK];rw[rA b];exact⟨_,rfl,b.mono k⟩
   ·have m:au r≠ .op [41]:=λj=>l ((mG (by simp)).1 j);simp only[l,bF,e3,aK];rw[aW m];obtain⟨d,f,g⟩:=pI (tr:=tr) (e.st r pd tr).2.1 i s;rw[f,aO rfl];exact⟨_,rfl,by cases f;exact g⟩
 ·rw[dc (op:=[]) (by rw[iw p];rfl),oS,aO rfl];simp only[aK];obtain⟨d,f,g⟩:=CG (x:=FI) h.Au (by decide);rw[show([41,32,123,32,120,10,125]:aa)=FI from rfl,f];exact⟨d,rfl,(g.mono ov).s⟩
omit gF hD in
theorem am5(a:n<2)(r:aa)(pd:aq):l1 true (js true n) r pd= .deep r:=by
 match n,a with
 |0,_=>rfl
 |1,_=>rfl
end
section
variable{R:bh}{n:Nat}(gF:∀k m,n=m+1+k->kp R m/\oo R m)(ax:n<=30){e:cd}(bd:e.ne=30- (n:Int))
include gF ax bd
theorem am6{u:aa}{pd:aq}{tr:Bool}(h:cB e (40::u) pd):bM true e (40::u) (l1 true (js true n) (40::u) pd) (λst=>st) (λ_ _ _=>True) (Es R (e.st (40::u) pd tr)):=by
 rw[amY];by_cases i:n<2
 ·have b:decide (28<(e.st (40::u) pd tr).2.2.1)=true:=by show decide (28<e.ne)=true;grind
  rw[b,am5 ax bd i];simp only[aK];obtain⟨y,c,j⟩:=pI (tr:=tr) (e.st (40::u) pd tr).2.1 h fK;rw[c,aO rfl];exact⟨_,rfl,by cases c;exact j⟩
 ·have b:decide (28<(e.st (40::u) pd tr).2.2.1)=false:=by show decide (28<e.ne)=false;grind
  rw[b];simp only[aS]
  obtain⟨m,rfl⟩:∃m,n=m+2:=⟨n-2,by omega⟩
  have l:W ((e.st (40::u) pd tr).2.2.1+1)=e.ne+1:=dU (by show-_<=e.ne+1;omega) (by grind);rw[l];have d:u<:+40::u:=eb _ u;have o:u≠[]:=h.yJ (by decide);have f:=(h.mono d).xd;obtain⟨a,p,g⟩:=xl f (st:=e.up.st u pd tr) ⟨tr,rfl,λr=>absurd r o⟩;have s:g2 ((e.st (40::u) pd tr).1,W ((e.st (40::u) pd tr).2.1+1),e.ne+1,(e.st (40::u) pd tr).2.2.2.1,(e.st (40::u) pd tr).2.2.2.2.1,(e.st (40::u) pd tr).2.2.2.2.2.1,(e.st (40::u) pd tr).2.2.2.2.2.2.1,(e.st (40::u) pd tr).2.2.2.2.2.2.2.1,(e.st (40::u) pd tr).2.2.2.2.2.2.2.2)=some a:=by rw[<-p];exact mj g2 (sy (w:=[40]) (q:=u) h.xd 1 rfl)
  rw[s,aO rfl];have t:(a.1,a.2.1,a.2.2.1,(e.st (40::u) pd tr).2.2.2.1,a.2.2.2.2.1,a.2.2.2.2.2.1,a.2.2.2.2.2.2.1,(e.st (40::u) pd tr).2.2.2.2.2.2.2.1,a.2.2.2.2.2.2.2.2)=a:=by rcases g with⟨z,A, -,rfl, -⟩|⟨-,rfl⟩<;>rfl
  rw[t,am0];have v:l1 true (js true (m+2)) (40::u) pd=((Tb (aZ true (m+1))).named [102,40,41]) u pd:=rfl;rw[v]
  have x:∀k,m+1=k+1->kp R k/\oo R k:=λk hk=>gF 1 k (by omega)
  have:=am4 x (gF 0 (m+1) (by omega)).1 (by omega) (e:=e.up) (by show e.ne+1=_;omega) f g;exact(am1 bd ax this d (by simp) h.sfx h.bY).named
end
def vR{X:Type}(D:ak Unit)(A:ak X)(B:aa->Bool->ak X)(E:ak X):ak X:=ae (dy D) λb=>if b then A else ae (bP []) λt=>match t with
 | .word w p=>ae (cP D) λ_=>B w p
 | .op o=>if o=[40] then bK else E
 |_=>E
noncomputable def FJ(R:bh)(k:(Int×Int×Bool×ah)->Option ah)(a b:Int)(f:Bool):ah->Option ah:=λx=>
 (av (gq x) λ(e:Bool)=>(cR (e=false) (ia x) (0:UInt8) λ(h:UInt8)=>(bif(bif e then true else(decide ((h.toNat:Int)=(10:Int)))) then some x else(av (hr x) λ(d:aa)=>(bif(decide (d=([40]:aa))) then(bif(bif(bif(decide (a=1)) then(decide (b=0)) else false) then f else false) then(av (Es R x) λ(i:ah)=>some i) else(av (hg x x.2.1) λ(c:ah)=>some (c.1,c.2.1,c.2.2.1,x.2.2.2.1,c.2.2.2.2.1,c.2.2.2.2.2.1,c.2.2.2.2.2.2.1,x.2.2.2.2.2.2.2.1,c.2.2.2.2.2.2.2.2))) else(av (vs d) λ(g:Bool)=>(cR (g=false) (zW x) false λ(j:Bool)=>(bif(bif g then true else j) then(av (BW R x) λ(l:ah)=>k (a,(W (b+1)),f,l)) else(bif(!(decide (d=[]))) then some x else(av (p7 R x) λ(z:aa×Bool×ah)=>(cR (z.2.1=true) (z3 z.1) false λ(m:Bool)=>k ((W (a+1)),b,(bif z.2.1 then m else false),z.2.2))))))))))))
theorem Z5(R:bh)(j:ah->Option ah)(k:(Int×Int×Bool×ah)->Option ah)(a b:Int)(f:Bool)(x:ah):HT R j k (a,b,f,x)=(bif(decide (x.2.2.2.2.1=0)) then
 (av (g2 x) λ(c:ah)=>FJ R k a b f (c.1,c.2.1,c.2.2.1,x.2.2.2.1,c.2.2.2.2.1,c.2.2.2.2.2.1,c.2.2.2.2.2.2.1,x.2.2.2.2.2.2.2.1,c.2.2.2.2.2.2.2.2)) else j x):=rfl
section
variable{R:bh}{n:Nat}(hD:kp R n){e:cd}(bd:e.ne=30- (n:Int))
include hD bd
theorem Te{X:Type}{C:dt X->dt Unit}(y:c2 C){A:ak X}{B:aa->Bool->ak X}{E:ak X}(ur:∀r pd,C (E r pd)= .ok () r pd)
  {k:(Int×Int×Bool×ah)->Option ah} {a b:Int} {f:Bool} {r:aa} {pd:aq} {x:ah} (h:cB e r pd) (hx:CK e r pd x)
  (z:∀a b f (x:ah),x.2.2.2.2.1≠0->k (a,b,f,x)=some x)
  (hA:∀r' D J,r'<:+r->cB e r' D->r'.length<r.length->fW e r' D J->bM true e r (C (A r' D)) (λst=>st) (λ_ _ _=>True) (k (a,W (b+1),f,J)))
  (ek:∀j w p r' D J,bu r=some j->au j= .word w p->r'<:+r->cB e r' D->r'.length<r.length->fW e r' D J->bM true e r (C (B w p r' D)) (λst=>st) (λ_ _ _=>True) (k (W (a+1),b,p&&lZ w,J)))
  (bq:∀j,bu r=some j->br j=[40]->(bif(bif(decide (a=1)) then(decide (b=0)) else false) then f else false)=false):
  bM true e r (C (vR (a_ true n) A B E r pd)) (λst=>st) (λ_ _ _=>True) (FJ R k a b f x):=by
 unfold vR FJ;rcases hx with⟨j,tr,K,rfl,U,d,l,L⟩|⟨K,rfl⟩
 ·rw[qj,aO rfl,Fu d];by_cases V:j=[]
  ·subst V;simp only[bx,aK,cR,tB,cm];rw[aY (uD K (by decide))];simp only[eC,cm];rw[aY (cA L)];show bM true e r (C (E [] pd)) _ _ _;rw[ur];exact⟨_,rfl,l,d,⟨tr,rfl,U⟩,trivial⟩
  ·rw[e4 V,fV];simp only[cG,aS];have pF:au j≠ .eof:=λY=>V (lQ.1 Y);cases j with
   |nil=>grind
   |cons c t=>
    simp only[y7,pD];have Q:=Mo (c::t);have S:eV (br ((c::t).dropWhile cb))=false->ae (dy (a_ true n)) (λb=>if b then A else ae (bP []) λt=>match t with
      | .word w p=>ae (cP (a_ true n)) λ_=>B w p
      | .op o=>if o=[40] then bK else E
      |_=>E) r pd=(match au (c::t) with
      | .word w p=>ae (cP (a_ true n)) λ_=>B w p
      | .op o=>if o=[40] then bK else E
      |_=>E) (c::t) pd:=by
     intro Y;rw[aY (uD K Y)];simp only[eC,cm];rw[aY (cA L)]
    have fo:hr (e.st (c::t) pd tr)=some (br (c::t)):=rz d;rcases IM (b:=c) (t:=t) with⟨M,N⟩|⟨M,N,O⟩|⟨M,N,O⟩
    ·subst M;have aH:eV (br ((10::t).dropWhile cb))=false:=by rfl
     rw[S aH,N];simp only[bx,aK];rw[ur];exact⟨_,rfl,l,d,⟨tr,rfl,U⟩,trivial⟩
    ·simp only[M,bF,aS];rw[fo,aO rfl];by_cases H:br (c::t)=[40]
     ·have aH:eV (br ((c::t).dropWhile cb))=false:=by
       have aG:c=40:=by
        have gG:au (c::t)= .op [40]:=by grind
        obtain⟨v,aB⟩:=(ic gG).2.1;grind
       subst aG;rfl
      rw[S aH,O,H,bq (c::t) K H];simp only[bx,aK,aS,cG];show bM true e r (C (.bad (c::t))) _ _ _;rw[y.bad];obtain⟨aP,a1,bl⟩:=pI (tr:=tr) (e.st (c::t) pd tr).2.1 d l;rw[a1,aO rfl];exact⟨_,rfl,by cases a1;exact bl⟩
     ·simp only[H,bF,aS];rw[Fh,aO rfl,Su d,fV];cases m:eV (br ((c::t).dropWhile cb)) with
      |true=>
       rw[m] at Q;have F:(bif eV (br (c::t)) then true else if eV (br (c::t))=false then(decide ((c::t).dropWhile cb≠c::t)&&true) else false)=true:=by grind
       rw[F];simp only[aK];have Mg:dy (a_ true n) r pd=dy (a_ true n) (c::t) pd:=by simp_all[dy,ae,fF]
       have Z:ae (dy (a_ true n)) (λb=>if b then A else ae (bP []) λt=>match t with
         | .word w p=>ae (cP (a_ true n)) λ_=>B w p
         | .op o=>if o=[40] then bK else E
         |_=>E) r pd=ae (dy (a_ true n)) (λb=>if b then A else ae (bP []) λt=>match t with
         | .word w p=>ae (cP (a_ true n)) λ_=>B w p
         | .op o=>if o=[40] then bK else E
         |_=>E) (c::t) pd:=by
        grind[ae]
       rw[Z];refine bM.iy y ((SG hD bd (tr:=tr) d L m).mono l) (λuU r1 aF s IE s1 v1 gM qT=>?_) (λop nd ds s _ P=>?_) (λs g=>?_)
       ·subst qT;rw[bm rfl];grind[sh,l4]
       ·exact⟨s,z _ _ _ _ (by rw[P.z.1];decide),P.up⟩
       ·exact⟨s,z _ _ _ _ (by rw[g.1];decide),g⟩
      |false=>
       rw[m] at Q;have F:(bif eV (br (c::t)) then true else if eV (br (c::t))=false then(decide ((c::t).dropWhile cb≠c::t)&&false) else false)=false:=by grind
       rw[F,S m,O];simp only[N,H,aS,bF,e3,aK,cm];rw[ur];exact⟨_,rfl,l,d,⟨tr,rfl,U⟩,trivial⟩
    ·simp only[M,bF,aS];rw[fo,aO rfl];have H:¬br (c::t)=[40]:=by grind
     simp only[H,bF,aS];rw[Fh,aO rfl,Su d,fV];cases m:eV (br ((c::t).dropWhile cb)) with
     |true=>
      rw[m] at Q;have F:(bif eV (br (c::t)) then true else if eV (br (c::t))=false then(decide ((c::t).dropWhile cb≠c::t)&&true) else false)=true:=by grind
      rw[F];simp only[aK];have Mg:dy (a_ true n) r pd=dy (a_ true n) (c::t) pd:=by simp_all[dy,ae,fF]
      have Z:ae (dy (a_ true n)) (λb=>if b then A else ae (bP []) λt=>match t with
        | .word w p=>ae (cP (a_ true n)) λ_=>B w p
        | .op o=>if o=[40] then bK else E
        |_=>E) r pd=ae (dy (a_ true n)) (λb=>if b then A else ae (bP []) λt=>match t with
        | .word w p=>ae (cP (a_ true n)) λ_=>B w p
        | .op o=>if o=[40] then bK else E
        |_=>E) (c::t) pd:=by
       grind[ae]
      rw[Z];refine bM.iy y ((SG hD bd (tr:=tr) d L m).mono l) (λuU r1 aF s IE s1 v1 gM qT=>?_) (λop nd ds s _ P=>?_) (λs g=>?_)
      ·subst qT;rw[bm rfl];grind[sh,l4]
      ·exact⟨s,z _ _ _ _ (by rw[P.z.1];decide),P.up⟩
      ·exact⟨s,z _ _ _ _ (by rw[g.1];decide),g⟩
     |false=>
      rw[m] at Q;have F:(bif eV (br (c::t)) then true else if eV (br (c::t))=false then(decide ((c::t).dropWhile cb≠c::t)&&false) else false)=false:=by grind
      rw[F,S m,O];simp only[N,aS,bx,gP];have gS:c1 (c::t)=false:=(yG L O).2;obtain⟨⟨g,fu,G⟩,hb,u⟩:=Fq hD bd (tr0:=tr) d;have T:G.1=e.S->g.length<=1000000:=λag=>lF (SE d ag hb).1 h.bY;rw[hb,aO rfl];dsimp only at u⊢;cases hm:cP (a_ true n) (c::t) pd with
      |ok am7 r1 aF=>rw[hm] at u;obtain⟨cU,a2,a3, -,bO,eX⟩:=u;rw[aY hm];have I:=(yF g (T a3.eta.1)).2;grind[vx,l4,fV]
      |more op nd ds=>rw[hm] at u;have i:iz false e (c::t) nd ds G:=u;have I:=(yF g (T i.z.2.2.2.1.s)).2;rw[dc hm,y.more,I,fV,z _ _ _ _ (by rw[i.z.1];decide)];exact⟨G,rfl,(i.mono l).up⟩
      |bad q=>rw[hm] at u;have i:iL e (c::t) G:=u;have I:=(yF g (T i.2.s)).2;rw[gY hm,y.bad,I,fV,z _ _ _ _ (by rw[i.1];decide)];exact⟨G,rfl,i.mono l⟩
      |deep q=>rw[hm] at u;have i:iL e (c::t) G:=u;have I:=(yF g (T i.2.s)).2;rw[jM hm,y.deep,I,fV,z _ _ _ _ (by rw[i.1];decide)];exact⟨G,rfl,i.mono l⟩
 ·have EM:dy (a_ true n) r pd= .more [] [] pd:=by
   unfold dy;have:fF r pd= .more [] [] pd:=by unfold fF;rw[K];rfl
   grind[dc]
  rw[dc EM,y.more,oS,aO rfl];simp only[cR,tB,cm,aK];exact⟨_,rfl,.inr ⟨rfl,rfl,rfl⟩⟩
end
def yW(D:ak Unit):Unit->ak (Unit⊕Unit):=λ_=>vR D (aU (.inl ())) (λ_ _=>aU (.inl ())) (aU (.inr ()))
theorem I0(D:ak Unit):hv true D=ca (yW D) ():=by unfold hv yW vR;grind
structure FK(a b:Int)(f:Bool)(r:aa):Prop where
 g:1<=b\/2<=a\/(a=1/\f=false)
 a0:0<=a
 Z6:0<=b
 am8:a+r.length<=1000001
 am9:b+r.length<=1000001
theorem FK.no{a b:Int}{f:Bool}{r:aa}(h:FK a b f r):(bif(bif(decide (a=1)) then(decide (b=0)) else false) then f else false)=false:=by obtain⟨g,a0,Z6,_,_⟩:=h;grind
theorem FL{a:Int}(h0:0<=a)(h:a<=1000001):W (a+1)=a+1:=dU (by omega) (by omega)
noncomputable abbrev uI(R:bh):((Int×Int×Bool×ah)->Option ah)->(Int×Int×Bool×ah)->Option ah:=HT R (λx=>some x)
section
variable{R:bh}{n:Nat}(hD:kp R n){e:cd}(bd:e.ne=30- (n:Int))
theorem FM{r:aa}{pd:aq}{x y:ah}(a:CK e r pd y)(b:fW e r pd x):(y.1,y.2.1,y.2.2.1,x.2.2.2.1,y.2.2.2.2.1,y.2.2.2.2.2.1,y.2.2.2.2.2.2.1,x.2.2.2.2.2.2.2.1,y.2.2.2.2.2.2.2.2)=y:=by obtain⟨tr,rfl,_⟩:=b;rcases a with⟨c,d, -,rfl, -⟩|⟨-,rfl⟩<;>rfl
theorem Tf{k:(Int×Int×Bool×ah)->Option ah}{a b:Int}{f:Bool}{r:aa}{pd:aq}{x:ah}(h:cB e r pd)(c:fW e r pd x):∃y,CK e r pd y/\uI R k (a,b,f,x)=FJ R k a b f y:=by obtain⟨y,ad,d⟩:=xl h c;refine⟨y,d,?_⟩;show HT R (λx=>some x) k (a,b,f,x)=_;rw[Z5,c.eta.2.2.2.2.1];simp only[bx,aK];rw[ad,aO rfl,FM d c]
theorem Z7{k:(Int×Int×Bool×ah)->Option ah}{a b:Int}{f:Bool}{x:ah}(h:x.2.2.2.2.1≠0):uI R k (a,b,f,x)=some x:=by simp_all[Z5]
include hD bd
theorem Z8{N:Nat}{a b:Int}{f:Bool}{r:aa}{pd:aq}{x:ah}(u:r.length+1<N)(h:cB e r pd)(c:fW e r pd x)(bq:FK a b f r):bM true e r (hv true (a_ true n) r pd) (λst=>st) (λ_ _ _=>True) (fixF (uI R) N (a,b,f,x)):=by
 rw[I0];refine bM.rep (en:=λ_ r pd (y:Int×Int×Bool×ah)=>fW e r pd y.2.2.2/\FK y.1 y.2.1 y.2.2.1 r) (λk s r pd y o i v hk=>?_) N () r pd _ u h ⟨c,bq⟩;obtain⟨a,b,f,x⟩:=y;obtain⟨c,bq⟩:=i;dsimp only at c bq
 have z:∀a b f (x:ah),x.2.2.2.2.1≠0->k (a,b,f,x)=some x:=by intro a b f x c;obtain⟨k',ad⟩:=v (a,b,f,x);grind[Z7]
 obtain⟨y,i,he⟩:=Tf (R:=R) (k:=k) (a:=a) (b:=b) (f:=f) o c;rw[he];have D:=bq.am9;have E:=bq.am8;have q:=bq.a0;have t:=bq.Z6;refine Te hD bd (C:=cN (yW (a_ true n)) r) c2.k (λ_ _=>rfl) o i z (λr' j A s1 l d m=>?_) (λB w p r' j A F G s1 l d m=>?_) (λB _ _=>bq.no)
 ·refine bM.inl d (hk () r' j _ s1 l d ⟨m,?_⟩);dsimp only;rw[FL t (by omega)];exact⟨.inl (by omega),q,by omega,by omega,by omega⟩
 ·refine bM.inl d (hk () r' j _ s1 l d ⟨m,?_⟩);dsimp only;rw[FL q (by omega)];refine⟨?_,by omega,t,by omega,by omega⟩;rcases bq.g with g|g|g
  ·omega
  ·omega
  omega
end
def CT(lo:Option dS)(D:ak Unit):ak Unit:=ae (bP []) λt=>if t= .op [40] then ae (l1 true lo) λ_=>aU () else hv true D
theorem I1{D:ak Unit}{r:aa}{pd:aq}(d:bu r=some r)(e:eV (br (r.dropWhile cb))=true){b:Bool}{r1:aa}{a:aq}(h:dy D r pd= .ok b r1 a):b=true:=by
 have c:fF r pd= .ok (some (br (r.dropWhile cb))) ((r.dropWhile cb).drop (br (r.dropWhile cb)).length) pd:=by simp_all[fF]
 unfold dy at h;rw[aY c] at h;obtain⟨_,f,g,_,h⟩:=b0 h;cases h;rfl
theorem am_{D:ak Unit}{r d:aa}{pd:aq}(n:bu r=some d)(f:bu d=some d)(hl:d.length<=r.length)(hD:hP D):hv true D r pd=hv true D d pd:=by
 have s:dy D r pd=dy D d pd:=by simp_all[dy,ae,fF]
 have h:yW D () r pd=yW D () d pd:=by simp_all[yW,vR,ae]
 rw[I0,cF,cF,h];unfold cN;cases hm:yW D () d pd with
 |ok x r' t=>
  cases x with
  |inr a=>rfl
  |inl u=>
   have v:r'.length<d.length:=by
    have bq:=hm;unfold yW vR at bq;obtain⟨b,i,j,k,c⟩:=b0 bq;cases b with
    |true=>simp only[cG] at c;cases c;exact sh hD k
    |false=>
     simp only[eC,cm] at c;have g:i=d/\j=pd:=by
      cases y:eV (br (d.dropWhile cb)) with
      |true=>grind[I1]
      |false=>simp_all[uD]
     rw[g.1,g.2,aY (cA f)] at c;cases e:au d with
     |eof=>rw[e] at c;cases c
     |line=>rw[e] at c;cases c
     |op o=>rw[e] at c;simp only at c;split at c<;>cases c
     |word w p=>rw[e] at c;simp only at c;obtain⟨_,z,A,l,m⟩:=b0 c;cases m;exact vx hD (yG f e).1 (yG f e).2 l
   grind
 |more op nd ds=>rfl
 |bad q=>rfl
 |deep q=>rfl
section
variable{R:bh}{n:Nat}(gF:∀k m,n=m+1+k->kp R m/\oo R m)(hD:kp R n)(ax:n<=30){e:cd}(bd:e.ne=30- (n:Int))
theorem aaa{M:Nat}(c:0<M):∀a b f (x:ah),x.2.2.2.2.1≠0->fixF (uI R) M (a,b,f,x)=some x:=by
 intro a b f x d
 obtain⟨m,rfl⟩:∃m,M=m+1:=⟨M-1,by omega⟩
 grind[eZ,Z7]
include gF hD ax bd
theorem ana{N:Nat}{r:aa}{pd:aq}{x:ah}(U:r.length+1<N)(h:cB e r pd)(F:fW e r pd x):bM true e r (CT (js true n) (a_ true n) r pd) (λst=>st) (λ_ _ _=>True) (fixF (uI R) N (1,0,true,x)):=by
 obtain⟨M,rfl⟩:∃m,N=m+1:=⟨N-1,by omega⟩
 rw[eZ];have D:=aaa (R:=R) (M:=M) (by omega)
 have l:∀{a b:Int}{f:Bool}{r':aa}{c:aq}{i:ah},r'.length<r.length->cB e r' c->fW e r' c i->FK a b f r'->bM true e r' (hv true (a_ true n) r' c) (λst=>st) (λ_ _ _=>True) (fixF (uI R) M (a,b,f,i)):=λad G H I=>Z8 hD bd (by omega) G H I
 generalize fixF (uI R) M=k at D l;obtain⟨y,J,he⟩:=Tf (R:=R) (k:=k) (a:=1) (b:=0) (f:=true) h F;rw[he];have V:=h.bY;have hle:=h.sfx.length_le;rcases J with⟨d,tr,o,rfl,K,g,q,E⟩|⟨o,rfl⟩
 ·unfold CT;rw[aY (cA o)];by_cases s:br d=[40]
  ·have j:au d= .op [40]:=(mG (by simp)).2 s;rw[bm j];obtain⟨u,rfl⟩:=(ic j).2.1;have L:=am6 gF ax bd (tr:=tr) (u:=u) g;unfold FJ;rw[qj,aO rfl,Fu g,e4 (by simp),fV];have O:(decide ((((40:UInt8)).toNat:Int)=(10:Int)))=false:=by decide
   have t:(([40]++u:aa)).headD 0=40:=rfl;simp only[cG,aS,t,O];rw[rz g,aO rfl,s];simp only[bx,aK];have v:ae (l1 true (js true n)) (λ_=>aU ()) ([40]++u) pd=l1 true (js true n) ([40]++u) pd:=E5 _ _ _;rw[v];exact bM.dV (L.mono q) (CQ _)
  ·have j:au d≠ .op [40]:=λP=>s ((mG (by simp)).1 P);rw[aW j,I0,cF];have W:=q.length_le;refine bM.mono ?_ q;refine Te hD bd (C:=cN (yW (a_ true n)) d) c2.k (λ_ _=>rfl) g (.inl ⟨d,tr,E,rfl,K,g,fK,E⟩) D (λr' c i s1 z A B=>?_) (λQ w p r' c i S T s1 z A B=>?_) (λQ S T=>?_)
   ·refine bM.inl A ?_;rw[<-I0];refine(l (by omega) z B ?_).mono s1;rw[FL (by omega) (by omega)];exact⟨.inl (by omega),by omega,by omega,by omega,by omega⟩
   ·refine bM.inl A ?_;rw[<-I0];refine(l (by omega) z B ?_).mono s1;rw[FL (by omega) (by omega)];exact⟨.inr (.inl (by omega)),by omega,by omega,by omega,by omega⟩
   grind
 ·unfold CT;rw[dc (op:=[]) (nd:=[]) (ds:=pd) (by rw[iw o];rfl)];unfold FJ;rw[oS,aO rfl];simp only[cR,tB,cm,aK];exact⟨_,rfl,.inr ⟨rfl,rfl,rfl⟩⟩
end
noncomputable def MS(R:bh):ah->Option ah:=λx=>
 (av (gq x) λ(e:Bool)=>(bif e then(av (g3 x ([120]:aa)) λ(f:ah)=>some f) else(av (hr x) λ(b:aa)=>(av (lA x) λ(y23:aa)=>(cR ((decide (b=([40]:aa)))=false) (yf y23) false λ(g:Bool)=>(bif(bif(decide (b=([40]:aa))) then true else g) then(av (yp R x) λ(h:ah)=>some h) else(av (ia x) λ(c:UInt8)=>(cR ((!(decide (b=[])))=true/\(decide ((c.toNat:Int)=(10:Int)))=false) (vs b) false λ(d:Bool)=>(cR ((bif(decide ((c.toNat:Int)=(10:Int))) then true else(bif(!(decide (b=[]))) then(!d) else false))=false) (Ec y23) false λ(i:Bool)=>(bif(bif(bif(decide ((c.toNat:Int)=(10:Int))) then true else(bif(!(decide (b=[]))) then(!d) else false)) then true else i) then(av (hg x x.2.1) λ(a:ah)=>some (a.1,a.2.1,a.2.2.1,x.2.2.2.1,a.2.2.2.2.1,a.2.2.2.2.2.1,a.2.2.2.2.2.2.1,x.2.2.2.2.2.2.2.1,a.2.2.2.2.2.2.2.2)) else(av (fixF (uI R) bC (0,0,false,x)) λ(j:ah)=>some j)))))))))))
theorem aab(R:bh)(x0:ah):r_ R x0=av (g2 x0) λa=>MS R (a.1,a.2.1,a.2.2.1,x0.2.2.2.1,a.2.2.2.2.1,a.2.2.2.2.2.1,a.2.2.2.2.2.2.1,x0.2.2.2.2.2.2.2.1,a.2.2.2.2.2.2.2.2):=rfl
theorem Tg{R:bh}{e:cd}{r:aa}{b pd:aq}(h:cB e r b)(c:ei pd<=100*e.S.length+800):∃a,r_ R (e.tt pd)=some a/\nX e r (cO [] pd [120]).1 (cO [] pd [120]).2 a:=by rw[aab,CA,aO rfl];obtain⟨a,f,g⟩:=FG (pd:=pd) (x:=[120]) h c (by simp);have d:((e.tt pd).1,(e.tt pd).2.1,(e.tt pd).2.2.1,(e.tt pd).2.2.2.1,(e.tt pd).2.2.2.2.1,(e.tt pd).2.2.2.2.2.1,(e.tt pd).2.2.2.2.2.2.1,(e.tt pd).2.2.2.2.2.2.2.1,(e.tt pd).2.2.2.2.2.2.2.2)=e.tt pd:=rfl;rw[d];simp_all[MS,oS,aO]
section
variable{R:bh}{n:Nat}(gF:∀k m,n=m+1+k->kp R m/\oo R m)(hD:kp R n)(ax:n<=30){e:cd}(bd:e.ne=30- (n:Int))
include gF hD ax bd
theorem ane{r:aa}{pd:aq}{tr:Bool}(h:cB e r pd)(v:fW e r pd (e.st r pd tr))(G:bu r=some r)(H:br r≠[40]):bM true e r (vR (a_ true n) (hv true (a_ true n)) (λw p=>if p&&lZ w then CT (js true n) (a_ true n) else hv true (a_ true n)) (aU ()) r pd) (λst=>st) (λ_ _ _=>True) (fixF (uI R) bC (0,0,false,e.st r pd tr)):=by
 have z:r.length+1<bC:=vM h
 obtain⟨M,o⟩:∃m,bC=m+1:=⟨bC-1,by omega⟩
 rw[o,eZ];rw[o] at z;clear o;have u:=aaa (R:=R) (M:=M) (by omega)
 have q:∀{a b:Int}{f:Bool}{r':aa}{c:aq}{d:ah},r'.length<r.length->cB e r' c->fW e r' c d->FK a b f r'->bM true e r' (hv true (a_ true n) r' c) (λst=>st) (λ_ _ _=>True) (fixF (uI R) M (a,b,f,d)):=λad s t A=>Z8 hD bd (by omega) s t A
 have g:∀{r':aa}{c:aq}{d:ah},r'.length<r.length->cB e r' c->fW e r' c d->bM true e r' (CT (js true n) (a_ true n) r' c) (λst=>st) (λ_ _ _=>True) (fixF (uI R) M (1,0,true,d)):=λad s t=>ana gF hD ax bd (by omega) s t
 generalize fixF (uI R) M=k at u q g;obtain⟨y,B,he⟩:=Tf (R:=R) (k:=k) (a:=0) (b:=0) (f:=false) h v;rw[he];have I:=h.bY;have hle:=h.sfx.length_le;refine Te hD bd (C:=λx=>x) c2.id (λ_ _=>rfl) h B u (λr' c d s1 i j l=>?_) (λD w p r' c d E F s1 i j l=>?_) (λD E F=>?_)
 ·refine(q j i l ?_).mono s1;rw[FL (by omega) (by omega)];exact⟨.inl (by omega),by omega,by omega,by omega,by omega⟩
 ·rw[FL (by omega) (by omega)];cases aC:(p&&lZ w) with
  |true=>rw[bm rfl];exact(g j i l).mono s1
  |false=>rw[aW (by simp)];exact(q j i l ⟨.inr (.inr ⟨rfl,rfl⟩),by omega,by omega,by omega,by omega⟩).mono s1
 ·rfl
theorem aad{r:aa}{pd:aq}{st:ah}(h:cB e r pd)(I:fW e r pd st):bM true e r (gk true (js true n) (a_ true n) r pd) (λst=>st) (λ_ _ _=>True) (r_ R st):=by
 rw[aab];obtain⟨y,O,J⟩:=xl h I;rw[O,aO rfl,FM J I];rcases J with⟨a,tr,v,rfl,K,d,i,o⟩|⟨v,rfl⟩
 ·unfold gk;rw[aY (cA v)];unfold MS;rw[qj,aO rfl];by_cases z:a=[]
  ·subst z;simp only[bx,aK];obtain⟨s,g,j⟩:=uF (tr:=tr) (x:=[120]) d (by decide);rw[g];exact⟨s,rfl,(j.mono i).s⟩
  ·simp only[z,bF,aS];have P:au a≠ .eof:=λA=>z (lQ.1 A);rw[aW P,rz d,aO rfl,vN d,aO rfl,Y3,fV];have L:=h.nl.h4 d.sfx;have Z:=Zb L;have B:(bif decide (br a=[40]) then true else if decide (br a=[40])=false then qK (iU a) else false)=hs (au a):=by grind
   rw[B];cases aG:hs (au a) with
   |true=>
    simp only[aK,cG]
    have Q:∀m,n=m+1->kp R m/\oo R m:=λm hm=>gF 0 m (by omega)
    have C:=Z0 Q hD ax bd d ⟨tr,rfl,K⟩ o aG;have S:se (js true n) (au a)=(aZ true n).cp (au a):=by rw[YG]
    rw[S];exact bM.dV (C.mono i) (CQ _)
   |false=>
    simp only[aS,eC,cm];rw[Fu d,aO rfl];have D:au a≠ .op [40]:=by grind[hs]
    have T:br a≠[40]:=λA=>D ((mG (by simp)).2 A);have U:=ane gF hD ax bd d ⟨tr,rfl,K⟩ o T;have yE:=als L;have E:∀X:dt Unit,X= .bad a->bM true e r X (λst=>st) (λ_ _ _=>True) (av (hg (e.st a pd tr) (e.st a pd tr).2.1) λ(f:ah)=>
      some (f.1,f.2.1,f.2.2.1,(e.st a pd tr).2.2.2.1,f.2.2.2.2.1,f.2.2.2.2.2.1,f.2.2.2.2.2.2.1,(e.st a pd tr).2.2.2.2.2.2.2.1,f.2.2.2.2.2.2.2.2)):=by
     rintro X rfl;obtain⟨s,g,j⟩:=pI (tr:=tr) (e.st a pd tr).2.1 d i;rw[g,aO rfl];exact⟨_,rfl,by cases g;exact j⟩
    cases a with
    |nil=>grind
    |cons c t=>
     simp only[y7,pD];rcases IM (b:=c) (t:=t) with⟨k,l⟩|⟨k,l,u⟩|⟨k,l,u⟩
     ·subst k;rw[l];simp only[bx,cR,tB,and_false,cm,aK];exact E _ rfl
     ·rw[u];have F:rk (iU (c::t))=false:=by grind
      rw[Fh,fV,Y4,fV,F];have V:decide (br (c::t)=[])=false:=e4 l;simp only[k,V,bF,e3,nx,cG,aK,aS];have G:(if(!eV (br (c::t)))=false then false else false)=false:=by simp
      rw[G];cases W:eV (br (c::t)) with
      |false=>simp only[e3,aK,eC,cm];exact E _ rfl
      |true=>
       simp only[gP,aS,cG];refine bM.dV (bM.mono ?_ i) (CQ _);have H:eV (br ((c::t).dropWhile cb))=true:=by grind[Mo]
       have Y:ae (dy (a_ true n)) (λ_=>hv true (a_ true n)) (c::t) pd=vR (a_ true n) (hv true (a_ true n)) (λw p=>if p&&lZ w then CT (js true n) (a_ true n) else hv true (a_ true n)) (aU ()) (c::t) pd:=by
        unfold vR;cases hm:dy (a_ true n) (c::t) pd with
        |ok b r1 M=>have:=I1 o H hm;subst this;rw[aY hm,aY hm,bm rfl]
        |more op nd ds=>grind[dc]
        |bad q=>grind[gY]
        |deep q=>grind[jM]
       grind
     ·rw[u];have F:rk (iU (c::t))=((c4 (c::t)).2&&rk (c4 (c::t)).1):=by grind
      rw[Fh,fV,Y4,fV,F];simp only[k,l,bx,bF,gP,aS,eC,false_and,cG];cases Mg:((c4 (c::t)).2&&rk (c4 (c::t)).1) with
      |true=>simp only[aK,cG];exact E _ rfl
      |false=>
       simp only[aS,eC,cm];refine bM.dV (bM.mono ?_ i) (CQ _);have Y:ae (dy (a_ true n)) (λb=>if b then hv true (a_ true n) else ae (cP (a_ true n)) λ_=>
         if(c4 (c::t)).2&&lZ (c4 (c::t)).1 then ae (bP []) λt=>if t= .op [40] then ae (l1 true (js true n)) λ_=>aU () else hv true (a_ true n) else hv true (a_ true n)) (c::t) pd=vR (a_ true n) (hv true (a_ true n)) (λw p=>if p&&lZ w then CT (js true n) (a_ true n) else hv true (a_ true n)) (aU ()) (c::t) pd:=by
        unfold vR;cases hm:dy (a_ true n) (c::t) pd with
        |ok b r1 M=>
         rw[aY hm,aY hm];cases b with
         |true=>rfl
         |false=>
          simp only[eC,cm,cG];have N:r1=c::t/\M=pd:=by
           cases W:eV (br ((c::t).dropWhile cb)) with
           |true=>grind[I1]
           |false=>simp_all[uD]
          rw[N.1,N.2,aY (cA o),u];rfl
        |more op nd ds=>grind[dc]
        |bad q=>grind[gY]
        |deep q=>grind[jM]
       grind
 ·unfold gk;rw[dc (op:=[]) (by rw[iw v];rfl)];unfold MS;rw[oS,aO rfl];simp only[aK];obtain⟨s,g,j⟩:=CG (x:=[120]) h.Au (by decide);rw[g];exact⟨s,rfl,(j.mono ov).s⟩
end
structure Th(e:cd)(da:ak Unit)(F:ah->Option ah):Prop where
 im:∀{r:aa}{pd:aq}{st:ah},cB e r pd->fW e r pd st->bM true e r (da r pd) (λst=>st) (λ_ _ _=>True) (F st)
 tt:∀{r:aa}{gl pd:aq},cB e r gl->ei pd<=100*e.S.length+800->∃aP,F (e.tt pd)=some aP/\nX e r (cO [] pd [120]).1 (cO [] pd [120]).2 aP
 sfx:∀{r:aa}{pd:aq}{a:Unit}{r':aa}{aD:aq},da r pd= .ok a r' aD->r'<:+r
 pb:aI 50 da
noncomputable def MT(tst:aa->Bool)(w:Int)(F k:ah->Option ah):ah->Option ah:=λx=>
 (av (hr x) λ(b:aa)=>(bif tst b then some x else(av (oa (setAt x (W (x.2.1+w)))) λ(a:ah)=>(bif(!(decide (a.2.2.2.2.1=0))) then(av (gr a ([]) ([120]:aa)) λ(c:ah)=>some c) else(av (F a) λ(d:ah)=>k d)))))
noncomputable def xo(tst:aa->Bool)(w:Int)(F:ah->Option ah)(k:ah->Option ah):ah->Option ah:=λx=>
 (bif(decide (x.2.2.2.2.1=0)) then(av (g2 x) λ(a:ah)=>MT tst w F k (a.1,a.2.1,a.2.2.1,x.2.2.2.1,a.2.2.2.2.1,a.2.2.2.2.2.1,a.2.2.2.2.2.2.1,x.2.2.2.2.2.2.2.1,a.2.2.2.2.2.2.2.2)) else some x)
def qk(p:Tok->Bool)(w:Nat)(da:ak Unit):ak Unit:=ca (λ_=>ae (bP []) λt=>if p t=true then ae (bZ w) λ_=>ae (cS.aM [120]) λ_=>ae da λ_=>aU (.inl ()) else aU (.inr ())) ()
section
variable{e:cd}{da:ak Unit}{F:ah->Option ah}(dd:Th e da F){p:Tok->Bool}{tst:aa->Bool}{w:Nat}
 (aC:∀t,p t=true->∃o,t= .op o/\o.length=w/\0<w/\tst o=false) (w8:∀r,tst (br r)=false->p (au r)=true) (Ti:tst []=true)
include dd aC w8 Ti
theorem aae{r:aa}{pd:aq}{st:ah}(h:cB e r pd)(S:fW e r pd st):bM true e r (qk p w da r pd) (λst=>st) (λ_ _ _=>True) (fixF (xo tst w F) bC st):=by
 unfold qk;refine bM.rep (en:=λ_ r pd x=>fW e r pd x) (λk s r pd x m f E hk=>?_) bC () r pd _ (vM h) h S
 have n:∀x:ah,x.2.2.2.2.1≠0->k x=some x:=by intro x f;obtain⟨k',ad⟩:=E x;simp_all[xo]
 have uW:∀ds,k (e.tt ds)=some (e.tt ds):=by intro ds;obtain⟨k',ad⟩:=E (e.tt ds);rw[ad];unfold xo;have t:(e.tt ds).2.2.2.2.1=0:=rfl;rw[t,CA,aO rfl];have T:((e.tt ds).1,(e.tt ds).2.1,(e.tt ds).2.2.1,(e.tt ds).2.2.2.1,(e.tt ds).2.2.2.2.1,(e.tt ds).2.2.2.2.2.1,(e.tt ds).2.2.2.2.2.2.1,(e.tt ds).2.2.2.2.2.2.2.1,(e.tt ds).2.2.2.2.2.2.2.2)=e.tt ds:=rfl;rw[T];unfold MT;rw[Fv ds m.bY,aO rfl,Ti];rfl
 unfold xo;rw[f.eta.2.2.2.2.1];simp only[bx,aK];obtain⟨y,U,G⟩:=xl m f;have H:=FM G f;rw[f.eta.2.2.2.1] at H;rw[U,aO rfl,f.eta.2.2.2.1,H];unfold MT;rcases G with⟨I,tr,z,rfl,V,g,J,h9⟩|⟨z,rfl⟩
 ·rw[aY (cA z),rz g,aO rfl];cases X:tst (br I) with
  |true=>
   have j:¬p (au I)=true:=by intro A;obtain⟨o,ad,K,_,Y⟩:=aC _ A;have:=(ic ad).1;grind
   rw[aW j];simp only[aK];exact⟨_,rfl,J,g,⟨tr,rfl,V⟩,trivial⟩
  |false=>
   have j:=w8 _ X;rw[bm j];simp only[aS];obtain⟨o,ad,K,Y,_⟩:=aC _ j;obtain⟨aV,Z,b1,dh⟩:=ic ad;obtain⟨v,rfl⟩:=Z;have L:v<:+o++v:=gQ o v;have sr:=g.tu dh b1;have kC:setAt (e.st (o++v) pd tr) (W ((e.st (o++v) pd tr).2.1+(w:Int)))=e.st v pd tr:=sy g w K;have Tj:bZ w (o++v) pd= .ok () v pd:=by grind[bZ]
   rw[kC,aY Tj];have l:=g.mono L;have i:v<:+r:=L.trans J;have eK:v.length<r.length:=by grind
   obtain⟨bU,bD,d⟩:=Fk l (st:=e.st v pd tr) ⟨tr,rfl,λA=>absurd A sr⟩;rw[bD,aO rfl];have ho:=aI.low (aI.lines (c:=0)) l;cases hm:cS v pd with
   |ok a r1 aF=>
    rw[hm] at d;obtain⟨M,a2,a3,bO,eX⟩:=d;rw[aY (pJ hm),a3.eta.2.2.2.2.1];simp only[bx,gP,aS];refine bM.iy (C:=cN _ r) c2.k ((dd.im a2 a3).mono (M.trans i)) (λam7 N b3 b bJ jr eT yO _=>?_) (λop nd ds b _ B=>?_) (λb O=>?_)
    ·have lT:=(dd.sfx bJ).length_le;have l3:=M.length_le;have P:N.length<r.length:=by omega
     exact bM.inl P (hk () N b3 b jr eT P yO)
    ·rcases B with B|⟨_,rfl,Q⟩
     ·exact⟨b,n b (by omega),.inl B⟩
     ·subst Q;exact⟨_,uW ds,.inr ⟨rfl,rfl,rfl⟩⟩
    ·exact⟨b,n b (by rw[O.1];decide),O⟩
   |more op nd ds=>
    rw[hm] at d;rw[dc (sx hm)];have Q:=ho _ _ _ hm;rcases d with d|⟨_,rfl,rfl⟩
    ·rw[d.1];simp only[show¬((1:Int)=0) by decide,bF,e3,aK];obtain⟨D,al,bf⟩:=FD (q:=true) (x:=[120]) l (.inl d) i (by omega) (by decide);rw[al];exact⟨D,rfl,bf⟩
    ·have t:(e.tt ds).2.2.2.2.1=0:=rfl;rw[t];simp only[bx,gP,aS];obtain⟨D,a1,R⟩:=dd.tt l (pd:=ds) (by omega);rw[a1,aO rfl,n _ (by rw[R.1];decide)];exact⟨D,rfl,(R.mono i).s⟩
   |bad u=>rw[hm] at d;rw[gY (uG hm),d.1];simp only[show¬((2:Int)=0) by decide,bF,e3,aK];rw[rA d];exact⟨_,rfl,d.mono i⟩
   |deep u=>rw[hm] at d;rw[jM (uH hm),d.1];simp only[show¬((2:Int)=0) by decide,bF,e3,aK];rw[rA d];exact⟨_,rfl,d.mono i⟩
 ·rw[dc (op:=[]) (nd:=[]) (ds:=pd) (by rw[iw z];rfl),Fv pd m.bY,aO rfl,Ti];exact⟨_,rfl,.inr ⟨rfl,rfl,rfl⟩⟩
end
def pL(t:Tok):Bool:=decide (t= .op [124])
def ql(t:Tok):Bool:=decide (t= .op [38,38])||decide (t= .op [124,124])
theorem Tk(da:ak Unit):fi da=ae (bP [120]) λt=>ae (if cE t [33] then bZ 1 else aU ()) λ_=>ae da λ_=>qk pL 1 da:=by simp[fi,qk,pL]
theorem Tl(a:ak Unit):hj a=ae a λ_=>qk ql 2 a:=by simp[hj,qk,ql]
noncomputable def MV(R:bh):ah->Option ah:=λa=>fixF (xo (λo=> !(decide (o=([124]:aa)))) 1 (r_ R)) bC a
noncomputable def I3(R:bh):ah->Option ah:=λx=>
 (av (lA x) λ(b:aa)=>(bif(decide (b=([33]:aa))) then(av (r_ R (setAt x (W (x.2.1+1)))) λa=>MV R a) else(av (r_ R x) λa=>MV R a)))
theorem aaf(R:bh)(x0:ah):wR R x0=av (g2 x0) λa=>I3 R (a.1,a.2.1,a.2.2.1,x0.2.2.2.1,a.2.2.2.2.1,a.2.2.2.2.2.1,a.2.2.2.2.2.2.1,x0.2.2.2.2.2.2.2.1,a.2.2.2.2.2.2.2.2):=rfl
theorem anj(R:bh)(x0:ah):Eu R x0=av (wR R x0) λa=>fixF (xo (λo=>bif(!(decide (o=([38,38]:aa)))) then(!(decide (o=([124,124]:aa)))) else false) 2 (wR R)) bC a:=rfl
theorem FN{tst:aa->Bool}{w:Int}{F:ah->Option ah}{x:ah}(h:x.2.2.2.2.1≠0):fixF (xo tst w F) bC x=some x:=by
 obtain⟨m,hm⟩:∃m,bC=m+1:=⟨bC-1,by rw[gg]⟩
 simp_all[eZ,xo]
theorem aag{tst:aa->Bool}{w:Int}{F:ah->Option ah}{e:cd}(ds:aq)(b:e.S.length<=1000000)(c:tst []=true):fixF (xo tst w F) bC (e.tt ds)=some (e.tt ds):=by
 obtain⟨m,hm⟩:∃m,bC=m+1:=⟨bC-1,by rw[gg]⟩
 rw[hm,eZ];unfold xo;have a:(e.tt ds).2.2.2.2.1=0:=rfl;rw[a,CA,aO rfl];have d:((e.tt ds).1,(e.tt ds).2.1,(e.tt ds).2.2.1,(e.tt ds).2.2.2.1,(e.tt ds).2.2.2.2.1,(e.tt ds).2.2.2.2.2.1,(e.tt ds).2.2.2.2.2.2.1,(e.tt ds).2.2.2.2.2.2.2.1,(e.tt ds).2.2.2.2.2.2.2.2)=e.tt ds:=rfl;simp_all[MT,Fv,aO]
theorem Tm:([33]:aa)≠[]/\([33]:aa).all gm=true:=by decide
theorem I4(n:Nat):∀l,js true n=some l->uu l:=by
 intro l h;cases n with
 |zero=>cases h
 |succ m=>cases h;simp[pC]
theorem ank(n:Nat):∀l,js true n=some l->yI l:=by
 intro l h;cases n with
 |zero=>cases h
 |succ m=>cases h;simp[tm]
section
variable{R:bh}{n:Nat}(gF:∀k m,n=m+1+k->kp R m/\oo R m)(hD:kp R n)(ax:n<=30){e:cd}(bd:e.ne=30- (n:Int))
include gF hD ax bd
theorem aah:Th e (gk true (js true n) (a_ true n)) (r_ R) where
 im:=λh b=>aad gF hD ax bd h b
 tt:=λh c=>Tg h c
 sfx:=by intro r pd a r' d hm;exact(ar.command (λl hl=>I4 n l hl) (l4 true n)).sfx hm
 pb:=by grind[Fe,aI.command,ank]
theorem anl{r:aa}{pd:aq}{st:ah}(h:cB e r pd)(b:fW e r pd st):bM true e r (qk pL 1 (gk true (js true n) (a_ true n)) r pd) (λst=>st) (λ_ _ _=>True) (MV R st):=by
 refine aae (aah gF hD ax bd) (λt a=>?_) (λr a=>?_) rfl h b
 ·exact⟨[124],Nv a,rfl,by decide,rfl⟩
 ·have:br r=[124]:=by grind
  exact decide_eq_true ((mG (by simp)).2 this)
theorem anm{r c:aa}{pd:aq}{tr:Bool}(d:cB e c pd)(g:c=[]->tr=false)(k:c<:+r)(z:bu c=some c):bM true e r (ae (if cE (au c) [33] then bZ 1 else aU ()) (λ_=>ae (gk true (js true n) (a_ true n)) λ_=>qk pL 1 (gk true (js true n) (a_ true n))) c pd) (λst=>st) (λ_ _ _=>True) (I3 R (e.st c pd tr)):=by
 unfold I3;rw[vN d,aO rfl];have l:=d.nl.h4 d.sfx
 have m:∀{v:aa}{tr:Bool},cB e v pd->(v=[]->tr=false)->v<:+r->bM true e r (ae (gk true (js true n) (a_ true n)) (λ_=>qk pL 1 (gk true (js true n) (a_ true n))) v pd) (λst=>st) (λ_ _ _=>True) (av (r_ R (e.st v pd tr)) λo=>MV R o):=by
  intro v tr h g p;refine bM.iy (C:=λx=>x) c2.id ((aad gF hD ax bd h ⟨tr,rfl,g⟩).mono p) (λa r1 A b B s1 q s _=>?_) (λop nd ds b _ f=>?_) (λb i=>?_)
  ·exact(anl gF hD ax bd q s).mono s1
  ·rcases f with f|⟨_,rfl,t⟩
   ·exact⟨b,FN (by omega),.inl f⟩
   ·subst t;exact⟨_,aag ds h.bY rfl,.inr ⟨rfl,rfl,rfl⟩⟩
  ·exact⟨b,FN (by rw[i.1];decide),i⟩
 by_cases aH:iU c=[33]
 ·have u:=(ry l Tm.1 Tm.2).1 aH;simp only[aH,bx,aK];rw[bm (by grind[cE])];obtain⟨v,rfl⟩:=(qd u).1;have j:v<:+[33]++v:=gQ _ v;rw[aY (show bZ 1 ([33]++v) pd= .ok () v pd from rfl)];have w:setAt (e.st ([33]++v) pd tr) (W ((e.st ([33]++v) pd tr).2.1+1))=e.st v pd tr:=sy d 1 rfl;rw[w];exact m (d.mono j) (λy=>absurd y (d.tu (by simp) (by decide))) (j.trans k)
 ·have bg:cE (au c) [33]=false:=by grind[IG,Tm]
  simp only[aH,bF,aS];rw[aW (by grind),IP];grind
theorem aai{r:aa}{pd:aq}{st:ah}(h:cB e r pd)(b:fW e r pd st):bM true e r (fi (gk true (js true n) (a_ true n)) r pd) (λst=>st) (λ_ _ _=>True) (wR R st):=by
 rw[Tk,aaf];obtain⟨y,g,c⟩:=xl h b;rw[g,aO rfl,FM c b];rcases c with⟨j,tr,a,rfl,k,l,m,p⟩|⟨a,rfl⟩
 ·rw[aY (cA a)];grind[anm]
 ·rw[dc (op:=[]) (by rw[iw a];rfl)];unfold I3;rw[SR h,aO rfl];simp only[reduceCtorEq,bF,aS];have q:=h.jJ;obtain⟨d,i,f⟩:=Tg (R:=R) (pd:=pd) h (by omega);rw[i,aO rfl];have:=FN (tst:=λo=> !(decide (o=([124]:aa)))) (w:=1) (F:=r_ R) (x:=d) (by rw[f.1];decide);exact⟨d,this,f.s⟩
theorem ann{r:aa}{c pd:aq}(h:cB e r c)(d:ei pd<=100*e.S.length+800):∃a,wR R (e.tt pd)=some a/\nX e r (cO [] pd [120]).1 (cO [] pd [120]).2 a:=by rw[aaf,CA,aO rfl];have f:((e.tt pd).1,(e.tt pd).2.1,(e.tt pd).2.2.1,(e.tt pd).2.2.2.1,(e.tt pd).2.2.2.2.1,(e.tt pd).2.2.2.2.2.1,(e.tt pd).2.2.2.2.2.2.1,(e.tt pd).2.2.2.2.2.2.2.1,(e.tt pd).2.2.2.2.2.2.2.2)=e.tt pd:=rfl;rw[f];unfold I3;rw[SR h,aO rfl];simp only[reduceCtorEq,bF,aS];obtain⟨a,g,b⟩:=Tg (R:=R) (pd:=pd) h d;rw[g,aO rfl];have:=FN (tst:=λo=> !(decide (o=([124]:aa)))) (w:=1) (F:=r_ R) (x:=a) (by rw[b.1];decide);exact⟨a,this,b⟩
theorem aaj:Th e (fi (gk true (js true n) (a_ true n))) (wR R) where
 im:=λh b=>aai gF hD ax bd h b
 tt:=λh c=>ann gF hD ax bd h c
 sfx:=by intro r pd a r' d hm;exact(ar.pipe (ar.command (λl hl=>I4 n l hl) (l4 true n))).sfx hm
 pb:=aI.pipe (aah gF hD ax bd).pb
theorem ano{r:aa}{pd:aq}{st:ah}(h:cB e r pd)(g:fW e r pd st):bM true e r (hj (fi (gk true (js true n) (a_ true n))) r pd) (λst=>st) (λ_ _ _=>True) (Eu R st):=by
 rw[Tl,anj];refine bM.iy (C:=λx=>x) c2.id (aai gF hD ax bd h g) (λa r1 l b m s1 i j _=>?_) (λop nd ds b _ c=>?_) (λb d=>?_)
 ·refine(aae (aaj gF hD ax bd) (λt f=>?_) (λr f=>?_) rfl i j).mono s1
  ·unfold ql at f;grind
  ·unfold ql;rw[AN];grind[mG]
 ·rcases c with c|⟨_,rfl,k⟩
  ·exact⟨b,FN (by omega),.inl c⟩
  ·subst k;exact⟨_,aag ds h.bY rfl,.inr ⟨rfl,rfl,rfl⟩⟩
 ·exact⟨b,FN (by rw[d.1];decide),d⟩
end
noncomputable def vT(a:Bool):Int×ah->Option (Int×ah):=λy=>
 (bif(bif a then(decide (y.1=0)) else false) then(av (gr y.2 ([]) ([120]:aa)) λ(b:ah)=>some (y.1,b)) else some y)
noncomputable def Tn(a:aa)(k:Int×ah->Option (Int×ah))(nZ:Int):ah->Option (Int×ah):=λx=>
 (av (hr x) λ(c:aa)=>(av (gq x) λ(d:Bool)=>(cR (d=false) (ia x) (0:UInt8) λ(e:UInt8)=>(bif(bif(bif d then true else(decide ((e.toNat:Int)=(10:Int)))) then true else(bif(decide (c=a)) then(!(decide (a=[]))) else false)) then k ((W (nZ+1)),x) else(bif(bif(!(decide (c=([59]:aa)))) then(!(decide (c=([38]:aa)))) else false) then(av (hg x x.2.1) λ(b:ah)=>some ((W (nZ+1)),(b.1,b.2.1,b.2.2.1,x.2.2.2.1,b.2.2.2.2.1,b.2.2.2.2.2.1,b.2.2.2.2.2.2.1,x.2.2.2.2.2.2.2.1,b.2.2.2.2.2.2.2.2))) else k ((W (nZ+1)),setAt x (W (x.2.1+1))))))))
noncomputable def aak(R:bh)(b:aa)(k:Int×ah->Option (Int×ah))(nZ:Int):ah->Option (Int×ah):=λx=>
 (av (Eu R x) λ(c:ah)=>(bif(!(decide (c.2.2.2.2.1=0))) then some ((W (nZ+1)),c) else(av (g2 c) λ(a:ah)=>Tn b k nZ (a.1,a.2.1,a.2.2.1,c.2.2.2.1,a.2.2.2.2.1,a.2.2.2.2.2.1,a.2.2.2.2.2.2.1,c.2.2.2.2.2.2.2.1,a.2.2.2.2.2.2.2.2))))
noncomputable def MW(R:bh)(a:aa)(b:bs)(c:Bool)(j k:Int×ah->Option (Int×ah))(nZ:Int):ah->Option (Int×ah):=λx=>
 (av (gq x) λ(f:Bool)=>(bif f then(bif(!(decide (a=[]))) then(av (g3 x ([])) λ(g:ah)=>j (nZ,g)) else j (nZ,x)) else(av (ia x) λ(h:UInt8)=>(bif(decide ((h.toNat:Int)=(10:Int))) then(av (zU x) λ(i:ah)=>k (nZ,i)) else(av (hr x) λ(d:aa)=>(av (lA x) λ(e:aa)=>(cR ((decide (0<nZ))=true/\(bif(bif(decide (d=a)) then(!(decide (a=[]))) else false) then(bif(decide (0<nZ)) then true else(!c)) else false)=false) (ye e b) false λ(l:Bool)=>(bif(bif(bif(bif(bif(decide (d=a)) then(!(decide (a=[]))) else false) then(bif(decide (0<nZ)) then true else(!c)) else false) then true else(bif(decide (0<nZ)) then l else false)) then true else(bif(decide (a=([59,59]:aa))) then(decide (e=([101,115,97,99]:aa))) else false)) then some (nZ,x) else aak R a k nZ x))))))))
theorem To(R:bh)(b:aa)(a:bs)(d:Bool)(j k:Int×ah->Option (Int×ah))(nZ:Int)(x:ah):z8 R b a d j k (nZ,x)=(bif(decide (x.2.2.2.2.1=0)) then
 (av (g2 x) λ(c:ah)=>MW R b a d j k nZ (c.1,c.2.1,c.2.2.1,x.2.2.2.1,c.2.2.2.2.1,c.2.2.2.2.2.1,c.2.2.2.2.2.2.1,x.2.2.2.2.2.2.2.1,c.2.2.2.2.2.2.2.2)) else j (nZ,x)):=rfl
theorem anp(R:bh)(x0:ah)(b:aa)(a:bs)(c:Bool):Ev R x0 b a c=fixF (z8 R b a c (vT c)) bC (0,x0):=rfl
def tw(c:Ctx)(no:Bool):Bool:=xc c no||(decide (c= .text)&&no)
theorem aal(r:aa):br r≠[119]:=by
 intro h;have ad:(la.find? λo=>o.isPrefixOf r)=some [119]\/¬(la.find? λo=>o.isPrefixOf r)=some [119]:=Classical.em _;rcases ad with ad|ad
 ·have:=List.mem_of_find?_eq_some ad;revert this;decide
 ·unfold br at h;cases a:(la.find? λo=>o.isPrefixOf r) with
  |none=>grind
  |some o=>grind
theorem anq{c:Ctx}{no:Bool}(aG:tw c no=true){r:aa}(h:du r)(k:r≠[])(n:Nat)(a:Bool)(i:a=(if((decide (0<(n:Int)))=true/\(bif(bif(decide (br r=jt c)) then(!(decide (jt c=[]))) else false) then(bif(decide (0<(n:Int))) then true else(!(!no))) else false)=false) then(oR c).contains (iU r) else false)):
  (bif(bif(bif(bif(decide (br r=jt c)) then(!(decide (jt c=[]))) else false) then(bif(decide (0<(n:Int))) then true else(!(!no))) else false) then true else(bif(decide (0<(n:Int))) then a else false)) then true else(bif(decide (jt c=([59,59]:aa))) then(decide (iU r=([101,115,97,99]:aa))) else false))=((no||decide (n>0))&&dR c (au r)):=by
 have ax:decide (0<(n:Int))=decide (n>0):=by simp
 rw[ax] at i⊢;subst i
 have e:∀j,jt j=[119]->decide (br r=jt j)=false:=by grind[aal]
 have l:decide (([119]:aa)=[59,59])=false:=by decide
 have m:∀{w:aa},w≠[]->w.all gm=true->(iU r=w↔au r= .word w true):=λad f=>ry h ad f
 have d:∀{w:aa},w≠[]->w.all gm=true->cE (au r) w=decide (iU r=w):=λad f=>(IG h ad f).symm
 have g:∀{o:aa},o≠[]->(au r== .op o)=decide (br r=o):=by grind[mG]
 cases c with
 |text=>grind[dR,lQ,jt,oR]
 |paren=>have:dR .paren (au r)=decide (br r=[41]):=g (by simp);grind[jt,oR]
 |item=>
  have b:no=true:=by grind[tw,xc]
  subst b;have:dR .item (au r)=(decide (br r=[59,59])||decide (iU r=ep)):=by show(au r== .op [59,59]||cE (au r) ep)=_;grind[IU]
  grind[jt,oR,ep]
 |qL=>
  have b:no=false:=by grind[tw,xc]
  subst b;have:dR .qL (au r)=decide (iU r=[125]):=d MK.1 MK.2;rw[this,e _ rfl];grind[jt,oR]
 |rl=>
  have b:no=false:=by grind[tw,xc]
  subst b;have:dR .rl (au r)=decide (iU r=iQ):=d MJ.1 MJ.2;rw[this,e _ rfl];grind[jt,oR]
 |p9=>
  have b:no=false:=by grind[tw,xc]
  subst b;have:dR .p9 (au r)=(decide (iU r=ib)||decide (iU r=hM)||decide (iU r=e8)):=by show(cE (au r) ib||cE (au r) hM||cE (au r) e8)=_;grind[S2,S1,CO]
  rw[this,e _ rfl];grind[jt,oR]
 |ke=>
  have b:no=false:=by grind[tw,xc]
  subst b;have:dR .ke (au r)=decide (iU r=e8):=d CO.1 CO.2;rw[this,e _ rfl];grind[jt,oR]
 |py=>
  have b:no=false:=by grind[tw,xc]
  subst b;have:dR .py (au r)=decide (iU r=gN):=d vQ.1 vQ.2;rw[this,e _ rfl];grind[jt,oR]
 |done=>
  have b:no=false:=by grind[tw,xc]
  subst b;have:dR .done (au r)=decide (iU r=iH):=d FB.1 FB.2;rw[this,e _ rfl];grind[jt,oR]
theorem ans{c:Ctx}{no:Bool}(aG:tw c no=true){r:aa}(d:du r){o:aa}(a:au r= .op o):(bif(decide (br r=jt c)) then(!(decide (jt c=[]))) else false)=dR c (.op o):=by
 have b:=(ic a).1;have bd:=(ic a).2.2.2;subst b;cases c with
 |text=>simp[jt,dR]
 |paren=>grind[jt,dR]
 |item=>grind[jt,dR,cE]
 |_=>simp[jt,dR,cE,aal]
theorem ant{c:Ctx}{r:aa}(h:br r=[]):(bif(decide (br r=jt c)) then(!(decide (jt c=[]))) else false)=false:=by grind
def tx(ao:ak Unit)(c:Ctx)(no:Bool)(n:Nat):ak Nat:=ae (cS.aM (if no||n>0 then [] else [120])) λ_=>ca (ed ao c no) n
theorem MY{ao:ak Unit}{c:Ctx}{no:Bool}{n:Nat}{r r1:aa}{pd:aq}(a:bu r=some r1)(b:au r1≠ .line):tx ao c no n r pd=ca (ed ao c no) n r1 pd:=by unfold tx;rw[aY (pJ (sk a b))]
theorem anu{ao:ak Unit}{c:Ctx}{no:Bool}{n:Nat}{r:aa}{pd:aq}(a:bu r=none):tx ao c no n r pd= .more [] (cO [] pd (if no||n>0 then [] else [120])).1 (cO [] pd (if no||n>0 then [] else [120])).2:=by
 unfold tx;have:cS r pd= .more [] [] pd:=by rw[si,cF];have:h2 false r pd= .more [] (cO [] pd []).1 (cO [] pd []).2:=dc (iw a);rw[this];rfl
 grind[dc,sx]
theorem anv{r t:aa}{pd:aq}(e:bu r=some (10::t)):(∃a b r' d,cS r pd= .ok a r' d/\ae jb (λ_=>cS) (10::t) pd= .ok b r' d)\/cS r pd=ae jb (λ_=>cS) (10::t) pd:=by
 have ad:cS r pd=cN h2 r (ae jb (λ_=>aU (.inl true)) (10::t) pd):=by rw[si,cF,ux e]
 have g:=(dT e).length_le;cases hm:jb (10::t) pd with
 |ok a r1 c=>
  obtain⟨i,_⟩:=Sr hm;have hl:r1.length<r.length:=by grind
  rw[ad,aY hm,aY hm];have f:cN h2 r (aU (.inl true) r1 c)=ca h2 true r1 c:=by show(if r1.length<r.length then ca h2 true r1 c else _)=_;grind
  rw[f,si];rcases ajf r1.length true r1 c (cX _) with⟨r',d,⟨x,j⟩,y,k⟩|h
  ·grind
  grind
 |more op nd ds=>right;rw[ad,dc hm,dc hm];rfl
 |bad q=>right;rw[ad,gY hm,gY hm];rfl
 |deep q=>right;rw[ad,jM hm,jM hm];rfl
theorem anw{ao:ak Unit}{c:Ctx}{no:Bool}{n:Nat}{r t:aa}{pd:aq}(a:bu r=some (10::t)):tx ao c no n r pd=ae (jb.aM (if no||n>0 then [] else [120])) (λ_=>tx ao c no n) (10::t) pd:=by
 have hk:ae (jb.aM (if no||n>0 then [] else [120])) (λ_=>tx ao c no n)=ae ((ae jb (λ_=>cS)).aM (if no||n>0 then [] else [120])) (λ_=>ca (ed ao c no) n):=by rw[IN,kn];rfl
 rw[hk];unfold tx;grind[anv,ae,ak.aM]
theorem anx(ao:ak Unit)(c:Ctx)(no:Bool):od ao c no=tx ao c no 0:=by simp[uw,tx]
theorem aam{r r1:aa}{k:Nat}{pd b:aq}{a:Unit}(hk:0<k)(c:r≠[])(h:bZ k r pd= .ok a r1 b):r1.length<r.length:=by cases h;grind[List.length_pos_iff]
theorem anz{l:dS}(hl:uu l){r:aa}{pd:aq}{a:Unit}{r':aa}{b:aq}(aG:hs (au r)=true)(h:hN l (au r) r pd= .ok a r' b):r'.length<r.length:=by
 have g:r≠[]:=by rintro rfl;grind[au,hs]
 cases c:au r with
 |eof=>rw[c] at h;cases h
 |line=>rw[c] at h;cases h
 |op o=>rw[c] at h;have d:ae (bZ 1) (λ_=>ae ((l.ls .paren false).aM [41]) λ_=>jI [41]) r pd= .ok a r' b:=h;obtain⟨_,r1,i,ad,e⟩:=b0 d;have f:ar (ae ((l.ls .paren false).aM [41]) λ_=>jI [41]):=((hl.ls _ _).aM _).ae λ_=>ar.op _;have:=(f.sfx e).length_le;have:=aam (by decide) g ad;omega
 |word w p=>
  rw[c] at h aG;have j:w≠[]:=by rintro rfl;cases p<;>simp[hs] at aG;revert aG;decide
  have d:ae (bZ w.length) (λ_=>yT l w) r pd= .ok a r' b:=h;obtain⟨_,r1,i,ad,e⟩:=b0 d;have f:ar (yT l w):=by unfold yT;refine ar.ite (((hl.ls _ _).aM _).ae λ_=>ar.res _) (ar.ite (ar.cond hl) (ar.ite (ar.for_ hl hl.dl) (ar.ite (ar.wY hl hl.dl) (((hl.ls _ _).aM _).ae λ_=>ar.body hl _))))
  have k:yT l w r1 i= .ok a r' b:=e;have:=(f.sfx k).length_le;have:=aam (No.2 j) g ad;omega
theorem anA{n:Nat}{r:aa}{pd:aq}{a:Unit}{r':aa}{x:aq}(h:gk true (js true n) (a_ true n) r pd= .ok a r' x):r'.length<r.length:=by
 have hD:=l4 true n;have jY:=I4 n;unfold gk at h;obtain⟨t,r1,k,ad,c⟩:=b0 h;obtain⟨s,rfl,rfl⟩:=np ad;have G:=(dT s).length_le;split at c
 ·cases c
 ·rename_i bd;split at c
  ·rename_i aG;obtain⟨_,g,i,e,d⟩:=b0 c;have a2:=((ar.mA hD).sfx d).length_le;cases n with
   |zero=>cases e
   |succ m=>
    have u:((hN (aZ true m) (au r1)).named (mx (au r1))) r1 k= .ok () g i:=e;have j:hN (aZ true m) (au r1) r1 k= .ok () g i:=by grind[ak.named]
    have:=anz (pC true m) aG j;omega
  ·have H:r1≠[]:=λy=>bd (lQ.2 y);have l:bu r1=some r1:=lD _ _ _ (cX _) s;cases f:au r1 with
   |eof=>grind
   |line=>rw[f] at c;cases c
   |op o=>
    rw[f] at c;simp only at c;split at c
    ·rename_i z;obtain⟨b,g,i,e,d⟩:=b0 c;have a2:=((ar.simple hD true).sfx d).length_le;have A:=(ic f).1;subst A;have B:=I1 l (by grind[Mo]) e;subst B;have:=sh hD e;omega
    ·cases c
   |word w p=>
    rw[f] at c;simp only at c;split at c
    ·cases c
    ·obtain⟨b,g,i,e,d⟩:=b0 c;cases b with
     |true=>simp only[cG] at d;have a2:=((ar.simple hD true).sfx d).length_le;have:=sh hD e;omega
     |false=>
      simp only[eC,cm] at d;have C:g=r1/\i=k:=by
       cases z:eV (br (r1.dropWhile cb)) with
       |true=>grind[I1]
       |false=>simp_all[uD]
      obtain⟨rfl,rfl⟩:=C;obtain⟨_,I,J,u,j⟩:=b0 d;have a3:=vx hD (yG l f).1 (yG l f).2 u;split at j
      ·obtain⟨t,K,L,D,q⟩:=b0 j;obtain⟨E,rfl,rfl⟩:=np D;have M:=(dT E).length_le;split at q
       ·rename_i N;obtain⟨_,O,P,F,v⟩:=b0 q;have Q:=((dX.function (fr:=true) jY).sfx F).length_le;simp only[cG] at v;cases v;omega
       ·have:=((ar.simple hD true).sfx q).length_le;omega
      ·have:=((ar.simple hD true).sfx j).length_le;omega
theorem anB{σ α:Type}{f:σ->ak (σ⊕α)}(hf:∀s r pd x r' c,f s r pd= .ok x r' c->r'.length<=r.length):∀(N:Nat)(s:σ)(r:aa)(pd:aq)(a:α)(r':aa)(c:aq),r.length<=N->ca f s r pd= .ok a r' c->r'.length<=r.length:=by
 intro N;induction N with
 |zero=>
  intro s r pd a r' c ax h;rw[cF] at h;cases hm:f s r pd with
  |ok x r1 d=>
   rw[hm] at h;have:=hf _ _ _ _ _ _ hm;cases x with
   |inl s'=>simp_all[cN]
   |inr b=>cases h;omega
  |more op nd ds=>rw[hm] at h;cases h
  |bad q=>rw[hm] at h;cases h
  |deep q=>rw[hm] at h;cases h
 |succ N e=>
  intro s r pd a r' c ax h;rw[cF] at h;cases hm:f s r pd with
  |ok x r1 d=>
   rw[hm] at h;have:=hf _ _ _ _ _ _ hm;cases x with
   |inl s'=>unfold cN at h;grind
   |inr b=>cases h;omega
  |more op nd ds=>rw[hm] at h;cases h
  |bad q=>rw[hm] at h;cases h
  |deep q=>rw[hm] at h;cases h
theorem aan{p:Tok->Bool}{w:Nat}{da:ak Unit}(c:ar da){r:aa}{pd:aq}{a:Unit}{r':aa}{b:aq}(h:qk p w da r pd= .ok a r' b):r'.length<=r.length:=by unfold qk at h;refine anB (λs r pd x r' b h=>?_) _ _ _ _ _ _ _ (cX _) h;have ad:ar (ae (bP []) λt=>if p t=true then ae (bZ w) λ_=>ae (cS.aM [120]) λ_=>ae da λ_=>(aU (.inl ()):ak (Unit⊕Unit)) else aU (.inr ())):=(ar.dD _).ae λt=>ar.ite ((ar.dg _).ae λ_=>(ar.lines.aM _).ae λ_=>c.ae λ_=>ar.ret _) (ar.ret _);exact(ad.sfx h).length_le
theorem anC{n:Nat}{r:aa}{pd:aq}{a:Unit}{r':aa}{c:aq}(h:fi (gk true (js true n) (a_ true n)) r pd= .ok a r' c):r'.length<r.length:=by
 rw[Tk] at h;have d:ar (gk true (js true n) (a_ true n)):=ar.command (λl hl=>I4 n l hl) (l4 true n);obtain⟨t,r1,m,ad,e⟩:=b0 h;obtain⟨f,rfl,rfl⟩:=np ad;have o:=(dT f).length_le;obtain⟨_,g,p,b,i⟩:=b0 e;have a2:g.length<=r1.length:=by
  split at b
  ·cases b;simp
  ·cases b;omega
 obtain⟨_,q,s,j,k⟩:=b0 i;have a3:=anA j;have u:=aan d k;omega
theorem anD{n:Nat}{r:aa}{pd:aq}{a:Unit}{r':aa}{b:aq}(h:hj (fi (gk true (js true n) (a_ true n))) r pd= .ok a r' b):r'.length<r.length:=by rw[Tl] at h;have c:ar (fi (gk true (js true n) (a_ true n))):=ar.pipe (ar.command (λl hl=>I4 n l hl) (l4 true n));obtain⟨_,f,g,d,e⟩:=b0 h;have a3:=anC d;have i:=aan c e;omega
def tz(no:Bool)(k:Nat):aa:=if no||k>0 then [] else [120]
theorem MZ{no:Bool}{k:Nat}(st:ah):vT (!no) ((k:Int),st)=if no||k>0 then some ((k:Int),st) else av (gr st [] [120]) λy=>some ((k:Int),y):=by unfold vT;grind
theorem Tp{e:cd}{r r0:aa}{nd:aa}{ds:aq}{st:ah}{a:aq}{no:Bool}{k:Nat}{q:Bool}(h0:cB e r a)(hm:iz false e r nd ds st)(h:r<:+r0)(c:nd.length+ei ds<=100*e.S.length+500):∃b,vT (!no) ((k:Int),st)=some b/\iz q e r0 (cO nd ds (tz no k)).1 (cO nd ds (tz no k)).2 b.2:=by
 rw[MZ];unfold tz;split
 ·exact⟨_,rfl,(hm.mono h).up⟩
 ·obtain⟨d,f,g⟩:=FD (q:=q) (x:=[120]) h0 hm h c (by decide);simp_all[aO]
theorem aao{e:cd}{r:aa}{st:ah}{no:Bool}{k:Nat}(hm:iL e r st):vT (!no) ((k:Int),st)=some ((k:Int),st):=by
 rw[MZ];split
 ·rfl
 ·rw[rA hm];rfl
section
variable{R:bh}{n:Nat}(gF:∀k m,n=m+1+k->kp R m/\oo R m)(hD:kp R n)(ax:n<=30){e:cd}(bd:e.ne=30- (n:Int)){c:Ctx}{no:Bool}(aG:tw c no=true)
noncomputable abbrev M0(R:bh)(c:Ctx)(no:Bool):(Int×ah->Option (Int×ah))->Int×ah->Option (Int×ah):=z8 R (jt c) (oR c) (!no) (vT (!no))
abbrev uJ(n:Nat):ak Unit:=hj (fi (gk true (js true n) (a_ true n)))
include aG
theorem aap(h:c= .text):no=true:=by grind[tw,xc]
theorem aaq{k:Int×ah->Option (Int×ah)}{m:Nat}{r:aa}{d pd:aq}(h:cB e r d)(j:ei pd<=100*e.S.length+400):∃b,MW R (jt c) (oR c) (!no) (vT (!no)) k (m:Int) (e.tt pd)=some b/\iz (decide (c= .text)) e r (cO [] pd (tz no m)).1 (cO [] pd (tz no m)).2 b.2:=by
 unfold MW;rw[oS,aO rfl];simp only[aK];by_cases a:c= .text
 ·have f:=aap aG a;subst a f;have hk:decide (jt .text=[])=true:=rfl;rw[hk,MZ];exact⟨((m:Int),e.tt pd),rfl,.inr ⟨rfl,rfl,rfl⟩⟩
 ·have hk:decide (jt c=[])=false:=by cases c<;>first|rfl|grind
  rw[hk,e4 a];simp only[e3,aK];obtain⟨l,g,i⟩:=FG (pd:=pd) (x:=[]) h (by omega) (by simp);rw[g,aO rfl];exact Tp h i.s fK (by grind)
theorem anE{N m:Nat}{r:aa}{a pd:aq}(i:0<N)(h:cB e r a)(d:ei pd<=100*e.S.length+400):∃b,fixF (M0 R c no) N ((m:Int),e.tt pd)=some b/\iz (decide (c= .text)) e r (cO [] pd (tz no m)).1 (cO [] pd (tz no m)).2 b.2:=by
 obtain⟨f,rfl⟩:∃m,N=m+1:=⟨N-1,by omega⟩
 rw[eZ];show∃b,z8 R (jt c) (oR c) (!no) (vT (!no)) _ ((m:Int),e.tt pd)=some b/\_
 rw[To];have g:(e.tt pd).2.2.2.2.1=0:=rfl;rw[g,CA,aO rfl];simp only[bx,aK];exact aaq aG h d
theorem anG{N:Nat}{m:Int}{st:ah}(b:0<N)(h:st.2.2.2.2.1≠0):fixF (M0 R c no) N (m,st)=vT (!no) (m,st):=by
 obtain⟨a,rfl⟩:∃m,N=m+1:=⟨N-1,by omega⟩
 rw[eZ];show z8 R (jt c) (oR c) (!no) (vT (!no)) _ (m,st)=_;simp_all[To]
include gF hD ax bd
theorem anH:∀(N m:Nat)(r:aa)(pd:aq)(st:ah),r.length+1<N->m+r.length<=1000001->cB e r pd->fW e r pd st->bM (decide (c= .text)) e r (tx (uJ n) c no m r pd) (λb=>b.2) (λa _ b=>b.1=(a:Int)) (fixF (M0 R c no) N ((m:Int),st)):=by
 intro N;induction N with
 |zero=>omega
 |succ N T=>
  intro m r pd st nQ hm D E;have K:0<N:=by omega
  rw[eZ];have Tq:∀(m:Nat)(r:aa)(gl pd:aq),cB e r gl->ei pd<=100*e.S.length+400->_:=λm r gl pd h U=>anE (R:=R) (N:=N) (m:=m) aG K h U
  have V:∀(m:Int)(st:ah),st.2.2.2.2.1≠0->_:=λm st h=>anG (R:=R) (N:=N) (m:=m) aG K h
  generalize fixF (M0 R c no) N=k at T Tq V;show bM _ e r _ _ _ (z8 R (jt c) (oR c) (!no) (vT (!no)) k ((m:Int),st));rw[To,E.eta.2.2.2.2.1];simp only[bx,aK];obtain⟨y,tM,bz⟩:=xl D E;rw[tM,aO rfl,FM bz E];rcases bz with⟨az,tr,L,rfl,gZ,i,z,h9⟩|⟨L,rfl⟩
  ·have Ar:=z.length_le;unfold MW;rw[qj,aO rfl,Fu i];by_cases Y:az=[]
   ·subst Y;simp only[bx,aK];rw[MY L (by decide)];rw[cF];by_cases ht:c= .text
    ·have jQ:=aap aG ht;subst ht jQ;have hk:decide (jt .text=[])=true:=rfl;have M:ed (uJ n) .text true m [] pd= .ok (.inr m) [] pd:=by unfold ed;rw[aY (cA h9)];rfl
     rw[hk,MZ,M];exact⟨_,rfl,z,i,⟨tr,rfl,gZ⟩,rfl⟩
    ·have hk:decide (jt c=[])=false:=by cases c<;>first|rfl|grind
     have M:ed (uJ n) c no m [] pd= .more [] (cO [] pd (tz no m)).1 (cO [] pd (tz no m)).2:=by unfold ed;rw[aY (cA h9),bm (by decide),aW ht];rfl
     rw[hk,M];simp only[e3,aK];obtain⟨aP,Z,bl⟩:=uF (tr:=tr) (x:=[]) i (by decide);rw[Z,aO rfl];have:=i.jJ;obtain⟨b,A,p⟩:=Tp (no:=no) (k:=m) (q:=decide (c= .text)) i bl.s z (by show([]:aa).length+ei pd<=_;omega);exact⟨b,A,p⟩
   ·rw[e4 Y];simp only[aS];rw[aO rfl];have pF:au az≠ .eof:=λhh=>Y (lQ.1 hh);have dG:=i.nl.h4 i.sfx;cases az with
    |nil=>grind
    |cons b t=>
     simp only[y7,pD];by_cases I2:b=10
     ·
      subst I2;simp only[bx,aK];rw[anw L];obtain⟨bU,bD,j⟩:=Y7 (q:=false) (tr:=tr) i;rw[bD,aO rfl];have ho:=aI.low (aI.nl (c:=0)) i;cases s:jb (10::t) pd with
      |ok a r1 aF=>rw[s] at j;obtain⟨cU,a2,a3,_⟩:=j;rw[aY (pJ s)];have j2:=(Sr s).1.length_le;simp only[mi] at Ar;exact(T m r1 aF bU (by omega) (by omega) a2 a3).mono (cU.trans z)
      |more op nd ds=>rw[s] at j;rw[dc (sx s),V _ _ (by rw[j.z.1];decide)];have U:=ho _ _ _ s;obtain⟨F,A,p⟩:=Tp (no:=no) (k:=m) (q:=decide (c= .text)) i j z (by omega);exact⟨F,A,p⟩
      |bad u=>rw[s] at j;rw[gY (uG s),V _ _ (by rw[j.1];decide),aao j];exact⟨_,rfl,j.mono z⟩
      |deep u=>rw[s] at j;rw[jM (uH s),V _ _ (by rw[j.1];decide),aao j];exact⟨_,rfl,j.mono z⟩
     ·simp only[I2,bF,aS];have anI:au (b::t)≠ .line:=by rw[CC,aW I2];grind
      rw[MY L anI,rz i,aO rfl,vN i,aO rfl,Mj _ _ (by cases c<;>decide),fV,anq aG dG Y m _ rfl];rw[cF]
      have Tr:∀X,(X=ed (uJ n) c no m (b::t) pd)->X=(if((no||decide (m>0))&&dR c (au (b::t)))=true then aU (.inr m) else ae (uJ n) λ_=>ae (bP []) (hQ c m)) (b::t) pd:=by rintro X rfl;unfold ed;rw[aY (cA h9),aW pF]
      rw[Tr _ rfl];cases ar0:((no||decide (m>0))&&dR c (au (b::t))) with
      |true=>simp only[aK,cG];exact⟨_,rfl,z,i,⟨tr,rfl,gZ⟩,rfl⟩
      |false=>
       simp only[aS,eC,cm];unfold aak;have O:W ((m:Int)+1)=((m+1:Nat):Int):=by grind[dU]
       refine bM.iy (C:=cN _ (b::t)) c2.k ((ano gF hD ax bd i ⟨tr,rfl,gZ⟩).mono z) (λa ct d iS bJ jr eT yO _=>?_) (λop nd ds iS CI oL=>?_) (λiS kr=>?_)
       ·have eK:=anD bJ;rw[yO.eta.2.2.2.2.1];simp only[bx,gP,aS];obtain⟨kh,anJ,Kj⟩:=xl eT yO;rw[anJ,aO rfl,FM Kj yO];unfold Tn;rw[O];rcases Kj with⟨P,l,fq,rfl,MF,w,xf,CJ⟩|⟨fq,rfl⟩
        ·have ar1:=xf.length_le;have I:P<:+r:=xf.trans jr;have nu:P.length<(b::t).length:=by omega
         have J:=T (m+1) P d (e.st P d l) (by omega) (by omega) w ⟨l,rfl,MF⟩;rw[aY (cA fq),rz w,aO rfl,qj,aO rfl,Fu w];have ar2:(no||decide (m+1>0))=true:=by simp
         cases P with
         |nil=>
          simp only[bx,cR,tB,cm,aK];rw[MY (r1:=[]) CJ (by decide)] at J;have:cN (ed (uJ n) c no) (b::t) (hQ c m (au []) [] d)=ca (ed (uJ n) c no) (m+1) [] d:=by rfl
          rw[this];exact J.mono I
         |cons g f=>
          rw[e4 (show¬(g::f=[]) by simp),fV];simp only[cG,aS,y7,pD]
          have sq:∀(x:aa)(M1:aq),x.length<(b::t).length->cN (ed (uJ n) c no) (b::t) (ae cS (λ_=>aU (.inl (m+1))) x M1)=tx (uJ n) c no (m+1) x M1:=by
           intro x M1 E;unfold tx;rw[bm (by simp)];cases B:cS x M1 with
           |ok eX eO lf=>rw[aY B,aY (pJ B)];have bw:=(ar.lines.sfx B).length_le;show(if eO.length<(b::t).length then ca (ed (uJ n) c no) (m+1) eO lf else .bad eO)=_;grind
           |more op nd ds=>rw[dc B,dc (sx B)];rfl
           |bad q=>rw[gY B,gY (uG B)];rfl
           |deep q=>rw[jM B,jM (uH B)];rfl
          have qX:∀X:dt Nat,X= .bad (g::f)->bM (decide (c= .text)) e r X (λb=>b.2) (λa _ b=>b.1=(a:Int)) (av (hg (e.st (g::f) d l) (e.st (g::f) d l).2.1) λ(G:ah)=>
            some (((m+1:Nat):Int),(G.1,G.2.1,G.2.2.1,(e.st (g::f) d l).2.2.2.1,G.2.2.2.2.1,G.2.2.2.2.2.1,G.2.2.2.2.2.2.1,(e.st (g::f) d l).2.2.2.2.2.2.2.1,G.2.2.2.2.2.2.2.2))):=by
           rintro X rfl;obtain⟨aP,Z,bl⟩:=pI (tr:=l) (e.st (g::f) d l).2.1 w I;rw[Z,aO rfl];exact⟨_,rfl,by cases Z;exact bl⟩
          rcases IM (b:=g) (t:=f) with⟨Q,S⟩|⟨Q,S,H⟩|⟨Q,S,H⟩
          ·subst Q;simp only[bx,aK];rw[S];show bM _ e r (cN _ (b::t) (ae cS (λ_=>aU (.inl (m+1))) (10::f) d)) _ _ _;rw[sq _ _ nu];exact J.mono I
          ·simp only[Q,bF,aS];rw[ans aG (w.nl.h4 w.sfx) H,H];unfold hQ;dsimp only;by_cases kT:br (g::f)=[59]\/br (g::f)=[38]
           ·have j0:dR c (.op (br (g::f)))=false:=by rcases kT with kT|kT<;>rw[kT]<;>cases c<;>rfl
            rw[j0,bm kT];have xP:(bif !decide (br (g::f)=[59]) then !decide (br (g::f)=[38]) else false)=false:=by grind
            rw[xP];simp only[aS];have Ru:(br (g::f)).length=1:=by grind
            obtain⟨v,D⟩:=(ic H).2.1;have anK:=(ic H).2.2.1;have anL:=(ic H).2.2.2;generalize br (g::f)=o at*;rw[<-D] at w nu I⊢;have gD:v<:+o++v:=gQ o v;have kC:setAt (e.st (o++v) d l) (W ((e.st (o++v) d l).2.1+1))=e.st v d l:=sy w 1 Ru;have Tj:bZ 1 (o++v) d= .ok () v d:=by grind[bZ]
            have RO:=gD.length_le;rw[kC,aY Tj,sq _ _ (by omega)];have sr:=w.tu anL anK;exact(T (m+1) v d (e.st v d l) (by omega) (by omega) (w.mono gD) ⟨l,rfl,λhh=>absurd hh sr⟩).mono (gD.trans I)
           ·rw[aW kT];have xP:(bif !decide (br (g::f)=[59]) then !decide (br (g::f)=[38]) else false)=true:=by grind
            rw[xP];cases j0:dR c (.op (br (g::f))) with
            |true=>
             simp only[aK,cG];rw[MY CJ (by grind),cF] at J;have M:ed (uJ n) c no (m+1) (g::f) d= .ok (.inr (m+1)) (g::f) d:=by unfold ed;rw[aY (cA CJ),if_neg (by grind),if_pos (by grind)];rfl
             rw[M] at J;exact J.mono I
            |false=>simp only[cond_false,cond_true,Bool.false_eq_true,if_false];exact qX _ rfl
          ·simp only[Q,decide_false,cond_false];rw[ant S,H,S];simp only[cond_false];exact qX _ rfl
        ·rw[dc (op:=[]) (nd:=[]) (ds:=d) (by rw[iw fq];rfl),Fv d D.bY,aO rfl,oS,aO rfl];simp only[cR,tB,cm,aK];have:=eT.jJ;obtain⟨F,A,p⟩:=Tq (m+1) ct d d eT (by omega);have E:tz no (m+1)=[]:=by simp[tz]
         rw[E] at p;exact⟨F,A,p.mono jr⟩
       ·rcases oL with oL|⟨_,rfl,U⟩
        ·rw[oL.1];simp only[show¬((1:Int)=0) by decide,bF,e3,aK];exact⟨_,rfl,.inl oL⟩
        ·subst U;have iT:(e.tt ds).2.2.2.2.1=0:=rfl;rw[iT,CA,aO rfl];simp only[bx,gP,aS];have It:((e.tt ds).1,(e.tt ds).2.1,(e.tt ds).2.2.1,(e.tt ds).2.2.2.1,(e.tt ds).2.2.2.2.1,(e.tt ds).2.2.2.2.2.1,(e.tt ds).2.2.2.2.2.2.1,(e.tt ds).2.2.2.2.2.2.2.1,(e.tt ds).2.2.2.2.2.2.2.2)=e.tt ds:=rfl;rw[It];unfold Tn;rw[Fv ds D.bY,aO rfl,oS,aO rfl,O];simp only[cR,tB,cm,aK];have tf:=aI.low (aI.pB (aaj gF hD ax bd).pb) i _ _ _ CI;obtain⟨F,A,p⟩:=Tq (m+1) r pd ds D (by omega);have E:tz no (m+1)=[]:=by simp[tz]
         rw[E] at p;exact⟨F,A,p⟩
       ·rw[kr.1];grind
  ·rw[anu L];have:=D.jJ;obtain⟨F,A,p⟩:=aaq (R:=R) (m:=m) (k:=k) aG D (pd:=pd) (by omega);exact⟨F,A,p⟩
end
theorem anM(n:Nat)(c:Ctx)(no:Bool):(aZ true n).ls c no=od (uJ n) c no:=by cases n<;>rfl
theorem aat{R:bh}{n:Nat}(gF:∀k m,n=m+1+k->kp R m/\oo R m)(hD:kp R n)(ax:n<=30){e:cd}(bd:e.ne=30- (n:Int)){c:Ctx}{no:Bool}(aG:tw c no=true){r:aa}{pd:aq}{st:ah}(h:cB e r pd)(d:fW e r pd st):bM (decide (c= .text)) e r ((aZ true n).ls c no r pd) (λb=>b.2) (λa _ b=>b.1=(a:Int)) (Ev R st (jt c) (oR c) (!no)):=by rw[anM,anx,anp];have ad:=h.bY;have f:=h.sfx.length_le;grind[anH,vM]
theorem Ts:∀(k n:Nat),n<=30->(2*n+1<=k->kp (kz k) n)/\(2*n+2<=k->oo (kz k) n):=by
 intro k;induction k with
 |zero=>omega
 |succ k a=>
  intro n ax;refine⟨λh=>⟨λe bd t pd tr b=>?_⟩,λh=>⟨λe c no aG bd r pd st b d=>?_⟩⟩
  ·exact alD (R:=kz k) (λm hm=>⟨(a m (by omega)).1 (by omega),(a m (by omega)).2 (by omega)⟩) ax bd b
  ·have f:decide (c= .text)=false:=e4 (by rintro rfl;cases aG);have:=aat (R:=kz k) (λj m hm=>⟨(a m (by omega)).1 (by omega),(a m (by omega)).2 (by omega)⟩) ((a n ax).1 (by omega)) ax bd (c:=c) (no:=no) (by grind[tw]) b d;rw[f] at this;exact this
theorem Tt(s:aa):du (dv s):=by
 unfold dv;split
 ·rename_i h;right;rcases List.eq_nil_or_concat s with rfl|⟨t,b,rfl⟩
  ·grind
  grind
 ·exact .inr ⟨s,rfl⟩
theorem I6(s:aa):dv s≠[]:=by
 unfold dv;split
 ·grind
 ·simp
theorem anN(s:aa)(a:s.length<=1000000)(b:Bool):(bif b then some s else(a8 (((s.length+([10]:aa).length:Nat):Int)<=9223372036854775807)<|some (s++([10]:aa))))=some (bif b then s else s++[10]):=by
 cases b with
 |true=>rfl
 |false=>exact(aS _ _).trans (YW s a)
theorem anO(s:aa)(a:s.length<=1000000):ED s=some (dv s):=by
 unfold ED;rw[anN s a];unfold dv;rcases List.eq_nil_or_concat s with rfl|⟨t,b,rfl⟩
 ·decide
 ·rw[List.concat_eq_append] at*;have hl:(t++[b]).length=t.length+1:=by simp
  have c:W (((t++[b]).length:Int)-1)=(t.length:Int):=by grind[dU]
  have d:at' (t++[b]) (t.length:Int)=b:=by simp[at']
  simp only[c,d,pD];rw[b8 (by omega)];simp
def e0(S:aa):cd:=⟨S,0⟩
theorem anP{s:aa}(d:(dv s).length<=1000000):bM true (e0 (dv s)) (dv s) (hO true 30 (dv s)) (λb=>b.2) (λa _ b=>b.1=(a:Int)) (sc.nE (dv s,0,0,([]:aq),0,0,[],([]:bs),false) ([]) ([]:bs) false):=by
 have hk:∃k,bC=k+1/\62<=k:=by
  refine⟨bC-1,?_,?_⟩
  ·rw[gg]
  simp[gg]
 obtain⟨k,hk,f⟩:=hk;have g:cB (e0 (dv s)) (dv s) []:=⟨d,Tt s,I6 s,fK,by simp[e0,ei,lB]⟩;have:=aat (R:=kz k) (n:=30) (e:=e0 (dv s)) (λj m hm=>⟨(Ts k m (by omega)).1 (by omega),(Ts k m (by omega)).2 (by omega)⟩) ((Ts k 30 (by omega)).1 (by omega)) (cX _) (show(0:Int)=30- ((30:Nat):Int) by decide) (c:= .text) (no:=true) rfl g (st:=(e0 (dv s)).st (dv s) [] false) ⟨false,rfl,λh=>absurd h (I6 s)⟩;have i:(e0 (dv s)).st (dv s) [] false=(dv s,0,0,([]:aq),0,0,[],([]:bs),false):=by show(dv s,ay (dv s) (dv s),(0:Int),([]:aq),(0:Int),(0:Int),([]:aa),([]:bs),false)=_;rw[Ii]
 rw[i] at this;have l:sc.nE (dv s,0,0,([]:aq),0,0,[],([]:bs),false) [] [] false=Ev (kz k) (dv s,0,0,([]:aq),0,0,[],([]:bs),false) [] [] false:=by unfold sc;rw[hk];rfl
 rw[l];exact this
theorem anQ{fr:Bool}{m:Nat}{u:aa}{k:Nat}{r:aa}{pd:aq}(hu:du u)(d:u≠[])(h:hO fr m u= .ok k r pd):r=[]/\pd=[]:=by
 have e:=ajb h;subst e;refine⟨rfl,?_⟩;unfold hO at h;rw[EN,uw] at h;obtain⟨b,r1,i,ad,f⟩:=b0 h;have a:=jv.1 ad;by_cases c:r1=[]
 ·subst c;rw[si] at a;obtain⟨j,_,_⟩:=Xp _ _ _ _ _ _ (cX _) hu d a;grind[cF,Rh,cN]
 ·have g:du r1:=hu.h4 (ar.lines.sfx a);exact(ai2 fr m .text true _ _ _ _ _ _ (cX _) g c f).1
noncomputable def M3(c:Int):ah->Option (ah×Int):=λx=>
 (bif(!(decide (x.2.2.2.2.1=2))) then some ((x.1,x.2.1,x.2.2.1,x.2.2.2.1,x.2.2.2.2.1,(x.1.length:Int),x.2.2.2.2.2.2.1,x.2.2.2.2.2.2.2.1,x.2.2.2.2.2.2.2.2),c) else some ((x.1,x.2.1,x.2.2.1,x.2.2.2.1,x.2.2.2.2.1,x.2.2.2.2.2.1,x.2.2.2.2.2.2.1,x.2.2.2.2.2.2.2.1,x.2.2.2.2.2.2.2.2),c))
noncomputable def FQ(c:Int):ah->Option (ah×Int):=λx=>
 (bif(decide (x.2.2.2.2.1=1)) then(av (vq x ([10]:aa)) λ(a:ah)=>M3 c a) else M3 c x)
theorem anR(s:aa):z_ s=(av (ED s) λ(a:aa)=>
 (av (sc.nE (a,0,0,([]:aq),0,0,[],([]:bs),false) ([]) ([]:bs) false) λy=>
 (bif(bif(decide (y.2.2.2.2.2.1=0)) then(bif y.2.2.2.2.2.2.2.2.2 then true else(decide (0<(y.2.2.2.2.1.length:Int)))) else false) then
 (av (g3 y.2 ([])) λ(b:ah)=>FQ y.1 b) else FQ y.1 y.2))):=rfl
theorem aau{e:cd}{r:aa}{nd:aa}{ds:aq}{st:ah}{c:Int}(o:e.S.length<=1000000)(hm:nX e r nd ds st):∃y,FQ c st=some y/\y.1.2.2.2.2.1=1/\y.1.2.2.2.2.2.2.1=(cO nd ds [10]).1/\y.1.2.2.2.2.2.1=(e.S.length:Int):=by obtain⟨a,b,i,d,uE,f,g,op,tr⟩:=st;obtain⟨ad,j,k,l,p⟩:=hm;have h:=l.nd;have m:=l.s;simp only at ad j k h m;subst ad j k m;have q:=tn d;have n:vq (e.S,b,i,d,1,f,g,op,tr) [10]=some (e.S,b,i,(cO g d [10]).2,1,f,(cO g d [10]).1,op,tr):=CB _ _ _ _ _ _ _ _ _ _ (by simp) (by grind) (by omega);unfold FQ;simp only[bx,aK];rw[n,aO rfl];exact⟨_,rfl,rfl,rfl,rfl⟩
theorem anS{s:aa}(f:(dv s).length<=1000000):match hO true 30 (dv s) with
  | .ok a _ _=>∃st,z_ s=some (st,(a:Int))/\st.2.2.2.2.1=0/\st.2.2.2.2.2.1=((dv s).length:Int)
  | .more _ nd ds=>∃st c,z_ s=some (st,c)/\st.2.2.2.2.1=1/\st.2.2.2.2.2.2.1=(cO nd ds [10]).1/\st.2.2.2.2.2.1=((dv s).length:Int)
  |_=>∃st c,z_ s=some (st,c)/\st.2.2.2.2.1=2:=by
 have hl:s.length<=(dv s).length:=by grind[dv]
 have h:=anP f;rw[anR,anO s (by omega),aO rfl];have g:=(tm true 30).ls .text true (dv s) [];obtain⟨b,p,h⟩:=h;obtain⟨c,st⟩:=b;rw[p,aO rfl];have t:(aZ true 30).ls .text true (dv s) []=hO true 30 (dv s):=rfl;rw[t] at g;cases aC:hO true 30 (dv s) with
 |ok a r pd=>rw[aC] at h;obtain⟨ad,C,⟨tr,i,u⟩,o⟩:=h;obtain⟨rfl,rfl⟩:=anQ (Tt s) (I6 s) aC;dsimp only at i o;have:=u rfl;subst this i o;exact⟨_,rfl,rfl,rfl⟩
 |more op nd ds=>
  rw[aC] at h g;simp only[dZ] at g;dsimp only at h⊢;have v:ei ([]:aq)=0:=rfl;rw[v] at g;rcases h with h|⟨_,rfl,i⟩
  ·have d:nX (e0 (dv s)) (dv s) nd ds st:=h;rw[d.1];simp only[show¬((1:Int)=0) by decide,bF,aS];obtain⟨y,j,k,l,m⟩:=aau (c:=c) (e:=e0 (dv s)) f d;exact⟨y.1,y.2,j,k,l,m⟩
  ·subst i;have w:((e0 (dv s)).tt ds).2.2.2.2.1=0:=rfl;have n:((e0 (dv s)).tt ds).2.2.2.2.2.2.2.2=true:=rfl;rw[w,n];simp only[bx,aK];have z:cB (e0 (dv s)) (dv s) []:=⟨f,Tt s,I6 s,fK,by simp[e0,ei,lB]⟩;obtain⟨D,A,B⟩:=FG (pd:=ds) (x:=[]) z (by show _<=100*(dv s).length+800;omega) (by simp);rw[A,aO rfl];obtain⟨y,j,k,l,m⟩:=aau (c:=c) (e:=e0 (dv s)) f B;exact⟨y.1,y.2,j,k,l,m⟩
 |bad q=>rw[aC] at h;have d:iL (e0 (dv s)) (dv s) st:=h;dsimp only;rw[d.1];simp only[show¬((2:Int)=0) by decide,bF,aS];unfold FQ;rw[d.1];simp only[show¬((2:Int)=1) by decide,bF,aS];unfold M3;rw[d.1];simp
 |deep q=>rw[aC] at h;have d:iL (e0 (dv s)) (dv s) st:=h;dsimp only;rw[d.1];simp only[show¬((2:Int)=0) by decide,bF,aS];unfold FQ;rw[d.1];simp only[show¬((2:Int)=1) by decide,bF,aS];unfold M3;rw[d.1];simp
abbrev fa:=aa×Int×Int
structure fm(x0:aa)(st:fa):Prop where
 c:st.1=x0
 lo:0<=st.2.1
 bg:st.2.1<=x0.length
 bY:x0.length<=1048576
theorem M4(a:Int):0<=W (((BitVec.ofInt (IntKind.bits .i64) a&&&BitVec.ofInt (IntKind.bits .i64) 255).toNat:Int))/\W (((BitVec.ofInt (IntKind.bits .i64) a&&&BitVec.ofInt (IntKind.bits .i64) 255).toNat:Int))<256:=by
 have h:(BitVec.ofInt (IntKind.bits .i64) a&&&BitVec.ofInt (IntKind.bits .i64) 255).toNat<256:=by grind[BitVec.ofInt,IntKind.bits,Nat.and_le_right]
 grind[dU]
theorem anU{x0:aa}{st:fa}(h:fm x0 st):∃v e,yq st=some (v,e)/\0<=v/\v<256/\fm x0 e:=by
 obtain⟨a,b,c⟩:=st;obtain⟨rfl,ad,f,d⟩:=h;simp only at ad f d;unfold yq a9;dsimp only;by_cases hl:b<(a.length:Int)
 ·rw[decide_eq_true hl];simp only[aK];rw[b8 ⟨ad,hl⟩];have g:W (b+1)=b+1:=dU (by omega) (by omega);rw[g];exact⟨_,_,rfl,(M4 _).1,(M4 _).2,rfl,by grind,by grind,d⟩
 ·rw[e4 hl];simp only[aS];exact⟨_,_,rfl,(M4 _).1,(M4 _).2,rfl,ad,f,d⟩
theorem yX{x0:aa}{st:fa}(h:fm x0 st){n:Int}(ad:1<=n)(f:n<=256):∃v d,k9 st n=some (v,d)/\0<=v/\v<n/\fm x0 d:=by unfold k9;obtain⟨v,d,g,i,j,e⟩:=anU h;rw[e4 (show¬n<=0 by omega),decide_eq_true f];simp only[aS,aK];rw[g,aO rfl];dsimp only;rw[b8 (show n≠0 by omega)];refine⟨_,_,rfl,Int.tmod_nonneg _ i,Int.tmod_lt_of_pos _ (by omega),?_⟩;obtain⟨a,b,c⟩:=d;exact⟨h.c,e.lo,e.bg,e.bY⟩
theorem anV(x0:aa)(e:x0.length<=1048576):∃st,Ez x0=some st/\fm x0 (x0,st.2.1,st.2.2):=by
 have hl:∀(N:Nat)(a b:Int),0<=b->b<=4000->(4000-b)<N->∃c,fixF (Lq x0 (λf=>some (x0,0,f))) N (a,b)=some (x0,0,c):=by
  intro N;induction N with
  |zero=>omega
  |succ N g=>
   intro a b h0 ad h;rw[eZ];unfold Lq;dsimp only;by_cases d:b<(x0.length:Int)/\b<4000
   ·rw[decide_eq_true d.1,decide_eq_true d.2];simp only[aK];rw[b8 ⟨h0,d.1⟩];have i:W (b+1)=b+1:=dU (by omega) (by omega);rw[i];exact g _ _ (by omega) (by omega) (by omega)
   ·have:(bif decide (b<(x0.length:Int)) then decide (b<4000) else false)=false:=by grind
    rw[this];simp
 unfold Ez a9;obtain⟨c,aG⟩:=hl bC (W (600128+(x0.length:Int))) 0 (by omega) (by omega) (by simp[gg]);exact⟨_,aG,rfl,uN 0,by simp,e⟩
def FR:bs:=[([97]:aa),([98,49]:aa),([120,61,49]:aa),([102,105,108,101]:aa),([195,169]:aa),([105,110]:aa),([97,35,98]:aa)]
def oV:bs:=[[39,113,32,114,39],[34,97,32,98,34],[97,92,32,98],[36,120],[36,40,40,49,43,40,50,41,41,41],[96,99,32,100,96],[45,108],[97,92,10,98]]++FR
def sz:bs:=[([108,115]:aa),([101,99,104,111]:aa),([99,97,116]:aa),([120,61,49]:aa)]
def jx:bs:=[([32,38,38,32]:aa),([32,124,124,32]:aa),([32,124,32]:aa),([59,32]:aa),([32,38,32]:aa),([10]:aa),([32,124,10]:aa),([59,32,35,32,114,10]:aa)]
def aav(L W:aa->Prop)(w:aa):Prop:=w∈oV\/(∃t,L t/\(w=[36,40]++t++[41]\/w=[34,120,36,40]++t++[41,34]))\/∃v,W v/\w=[36,123,120,58,45]++v++[125]
def jN(ws:bs):aa:=ws.flatMap (λw=>32::w)
def rB(W a:aa->Prop)(s:aa):Prop:=∃h ws r,h∈sz/\(∀w∈ws,W w)/\s=h++jN ws++r/\(r=[]\/r=[32,50,62,38,49]\/∃w,a w/\r=[32,62]++w)
def uL(L W:aa->Prop)(c:aa):Prop:=
 (∃t,L t/\c=[40]++t++[41])\/
 (∃t,L t/\c=[123,32]++(t++[10])++[125])\/
 (∃t u,L t/\L u/\c=[105,102,32]++(t++[59])++[32,116,104,101,110,32]++(u++[10])++[102,105])\/
 (∃t u,L t/\L u/\c=[105,102,32,97,59,32,116,104,101,110,10]++(t++[10])++[101,108,105,102,32,98,10,116,104,101,110,32,99,10,101,108,115,101,32]++(u++[59])++[102,105,32,50,62,102])\/
 (∃t u,L t/\L u/\c=[119,104,105,108,101,32]++(t++[10])++[100,111,32]++(u++[59])++[32,100,111,110,101])\/
 (∃w u,W w/\L u/\c=[102,111,114,32,120,32,105,110,32,97,32]++w++[59,32,100,111,32]++(u++[59])++[100,111,110,101])\/
 c=[102,111,114,32,120,10,100,111,32,97,10,100,111,110,101]\/
 (∃w u,W w/\L u/\c=[99,97,115,101,32]++w++[32,105,110,32,97,124,98,41,32]++(u++[])++[59,59,10,40,99,41,32,59,59,32,100,41,32,101,115,97,99])\/
 (∃t,L t/\c=[102,40,41,32,123,10]++(t++[10])++[125,32,62,102])
def cW(l:List (aa×aa)):aa:=l.flatMap (λp=>p.1++p.2)
def uM(C:aa->Prop)(t:aa):Prop:=∃c rest,C c/\(∀p∈rest,p.1∈jx/\C p.2)/\t=c++cW rest
def AG:Nat->(aa->Prop)×(aa->Prop)
 |0=>(λw=>w∈oV,uM (rB (λw=>w∈oV) (λw=>w∈oV)))
 |d+1=>(aav (AG d).2 (AG d).1,uM λc=>rB (aav (AG d).2 (AG d).1) (λw=>w∈oV) c\/uL (AG d).2 (AG d).1 c)
def hS(d:Nat):aa->Prop:=(AG d).1
def ih(d:Nat):aa->Prop:=(AG d).2
def yY:Nat->aa->Prop
 |0=>rB (hS 0) (hS 0)
 |d+1=>λc=>rB (hS (d+1)) (hS 0) c\/uL (ih d) (hS d) c
theorem M5(d:Nat):ih d=uM (yY d):=by cases d<;>rfl
theorem aaw{d:Nat}{w:aa}(h:w∈oV):hS d w:=by
 cases d with
 |zero=>exact h
 |succ d=>exact .inl h
def lens:Nat->Nat×Nat
 |0=>(10,200)
 |d+1=>let w:=(lens d).2+(lens d).1+10;(w,3*(2*(lens d).2+(lens d).1+2*w+80)+20)
def lw(d:Nat):Nat:=(lens d).1
def oW(d:Nat):Nat:=(lens d).2
def lc:Nat->Nat
 |0=>60
 |d+1=>2*oW d+lw d+2*lw (d+1)+80
theorem Tu(d:Nat):lw (d+1)=oW d+lw d+10:=rfl
theorem anW(d:Nat):oW d=3*lc d+20:=by cases d<;>rfl
theorem qm{d:Nat}(h:d<=3):lw d<=40000/\oW d<=460000/\lc d<=160000/\10<=lw d:=by
 match d,h with
 |0,_=>decide
 |1,_=>decide
 |2,_=>decide
 |3,_=>decide
def oX(R:bh)(d:Nat):Prop:=∀(x0:aa)(st:fa),fm x0 st->∃t a,R.nF st (d:Int)=some (t,a)/\hS d t/\t.length<=lw d/\fm x0 a
def CU(R:bh)(d:Nat):Prop:=∀(x0:aa)(st:fa)(sfx:aa),sfx.length<=1->fm x0 st->∃t a,R.hc st (d:Int) sfx=some (t++sfx,a)/\ih d t/\t.length<=oW d/\fm x0 a
theorem kc{n:Nat}(h:n<=100000000):((n:Nat):Int)<=9223372036854775807:=by omega
theorem vV{d:Nat}(h:d<=3):W (((d+1:Nat):Int)-1)=(d:Int):=by grind[dU]
theorem at_mem{l:bs}{v:Int}(h0:0<=v)(ad:v<(l.length:Int)):at' l v∈l:=by grind[at']
theorem aax:∀w∈oV,w.length<=10:=by decide
theorem fm.st{x0:aa}{st:fa}(h:fm x0 st):(x0,st.2.1,st.2.2)=st:=by rw[<-h.c]
noncomputable def M6(R:bh)(b:Int)(st:fa)(a:Int):Option (aa×fa):=
 (bif(decide (a=1)) then some (([39,113,32,114,39]:aa),st) else(bif(decide (a=2)) then some (([34,97,32,98,34]:aa),st) else(bif(decide (a=3)) then some (([97,92,32,98]:aa),st) else(bif(decide (a=4)) then some (([36,120]:aa),st) else(bif(decide (a=5)) then some (([36,40,40,49,43,40,50,41,41,41]:aa),st) else(bif(decide (a=6)) then some (([96,99,32,100,96]:aa),st) else(bif(decide (a=7)) then some (([45,108]:aa),st) else(bif(decide (a=8)) then(av (R.hc st (W (b-1)) ([])) λ(c,g)=>(a8 (((([36,40]:aa).length+c.length:Nat):Int)<=9223372036854775807)<|(a8 ((((([36,40]:aa)++c).length+([41]:aa).length:Nat):Int)<=9223372036854775807)<|some (((([36,40]:aa)++c)++([41]:aa)),(st.1,g.2.1,g.2.2))))) else(bif(decide (a=9)) then(av (R.hc st (W (b-1)) ([])) λ(d,h)=>(a8 (((([34,120,36,40]:aa).length+d.length:Nat):Int)<=9223372036854775807)<|(a8 ((((([34,120,36,40]:aa)++d).length+([41,34]:aa).length:Nat):Int)<=9223372036854775807)<|some (((([34,120,36,40]:aa)++d)++([41,34]:aa)),(st.1,h.2.1,h.2.2))))) else(bif(decide (a=10)) then(av (R.nF st (W (b-1))) λ(e,i)=>(a8 (((([36,123,120,58,45]:aa).length+e.length:Nat):Int)<=9223372036854775807)<|(a8 ((((([36,123,120,58,45]:aa)++e).length+([125]:aa).length:Nat):Int)<=9223372036854775807)<|some (((([36,123,120,58,45]:aa)++e)++([125]:aa)),(st.1,i.2.1,i.2.2))))) else(bif(decide (a=11)) then some (([97,92,10,98]:aa),st) else(av (k9 st 7) λ(f,j)=>(a8 (0<=f/\f<(([([97]:aa),([98,49]:aa),([120,61,49]:aa),([102,105,108,101]:aa),([195,169]:aa),([105,110]:aa),([97,35,98]:aa)]:bs).length:Int))<|some ((at' ([([97]:aa),([98,49]:aa),([120,61,49]:aa),([102,105,108,101]:aa),([195,169]:aa),([105,110]:aa),([97,35,98]:aa)]:bs) f),(st.1,j.2.1,j.2.2)))))))))))))))
theorem anX(R:bh)(x0:fa)(a:Int):H2 R x0 a=av (k9 x0 14) λz=>(bif(bif(decide (a<=0)) then(decide (8<=z.1)) else false) then M6 R a (x0.1,z.2.2.1,z.2.2.2) 0 else M6 R a (x0.1,z.2.2.1,z.2.2.2) z.1):=rfl
theorem anY{R:bh}{d:Nat}(aH:d<=3)(bk:∀a,d=a+1->CU R a/\oX R a){x0:aa}{st:fa}(h:fm x0 st){y:Int}(H:d=0->y<8):∃t c,M6 R (d:Int) st y=some (t,c)/\hS d t/\t.length<=lw d/\fm x0 c:=by
 obtain⟨I,J,K,F⟩:=qm aH
 have e:∀{w:aa},w∈oV->∃t c,(some (w,st):Option (aa×fa))=some (t,c)/\hS d t/\t.length<=lw d/\fm x0 c:=λ{w} G=>⟨w,st,rfl,aaw G,by grind[aax],h⟩
 unfold M6;by_cases f:y=1
 ·simp only[f,bx,aK];exact e (by decide)
 by_cases i:y=2
 ·rw[e4 f];simp only[i,bx,aK,aS];exact e (by decide)
 by_cases k:y=3
 ·rw[e4 f,e4 i];simp only[k,bx,aK,aS];exact e (by decide)
 by_cases m:y=4
 ·rw[e4 f,e4 i,e4 k];simp only[m,bx,aK,aS];exact e (by decide)
 by_cases s:y=5
 ·rw[e4 f,e4 i,e4 k,e4 m];simp only[s,bx,aK,aS];exact e (by decide)
 by_cases z:y=6
 ·rw[e4 f,e4 i,e4 k,e4 m,e4 s];simp only[z,bx,aK,aS];exact e (by decide)
 by_cases B:y=7
 ·rw[e4 f,e4 i,e4 k,e4 m,e4 s,e4 z];simp only[B,bx,aK,aS];exact e (by decide)
 rw[e4 f,e4 i,e4 k,e4 m,e4 s,e4 z,e4 B];simp only[aS];by_cases o:y=8
 ·obtain⟨a,rfl⟩:∃a,d=a+1:=⟨d-1,by omega⟩
  obtain⟨t,c,j,g,u,b⟩:=(bk a rfl).1 x0 st [] (by simp) h;obtain⟨C,p,q,r⟩:=qm (d:=a) (by omega);simp only[o,bx,aK];rw[vV (by omega),j,aO rfl];dsimp only;rw[rE,b8 (kc (by grind)),b8 (kc (by grind)),h.c,b.st];refine⟨_,_,rfl,.inr (.inl ⟨t,g,.inl rfl⟩),?_,b⟩;grind[Tu]
 by_cases x:y=9
 ·obtain⟨a,rfl⟩:∃a,d=a+1:=⟨d-1,by omega⟩
  obtain⟨t,c,j,g,u,b⟩:=(bk a rfl).1 x0 st [] (by simp) h;obtain⟨C,p,q,r⟩:=qm (d:=a) (by omega);rw[e4 o];simp only[x,bx,aK,aS];rw[vV (by omega),j,aO rfl];dsimp only;rw[rE,b8 (kc (by grind)),b8 (kc (by grind)),h.c,b.st];refine⟨_,_,rfl,.inr (.inl ⟨t,g,.inr rfl⟩),?_,b⟩;grind[Tu]
 by_cases A:y=10
 ·obtain⟨a,rfl⟩:∃a,d=a+1:=⟨d-1,by omega⟩
  obtain⟨t,c,j,g,u,b⟩:=(bk a rfl).2 x0 st h;obtain⟨C,p,q,r⟩:=qm (d:=a) (by omega);rw[e4 o,e4 x];simp only[A,bx,aK,aS];rw[vV (by omega),j,aO rfl];dsimp only;rw[b8 (kc (by grind)),b8 (kc (by grind)),h.c,b.st];refine⟨_,_,rfl,.inr (.inr ⟨t,g,rfl⟩),?_,b⟩;grind[Tu]
 by_cases D:y=11
 ·rw[e4 o,e4 x,e4 A];simp only[D,bx,aK,aS];exact e (by decide)
 rw[e4 o,e4 x,e4 A,e4 D];simp only[aS];obtain⟨v,c,j,g,u,b⟩:=yX h (n:=7) (by decide) (by decide);rw[j,aO rfl];dsimp only;have hm:=at_mem (l:=FR) g (by show v<((7:Nat):Int);omega);rw[b8 ⟨g,u⟩,h.c,b.st];have E:at' FR v∈oV:=xx _ hm;exact⟨_,_,rfl,aaw E,by have:=aax _ E;exact lF this F,b⟩
theorem anZ{P:aa->Prop}{J:fa->Int->Option (aa×fa)}{d:Nat}{x0:aa}{st:fa}(h:fm x0 st)(c:∀st y,fm x0 st->(d=0->y<8)->∃t a,J st y=some (t,a)/\P t/\fm x0 a):∃t a,(av (k9 st 14) λz=>(bif(bif(decide ((d:Int)<=0)) then(decide (8<=z.1)) else false) then J (st.1,z.2.2.1,z.2.2.2) 0 else J (st.1,z.2.2.1,z.2.2.2) z.1))=some (t,a)/\P t/\fm x0 a:=by
 obtain⟨y,e,b,f,g,ad⟩:=yX h (n:=14) (by decide) (by decide);rw[b,aO rfl];dsimp only;rw[h.c,ad.st];cases i:(bif(decide ((d:Int)<=0)) then(decide (8<=y)) else false) with
 |true=>simp_all
 |false=>simp_all
theorem an0{R:bh}{d:Nat}(aH:d<=3)(bk:∀a,d=a+1->CU R a/\oX R a){x0:aa}{st:fa}(h:fm x0 st):∃t b,H2 R st (d:Int)=some (t,b)/\(hS d t/\t.length<=lw d)/\fm x0 b:=by
 rw[anX]
 exact anZ h (λst y ad c=>by obtain⟨t,b,e,a2,a3,f⟩:=anY aH bk ad c;grind)
theorem aaB(R:bh)(x:fa)(d:Int)(j:aa×Int×Int->Option (aa×fa))(k:aa×Int×Int×Int->Option (aa×fa))(s:aa)(c a b:Int):B7 R x d j k (s,c,a,b)=bif(decide (0<c)) then
 (a8 (((s.length+([32]:aa).length:Nat):Int)<=9223372036854775807)<|(av (R.nF (x.1,a,b) d) λv=>(a8 ((((s++([32]:aa)).length+v.1.length:Nat):Int)<=9223372036854775807)<|k (((s++([32]:aa))++v.1),(W (c-1)),v.2.2.1,v.2.2.2)))) else j (s,a,b):=rfl
theorem xq(a b:aa)(c:a.length<=1000000)(d:b.length<=1000000):((a.length+b.length:Nat):Int)<=9223372036854775807:=kc (by omega)
theorem an1{R:bh}{x:fa}{d:Int}{j:aa×Int×Int->Option (aa×fa)}{k:aa×Int×Int×Int->Option (aa×fa)}{s:aa}{c:Nat}{x0:aa}{st a:fa}{t:aa}(aG:c<=10)(b:x.1=x0)(h:fm x0 st)(e:R.nF st d=some (t,a))(i:s.length<=900000)(f:t.length<=1000000):
  B7 R x d j k (s,((c+1:Nat):Int),st.2.1,st.2.2)=k (s++[32]++t,(c:Int),a.2.1,a.2.2):=by
 rw[aaB,decide_eq_true (show(0:Int)<((c+1:Nat):Int) by omega),aK,b8 (xq s [32] (by omega) (by decide)),b,h.st,e,aO rfl,b8 (xq (s++[32]) t (by grind) f)];have g:W (((c+1:Nat):Int)-1)=(c:Int):=by grind[dU]
 rw[g]
theorem an2{R:bh}{d:Nat}(aH:d<=3)(hW:oX R d){x0:aa}{x:fa}(f:x.1=x0){j:aa×Int×Int->Option (aa×fa)}:∀(N c:Nat)(s:aa)(st:fa),c<N->c<=2->s.length<=100+(2-c) *40001->fm x0 st->
  ∃ws a,fixF (B7 R x (d:Int) j) N (s,(c:Int),st.2.1,st.2.2)=j (s++jN ws,a.2.1,a.2.2)/\(∀w∈ws,hS d w)/\(jN ws).length<=c*(lw d+1)/\fm x0 a:=by
 obtain⟨o,_,_,_⟩:=qm aH;intro N;induction N with
 |zero=>omega
 |succ N e=>
  intro c s st aG p q h;rw[eZ];generalize fixF (B7 R x (d:Int) j) N=k at e⊢;cases c with
  |zero=>rw[aaB];refine⟨[],st,?_,by simp,by simp[jN],h⟩;simp[jN]
  |succ c=>
   obtain⟨t,g,i,r,u,l⟩:=hW x0 st h;have b:(s++[32]++t).length<=100+(2-c) *40001:=by grind
   rw[an1 (by omega) f h i (by omega) (by omega)];obtain⟨ws,a,m,a2,a3,n⟩:=e c (s++[32]++t) g (by omega) (by omega) b l;rw[m];refine⟨t::ws,a,?_,?_,?_,n⟩
   ·simp[jN]
   ·grind
   ·simp only[jN,List.flatMap_cons,C2,mi] at a3⊢;grind
noncomputable def AH(c:aa)(n:Int)(s:aa)(st:fa):Option (aa×fa):=
 bif(decide (n=1)) then
 (a8 (((s.length+([32,50,62,38,49]:aa).length:Nat):Int)<=9223372036854775807)<|some ((s++([32,50,62,38,49]:aa)),(c,st.2.1,st.2.2)))
 else some (s,(c,st.2.1,st.2.2))
noncomputable def CV(R:bh)(c:aa)(s:aa)(st:fa):Option (aa×fa):=
 av (k9 (c,st.2.1,st.2.2) 8) λz=>
 bif(decide (z.1=0)) then
 (a8 (((s.length+([32,62]:aa).length:Nat):Int)<=9223372036854775807)<|(av (R.nF (c,z.2.2.1,z.2.2.2) 0) λv=>(a8 ((((s++([32,62]:aa)).length+v.1.length:Nat):Int)<=9223372036854775807)<|AH c z.1 ((s++([32,62]:aa))++v.1) v.2)))
 else AH c z.1 s z.2
theorem an3(R:bh)(x0:fa)(a:Int):B8 R x0 a=(av (k9 x0 4) λz=>
 (a8 (0<=z.1/\z.1<((sz).length:Int))<|
 (av (k9 (x0.1,z.2.2.1,z.2.2.2) 3) λv=>
 (fixF (B7 R x0 a (λy=>CV R x0.1 y.1 (x0.1,y.2.1,y.2.2))) bC ((at' sz z.1),v.1,v.2.2.1,v.2.2.2))))):=rfl
theorem an4{c:aa}{s:aa}{st:fa}(a:s.length<=1000000):AH c 1 s st=some (s++[32,50,62,38,49],(c,st.2.1,st.2.2)):=by unfold AH;rw[decide_eq_true rfl,aK,b8 (xq s [32,50,62,38,49] a (by decide))]
theorem aaC{c:aa}{s:aa}{st:fa}{n:Int}(ax:¬n=1):AH c n s st=some (s,(c,st.2.1,st.2.2)):=by simp_all[AH]
theorem an5{R:bh}{x0:aa}{s t:aa}{st a b:fa}(h:fm x0 st)(ad:fm x0 a)(c:k9 st 8=some (0,a))(d:R.nF a 0=some (t,b))(f:s.length<=900000)(e:t.length<=1000000):CV R x0 s st=AH x0 0 (s++[32,62]++t) b:=by unfold CV;rw[h.st,c,aO rfl];show(bif decide ((0:Int)=0) then _ else _)=_;rw[decide_eq_true rfl,aK,b8 (xq s [32,62] (by omega) (by decide))];show av (R.nF (x0,a.2.1,a.2.2) 0) _=_;rw[ad.st,d,aO rfl,b8 (xq (s++[32,62]) t (by grind) e)]
theorem an6{R:bh}{x0:aa}{s:aa}{st a:fa}{v:Int}(h:fm x0 st)(b:k9 st 8=some (v,a))(c:¬v=0):CV R x0 s st=AH x0 v s a:=by unfold CV;rw[h.st,b,aO rfl];grind
theorem an7{R:bh}{x0:aa}(e:oX R 0){s:aa}(f:s.length<=900000){st:fa}(h:fm x0 st):∃r b,CV R x0 s st=some (s++r,b)/\(r=[]\/r=[32,50,62,38,49]\/∃w,hS 0 w/\r=[32,62]++w)/\r.length<=12/\fm x0 b:=by
 obtain⟨v,c,d,k,l,a⟩:=yX h (n:=8) (by decide) (by decide);by_cases h0:v=0
 ·subst h0;obtain⟨t,m,g,o,i,j⟩:=e x0 c a;have p:t.length<=10:=i;rw[an5 h a d g f (by omega),aaC (by decide),j.st];grind
 ·rw[an6 h d h0];by_cases ad:v=1
  ·subst ad;rw[an4 (by omega),a.st];grind
  ·rw[aaC ad,a.st];exact⟨[],c,by simp,.inl rfl,by simp,a⟩
theorem an8:∀h∈sz,h.length<=4:=by decide
theorem an9{R:bh}{d:Nat}(aH:d<=3)(hW:oX R d)(i:oX R 0){x0:aa}{st:fa}(h:fm x0 st):∃t a,B8 R st (d:Int)=some (t,a)/\rB (hS d) (hS 0) t/\t.length<=2*lw d+20/\fm x0 a:=by
 obtain⟨C,_,_,_⟩:=qm aH;obtain⟨v,D,m,b,e,f⟩:=yX h (n:=4) (by decide) (by decide);rw[an3,m,aO rfl];dsimp only;rw[b8 ⟨b,e⟩,h.c,f.st];obtain⟨c,o,p,E,F,q⟩:=yX f (n:=3) (by decide) (by decide);rw[p,aO rfl];dsimp only;have hm:=at_mem (l:=sz) b e;have G:=an8 _ hm
 obtain⟨k,rfl⟩:∃k:Nat,c=(k:Int):=⟨c.toNat,by omega⟩
 obtain⟨ws,H,u,a2,a3,g⟩:=an2 aH hW (x:=st) h.c (j:=λy=>CV R x0 y.1 (x0,y.2.1,y.2.2)) bC k (at' sz v) o (by grind[gg]) (by omega) (by omega) q;rw[u];dsimp only;have hk:k*(lw d+1)<=2*(lw d+1):=sH _ (by omega);rw[g.st];obtain⟨r,w,z,A,I,B⟩:=an7 i (s:=at' sz v++jN ws) (by grind) g;rw[z];exact⟨_,_,rfl,⟨_,ws,r,hm,a2,rfl,A⟩,by grind,B⟩
noncomputable def mH(R:bh)(a:Int)(st:fa)(b:Int):Option (aa×fa):=
 (bif(decide (b=1)) then(av (R.hc st (W (a-1)) ([])) λ(h,p)=>(a8 (((([40]:aa).length+h.length:Nat):Int)<=9223372036854775807)<|(a8 ((((([40]:aa)++h).length+([41]:aa).length:Nat):Int)<=9223372036854775807)<|some (((([40]:aa)++h)++([41]:aa)),(st.1,p.2.1,p.2.2))))) else(bif(decide (b=2)) then(av (R.hc st (W (a-1)) ([10]:aa)) λ(i,q)=>(a8 (((([123,32]:aa).length+i.length:Nat):Int)<=9223372036854775807)<|(a8 ((((([123,32]:aa)++i).length+([125]:aa).length:Nat):Int)<=9223372036854775807)<|some (((([123,32]:aa)++i)++([125]:aa)),(st.1,q.2.1,q.2.2))))) else(bif(decide (b=3)) then(av (R.hc st (W (a-1)) ([59]:aa)) λ(c,r)=>(a8 (((([105,102,32]:aa).length+c.length:Nat):Int)<=9223372036854775807)<|(a8 ((((([105,102,32]:aa)++c).length+([32,116,104,101,110,32]:aa).length:Nat):Int)<=9223372036854775807)<|(av (R.hc (st.1,r.2.1,r.2.2) (W (a-1)) ([10]:aa)) λ(j,s)=>(a8 (((((([105,102,32]:aa)++c)++([32,116,104,101,110,32]:aa)).length+j.length:Nat):Int)<=9223372036854775807)<|(a8 ((((((([105,102,32]:aa)++c)++([32,116,104,101,110,32]:aa))++j).length+([102,105]:aa).length:Nat):Int)<=9223372036854775807)<|some (((((([105,102,32]:aa)++c)++([32,116,104,101,110,32]:aa))++j)++([102,105]:aa)),(st.1,s.2.1,s.2.2)))))))) else(bif(decide (b=4)) then(av (R.hc st (W (a-1)) ([10]:aa)) λ(d,t)=>(a8 (((([105,102,32,97,59,32,116,104,101,110,10]:aa).length+d.length:Nat):Int)<=9223372036854775807)<|(a8 ((((([105,102,32,97,59,32,116,104,101,110,10]:aa)++d).length+([101,108,105,102,32,98,10,116,104,101,110,32,99,10,101,108,115,101,32]:aa).length:Nat):Int)<=9223372036854775807)<|(av (R.hc (st.1,t.2.1,t.2.2) (W (a-1)) ([59]:aa)) λ(k,u)=>(a8 (((((([105,102,32,97,59,32,116,104,101,110,10]:aa)++d)++([101,108,105,102,32,98,10,116,104,101,110,32,99,10,101,108,115,101,32]:aa)).length+k.length:Nat):Int)<=9223372036854775807)<|(a8 ((((((([105,102,32,97,59,32,116,104,101,110,10]:aa)++d)++([101,108,105,102,32,98,10,116,104,101,110,32,99,10,101,108,115,101,32]:aa))++k).length+([102,105,32,50,62,102]:aa).length:Nat):Int)<=9223372036854775807)<|some (((((([105,102,32,97,59,32,116,104,101,110,10]:aa)++d)++([101,108,105,102,32,98,10,116,104,101,110,32,99,10,101,108,115,101,32]:aa))++k)++([102,105,32,50,62,102]:aa)),(st.1,u.2.1,u.2.2)))))))) else(bif(decide (b=5)) then(av (R.hc st (W (a-1)) ([10]:aa)) λ(e,v)=>(a8 (((([119,104,105,108,101,32]:aa).length+e.length:Nat):Int)<=9223372036854775807)<|(a8 ((((([119,104,105,108,101,32]:aa)++e).length+([100,111,32]:aa).length:Nat):Int)<=9223372036854775807)<|(av (R.hc (st.1,v.2.1,v.2.2) (W (a-1)) ([59]:aa)) λ(l,w)=>(a8 (((((([119,104,105,108,101,32]:aa)++e)++([100,111,32]:aa)).length+l.length:Nat):Int)<=9223372036854775807)<|(a8 ((((((([119,104,105,108,101,32]:aa)++e)++([100,111,32]:aa))++l).length+([32,100,111,110,101]:aa).length:Nat):Int)<=9223372036854775807)<|some (((((([119,104,105,108,101,32]:aa)++e)++([100,111,32]:aa))++l)++([32,100,111,110,101]:aa)),(st.1,w.2.1,w.2.2)))))))) else(bif(decide (b=6)) then(av (R.nF st (W (a-1))) λ(f,x)=>(a8 (((([102,111,114,32,120,32,105,110,32,97,32]:aa).length+f.length:Nat):Int)<=9223372036854775807)<|(a8 ((((([102,111,114,32,120,32,105,110,32,97,32]:aa)++f).length+([59,32,100,111,32]:aa).length:Nat):Int)<=9223372036854775807)<|(av (R.hc (st.1,x.2.1,x.2.2) (W (a-1)) ([59]:aa)) λ(m,y)=>(a8 (((((([102,111,114,32,120,32,105,110,32,97,32]:aa)++f)++([59,32,100,111,32]:aa)).length+m.length:Nat):Int)<=9223372036854775807)<|(a8 ((((((([102,111,114,32,120,32,105,110,32,97,32]:aa)++f)++([59,32,100,111,32]:aa))++m).length+([100,111,110,101]:aa).length:Nat):Int)<=9223372036854775807)<|some (((((([102,111,114,32,120,32,105,110,32,97,32]:aa)++f)++([59,32,100,111,32]:aa))++m)++([100,111,110,101]:aa)),(st.1,y.2.1,y.2.2)))))))) else(bif(decide (b=7)) then some (([102,111,114,32,120,10,100,111,32,97,10,100,111,110,101]:aa),st) else(bif(decide (b=8)) then(av (R.nF st (W (a-1))) λ(g,z)=>(a8 (((([99,97,115,101,32]:aa).length+g.length:Nat):Int)<=9223372036854775807)<|(a8 ((((([99,97,115,101,32]:aa)++g).length+([32,105,110,32,97,124,98,41,32]:aa).length:Nat):Int)<=9223372036854775807)<|(av (R.hc (st.1,z.2.1,z.2.2) (W (a-1)) ([])) λ(n,A)=>(a8 (((((([99,97,115,101,32]:aa)++g)++([32,105,110,32,97,124,98,41,32]:aa)).length+n.length:Nat):Int)<=9223372036854775807)<|(a8 ((((((([99,97,115,101,32]:aa)++g)++([32,105,110,32,97,124,98,41,32]:aa))++n).length+([59,59,10,40,99,41,32,59,59,32,100,41,32,101,115,97,99]:aa).length:Nat):Int)<=9223372036854775807)<|some (((((([99,97,115,101,32]:aa)++g)++([32,105,110,32,97,124,98,41,32]:aa))++n)++([59,59,10,40,99,41,32,59,59,32,100,41,32,101,115,97,99]:aa)),(st.1,A.2.1,A.2.2)))))))) else(bif(decide (b=9)) then(av (R.hc st (W (a-1)) ([10]:aa)) λ(o,B)=>(a8 (((([102,40,41,32,123,10]:aa).length+o.length:Nat):Int)<=9223372036854775807)<|(a8 ((((([102,40,41,32,123,10]:aa)++o).length+([125,32,62,102]:aa).length:Nat):Int)<=9223372036854775807)<|some (((([102,40,41,32,123,10]:aa)++o)++([125,32,62,102]:aa)),(st.1,B.2.1,B.2.2))))) else(av (B8 R st a) λ(D,C)=>some (D,(st.1,C.2.1,C.2.2))))))))))))
theorem an_(R:bh)(x0:fa)(a:Int):vv R x0 a=av (k9 x0 16) λz=>(bif(decide (a<=0)) then mH R a (x0.1,z.2.2.1,z.2.2.2) 0 else mH R a (x0.1,z.2.2.1,z.2.2.2) z.1):=rfl
section
variable{R:bh}{d:Nat}(aH:d+1<=3)(bk:CU R d)(hW:oX R d){x0:aa}{st:fa}(h:fm x0 st)
include aH bk hW h
theorem aoa:∃t a,mH R ((d+1:Nat):Int) st 1=some (t,a)/\uL (ih d) (hS d) t/\t.length<=2*oW d+lw d+80/\fm x0 a:=by obtain⟨g,i,j,k⟩:=qm (d:=d) (by omega);have b:=vV (d:=d) (by omega);obtain⟨c,s1,e,f,l,r1⟩:=bk x0 st [] (by decide) h;unfold mH;rw[show decide ((1:Int)=1)=true from rfl,aK,b,e,aO rfl];dsimp only;rw[b8 (kc (by grind)),b8 (kc (by grind)),h.c,r1.st];refine⟨_,_,rfl,.inl ⟨c,f,by simp⟩,by grind,r1⟩
theorem aob:∃t a,mH R ((d+1:Nat):Int) st 2=some (t,a)/\uL (ih d) (hS d) t/\t.length<=2*oW d+lw d+80/\fm x0 a:=by obtain⟨g,i,j,k⟩:=qm (d:=d) (by omega);have b:=vV (d:=d) (by omega);obtain⟨c,s1,e,f,l,r1⟩:=bk x0 st [10] (by decide) h;unfold mH;rw[show decide ((2:Int)=1)=false from rfl,aS];rw[show decide ((2:Int)=2)=true from rfl,aK,b,e,aO rfl];dsimp only;rw[b8 (kc (by grind)),b8 (kc (by grind)),h.c,r1.st];refine⟨_,_,rfl,.inr (.inl ⟨c,f,rfl⟩),by grind,r1⟩
theorem aoc:∃t a,mH R ((d+1:Nat):Int) st 3=some (t,a)/\uL (ih d) (hS d) t/\t.length<=2*oW d+lw d+80/\fm x0 a:=by obtain⟨l,m,n,o⟩:=qm (d:=d) (by omega);have c:=vV (d:=d) (by omega);obtain⟨e,s1,f,g,p,r1⟩:=bk x0 st [59] (by decide) h;obtain⟨i,s2,j,k,q,b⟩:=bk x0 s1 [10] (by decide) r1;unfold mH;rw[show decide ((3:Int)=1)=false from rfl,aS];rw[show decide ((3:Int)=2)=false from rfl,aS];rw[show decide ((3:Int)=3)=true from rfl,aK,c,f,aO rfl];dsimp only;rw[b8 (kc (by grind)),b8 (kc (by grind)),h.c,r1.st];rw[j,aO rfl];dsimp only;rw[b8 (kc (by grind)),b8 (kc (by grind)),b.st];refine⟨_,_,rfl,.inr (.inr (.inl ⟨e,i,g,k,rfl⟩)),by grind,b⟩
theorem aod:∃t a,mH R ((d+1:Nat):Int) st 4=some (t,a)/\uL (ih d) (hS d) t/\t.length<=2*oW d+lw d+80/\fm x0 a:=by obtain⟨l,m,n,o⟩:=qm (d:=d) (by omega);have c:=vV (d:=d) (by omega);obtain⟨e,s1,f,g,p,r1⟩:=bk x0 st [10] (by decide) h;obtain⟨i,s2,j,k,q,b⟩:=bk x0 s1 [59] (by decide) r1;unfold mH;rw[show decide ((4:Int)=1)=false from rfl,aS];rw[show decide ((4:Int)=2)=false from rfl,aS];rw[show decide ((4:Int)=3)=false from rfl,aS];rw[show decide ((4:Int)=4)=true from rfl,aK,c,f,aO rfl];dsimp only;rw[b8 (kc (by grind[List.length_cons])),b8 (kc (by grind[List.length_cons])),h.c,r1.st];rw[j,aO rfl];dsimp only;rw[b8 (kc (by grind[List.length_cons])),b8 (kc (by grind[List.length_cons])),b.st];refine⟨_,_,rfl,.inr (.inr (.inr (.inl ⟨e,i,g,k,rfl⟩))),by grind[List.length_cons],b⟩
theorem aoe:∃t a,mH R ((d+1:Nat):Int) st 5=some (t,a)/\uL (ih d) (hS d) t/\t.length<=2*oW d+lw d+80/\fm x0 a:=by obtain⟨l,m,n,o⟩:=qm (d:=d) (by omega);have c:=vV (d:=d) (by omega);obtain⟨e,s1,f,g,p,r1⟩:=bk x0 st [10] (by decide) h;obtain⟨i,s2,j,k,q,b⟩:=bk x0 s1 [59] (by decide) r1;unfold mH;rw[show decide ((5:Int)=1)=false from rfl,aS];rw[show decide ((5:Int)=2)=false from rfl,aS];rw[show decide ((5:Int)=3)=false from rfl,aS];rw[show decide ((5:Int)=4)=false from rfl,aS];rw[show decide ((5:Int)=5)=true from rfl,aK,c,f,aO rfl];dsimp only;rw[b8 (kc (by grind)),b8 (kc (by grind)),h.c,r1.st];rw[j,aO rfl];dsimp only;rw[b8 (kc (by grind)),b8 (kc (by grind)),b.st];refine⟨_,_,rfl,.inr (.inr (.inr (.inr (.inl ⟨e,i,g,k,rfl⟩)))),by grind,b⟩
theorem aof:∃t a,mH R ((d+1:Nat):Int) st 6=some (t,a)/\uL (ih d) (hS d) t/\t.length<=2*oW d+lw d+80/\fm x0 a:=by obtain⟨l,m,n,o⟩:=qm (d:=d) (by omega);have c:=vV (d:=d) (by omega);obtain⟨e,s1,f,g,p,r1⟩:=hW x0 st h;obtain⟨i,s2,j,k,q,b⟩:=bk x0 s1 [59] (by decide) r1;unfold mH;rw[show decide ((6:Int)=1)=false from rfl,aS];rw[show decide ((6:Int)=2)=false from rfl,aS];rw[show decide ((6:Int)=3)=false from rfl,aS];rw[show decide ((6:Int)=4)=false from rfl,aS];rw[show decide ((6:Int)=5)=false from rfl,aS];rw[show decide ((6:Int)=6)=true from rfl,aK,c,f,aO rfl];dsimp only;rw[b8 (kc (by grind[List.length_cons])),b8 (kc (by grind[List.length_cons])),h.c,r1.st];rw[j,aO rfl];dsimp only;rw[b8 (kc (by grind[List.length_cons])),b8 (kc (by grind[List.length_cons])),b.st];refine⟨_,_,rfl,.inr (.inr (.inr (.inr (.inr (.inl ⟨e,i,g,k,rfl⟩))))),by grind[List.length_cons],b⟩
theorem aog:∃t a,mH R ((d+1:Nat):Int) st 8=some (t,a)/\uL (ih d) (hS d) t/\t.length<=2*oW d+lw d+80/\fm x0 a:=by obtain⟨l,m,n,o⟩:=qm (d:=d) (by omega);have c:=vV (d:=d) (by omega);obtain⟨e,s1,f,g,p,r1⟩:=hW x0 st h;obtain⟨i,s2,j,k,q,b⟩:=bk x0 s1 [] (by decide) r1;unfold mH;rw[show decide ((8:Int)=1)=false from rfl,aS];rw[show decide ((8:Int)=2)=false from rfl,aS];rw[show decide ((8:Int)=3)=false from rfl,aS];rw[show decide ((8:Int)=4)=false from rfl,aS];rw[show decide ((8:Int)=5)=false from rfl,aS];rw[show decide ((8:Int)=6)=false from rfl,aS];rw[show decide ((8:Int)=7)=false from rfl,aS];rw[show decide ((8:Int)=8)=true from rfl,aK,c,f,aO rfl];dsimp only;rw[b8 (kc (by grind)),b8 (kc (by grind)),h.c,r1.st];rw[j,aO rfl];dsimp only;rw[b8 (kc (by grind[List.length_cons])),b8 (kc (by grind[List.length_cons])),b.st];refine⟨_,_,rfl,.inr (.inr (.inr (.inr (.inr (.inr (.inr (.inl ⟨e,i,g,k,rfl⟩))))))),by grind[List.length_cons],b⟩
theorem aoh:∃t a,mH R ((d+1:Nat):Int) st 9=some (t,a)/\uL (ih d) (hS d) t/\t.length<=2*oW d+lw d+80/\fm x0 a:=by obtain⟨g,i,j,k⟩:=qm (d:=d) (by omega);have b:=vV (d:=d) (by omega);obtain⟨c,s1,e,f,l,r1⟩:=bk x0 st [10] (by decide) h;unfold mH;rw[show decide ((9:Int)=1)=false from rfl,aS];rw[show decide ((9:Int)=2)=false from rfl,aS];rw[show decide ((9:Int)=3)=false from rfl,aS];rw[show decide ((9:Int)=4)=false from rfl,aS];rw[show decide ((9:Int)=5)=false from rfl,aS];rw[show decide ((9:Int)=6)=false from rfl,aS];rw[show decide ((9:Int)=7)=false from rfl,aS];rw[show decide ((9:Int)=8)=false from rfl,aS];rw[show decide ((9:Int)=9)=true from rfl,aK,b,e,aO rfl];dsimp only;rw[b8 (kc (by grind)),b8 (kc (by grind)),h.c,r1.st];refine⟨_,_,rfl,.inr (.inr (.inr (.inr (.inr (.inr (.inr (.inr ⟨c,f,rfl⟩))))))),by grind,r1⟩
theorem aoi:∃t a,mH R ((d+1:Nat):Int) st 7=some (t,a)/\uL (ih d) (hS d) t/\t.length<=2*oW d+lw d+80/\fm x0 a:=
 ⟨_,st,rfl,.inr (.inr (.inr (.inr (.inr (.inr (.inl rfl)))))),by simp,h⟩
end
theorem aoj{R:bh}{a:Int}{st:fa}{y:Int}(h:¬(1<=y/\y<=9)):mH R a st y=av (B8 R st a) λz=>some (z.1,(st.1,z.2.2.1,z.2.2.2)):=by unfold mH;rw[e4 (show¬y=1 by omega),e4 (show¬y=2 by omega),e4 (show¬y=3 by omega),e4 (show¬y=4 by omega),e4 (show¬y=5 by omega),e4 (show¬y=6 by omega),e4 (show¬y=7 by omega),e4 (show¬y=8 by omega),e4 (show¬y=9 by omega)];simp
theorem aaD{R:bh}{d:Nat}(aH:d<=3)(hW:oX R d)(b:oX R 0){x0:aa}{st:fa}(h:fm x0 st){y:Int}(c:¬(1<=y/\y<=9)):∃t a,mH R (d:Int) st y=some (t,a)/\rB (hS d) (hS 0) t/\t.length<=2*lw d+20/\fm x0 a:=by rw[aoj c];obtain⟨t,a,e,g,i,f⟩:=an9 aH hW b h;rw[e,aO rfl];dsimp only;rw[h.c,f.st];grind
theorem aok{R:bh}{d:Nat}(aH:d+1<=3)(bk:CU R d)(f:oX R d)(hW:oX R (d+1))(g:oX R 0){x0:aa}{st:fa}(h:fm x0 st)(y:Int):∃t a,mH R ((d+1:Nat):Int) st y=some (t,a)/\yY (d+1) t/\t.length<=lc (d+1)/\fm x0 a:=by
 have k:lc (d+1)=2*oW d+lw d+2*lw (d+1)+80:=rfl;by_cases i:1<=y/\y<=9
 ·have aG:∃t a,mH R ((d+1:Nat):Int) st y=some (t,a)/\uL (ih d) (hS d) t/\t.length<=2*oW d+lw d+80/\fm x0 a:=by
   have:y=1\/y=2\/y=3\/y=4\/y=5\/y=6\/y=7\/y=8\/y=9:=by omega
   rcases this with rfl|rfl|rfl|rfl|rfl|rfl|rfl|rfl|rfl
   ·grind[aoa]
   ·grind[aob]
   ·grind[aoc]
   ·grind[aod]
   ·grind[aoe]
   ·grind[aof]
   ·grind[aoi]
   ·grind[aog]
   grind[aoh]
  obtain⟨t,a,b,c,j,e⟩:=aG;exact⟨t,a,b,.inr c,by omega,e⟩
 ·obtain⟨t,a,b,c,j,e⟩:=aaD aH hW g h i;exact⟨t,a,b,.inl c,by omega,e⟩
theorem aol{P:aa->Prop}{J:fa->Int->Option (aa×fa)}{d:Nat}{x0:aa}{st:fa}(h:fm x0 st)(c:∀st y,fm x0 st->(d=0->y=0)->∃t a,J st y=some (t,a)/\P t/\fm x0 a):∃t a,(av (k9 st 16) λz=>(bif(decide ((d:Int)<=0)) then J (st.1,z.2.2.1,z.2.2.2) 0 else J (st.1,z.2.2.1,z.2.2.2) z.1))=some (t,a)/\P t/\fm x0 a:=by
 obtain⟨y,e,b,f,g,ad⟩:=yX h (n:=16) (by decide) (by decide);rw[b,aO rfl];dsimp only;rw[h.c,ad.st];by_cases aH:(d:Int)<=0
 ·simp_all
 simp_all
theorem aaE{R:bh}{d:Nat}(aH:d<=3)(bk:∀b,d=b+1->CU R b/\oX R b)(hW:oX R d)(c:oX R 0){x0:aa}{st:fa}(h:fm x0 st):∃t a,vv R st (d:Int)=some (t,a)/\(yY d t/\t.length<=lc d)/\fm x0 a:=by
 rw[an_];refine aol h (λst y ad i=>?_);cases d with
 |zero=>have:=i rfl;subst this;obtain⟨t,a,e,f,j,g⟩:=aaD aH hW c ad (y:=0) (by omega);have:lw 0=10:=rfl;exact⟨t,a,e,⟨f,by show _<=60;omega⟩,g⟩
 |succ d=>obtain⟨t,a,e,f,j,g⟩:=aok aH (bk d rfl).1 (bk d rfl).2 hW c ad y;grind
theorem aaF(R:bh)(x:fa)(d:Int)(j:aa×Int×Int->Option (aa×fa))(k:aa×Int×Int×Int->Option (aa×fa))(s:aa)(c a b:Int):B9 R x d j k (s,c,a,b)=bif(decide (0<c)) then
 (av (k9 (x.1,a,b) 8) λz=>(a8 (0<=z.1/\z.1<(jx.length:Int))<|(a8 (((s.length+(at' jx z.1).length:Nat):Int)<=9223372036854775807)<|(av (vv R (x.1,z.2.2.1,z.2.2.2) d) λv=>(a8 ((((s++(at' jx z.1)).length+v.1.length:Nat):Int)<=9223372036854775807)<|k (((s++(at' jx z.1))++v.1),(W (c-1)),v.2.2.1,v.2.2.2)))))) else j (s,a,b):=rfl
theorem aom:∀h∈jx,h.length<=6:=by decide
theorem aon{R:bh}{x:fa}{d:Int}{j:aa×Int×Int->Option (aa×fa)}{k:aa×Int×Int×Int->Option (aa×fa)}{s:aa}{c:Nat}{x0:aa}{st a b:fa}{t:aa}{v:Int}(aG:c<=10)(e:x.1=x0)(h:fm x0 st)(ad:fm x0 a)(f:k9 st 8=some (v,a))(g:0<=v/\v<(jx.length:Int))(n:(at' jx v).length<=6)(i:vv R a d=some (t,b))(o:s.length<=900000)(l:t.length<=1000000):
  B9 R x d j k (s,((c+1:Nat):Int),st.2.1,st.2.2)=k (s++at' jx v++t,(c:Int),b.2.1,b.2.2):=by
 rw[aaF,decide_eq_true (show(0:Int)<((c+1:Nat):Int) by omega),aK,e,h.st,f,aO rfl];show a8 (0<=v/\v<(jx.length:Int)) _=_;rw[b8 g];show a8 (((s.length+(at' jx v).length:Nat):Int)<=9223372036854775807) (av (vv R (x0,a.2.1,a.2.2) d) _)=_;rw[b8 (xq s (at' jx v) (by omega) (by omega)),ad.st,i,aO rfl,b8 (xq (s++at' jx v) t (by grind) l)];have m:W (((c+1:Nat):Int)-1)=(c:Int):=by grind[dU]
 rw[m]
theorem aoo{R:bh}{d:Nat}(aH:d<=3)(m:∀{x0:aa}{st:fa},fm x0 st->∃t a,vv R st (d:Int)=some (t,a)/\(yY d t/\t.length<=lc d)/\fm x0 a){x0:aa}{x:fa}(o:x.1=x0){j:aa×Int×Int->Option (aa×fa)}:∀(N c:Nat)(s:aa)(st:fa),c<N->c<=2->s.length<=200000+(2-c) *160010->fm x0 st->
  ∃l a,fixF (B9 R x (d:Int) j) N (s,(c:Int),st.2.1,st.2.2)=j (s++cW l,a.2.1,a.2.2)/\(∀p∈l,p.1∈jx/\yY d p.2)/\(cW l).length<=c*(lc d+6)/\fm x0 a:=by
 obtain⟨_,_,B,_⟩:=qm aH;intro N;induction N with
 |zero=>omega
 |succ N e=>
  intro c s st aG C D h;rw[eZ];generalize fixF (B9 R x (d:Int) j) N=k at e⊢;cases c with
  |zero=>rw[aaF];refine⟨[],st,?_,by simp,by simp[cW],h⟩;simp[cW]
  |succ c=>
   obtain⟨v,E,q,f,g,i⟩:=yX h (n:=8) (by decide) (by decide);have hm:=at_mem (l:=jx) f g;have r:=aom _ hm;obtain⟨t,u,w,⟨F,G⟩,y⟩:=m i;have b:(s++at' jx v++t).length<=200000+(2-c) *160010:=by grind
   rw[aon (by omega) o h i q ⟨f,g⟩ r w (by omega) (by omega)];obtain⟨l,a,z,a2,a3,A⟩:=e c (s++at' jx v++t) u (by omega) (by omega) b y;rw[z];refine⟨(at' jx v,t)::l,a,?_,?_,?_,A⟩
   ·simp[cW]
   ·grind
   grind[cW]
theorem aop(R:bh)(x0:fa)(a:Int)(sfx:aa):HZ R x0 a sfx=av (vv R x0 a) λy=>av (k9 (x0.1,y.2.2.1,y.2.2.2) 3) λv=>
 fixF (B9 R x0 a (λz=>a8 (((z.1.length+sfx.length:Nat):Int)<=9223372036854775807)<|some ((z.1++sfx),(x0.1,z.2.1,z.2.2)))) bC (y.1,v.1,v.2.2.1,v.2.2.2):=rfl
theorem aoq{R:bh}{d:Nat}(aH:d<=3)(bk:∀b,d=b+1->CU R b/\oX R b)(hW:oX R d)(f:oX R 0){x0:aa}{st:fa}{sfx:aa}(w:sfx.length<=1)(h:fm x0 st):∃t a,HZ R st (d:Int) sfx=some (t++sfx,a)/\ih d t/\t.length<=oW d/\fm x0 a:=by
 obtain⟨_,_,y,_⟩:=qm aH;obtain⟨t,g,o,⟨p,A⟩,i⟩:=aaE aH bk hW f h;obtain⟨v,q,r,B,C,s⟩:=yX i (n:=3) (by decide) (by decide)
 obtain⟨k,rfl⟩:∃k:Nat,v=(k:Int):=⟨v.toNat,by omega⟩
 obtain⟨l,c,u,a2,a3,m⟩:=aoo aH (λh=>aaE aH bk hW f h) (x:=st) h.c (j:=λz=>a8 (((z.1.length+sfx.length:Nat):Int)<=9223372036854775807)<|some ((z.1++sfx),(x0,z.2.1,z.2.2))) bC k t q (by grind[gg]) (by omega) (by omega) s;have hk:k*(lc d+6)<=2*(lc d+6):=sH _ (by omega);rw[aop,o,aO rfl,h.c];show∃e a,(av (k9 (x0,g.2.1,g.2.2) 3) _)=some (e++sfx,a)/\_
 rw[i.st,r,aO rfl,u];have D:=anW d;refine⟨t++cW l,c,?_,?_,by grind,m⟩
 ·show a8 ((((t++cW l).length+sfx.length:Nat):Int)<=9223372036854775807) (some ((t++cW l++sfx),(x0,c.2.1,c.2.2)))=_;rw[b8 (xq _ _ (by grind) (by omega)),m.st]
 ·rw[M5];exact⟨t,l,p,a2,rfl⟩
theorem aor:∀(k d:Nat),d<=3->(2*d+1<=k->oX (kz k) d)/\(2*d+2<=k->CU (kz k) d):=by
 intro k;induction k with
 |zero=>omega
 |succ k a=>
  intro d aH;refine⟨λh x0 st c=>?_,λh x0 st sfx e c=>?_⟩
  ·obtain⟨t,f,g,⟨i,j⟩,l⟩:=an0 (R:=kz k) aH (λb m=>⟨(a b (by omega)).2 (by omega),(a b (by omega)).1 (by omega)⟩) c;exact⟨t,f,g,i,j,l⟩
  ·exact aoq (R:=kz k) aH (λb m=>⟨(a b (by omega)).2 (by omega),(a b (by omega)).1 (by omega)⟩) ((a d aH).1 (by omega)) ((a 0 (by omega)).1 (by omega)) e c
theorem aos{x0:aa}{st:fa}{sfx:aa}(b:sfx.length<=1)(h:fm x0 st):∃t a,sc.hc st 3 sfx=some (t++sfx,a)/\ih 3 t/\t.length<=oW 3/\fm x0 a:=by
 have hk:8<=bC:=by simp[gg]
 exact(aor bC 3 (by omega)).2 hk x0 st sfx b h
def rC:aa:=[99,97,116,32,60,60,69,59,32]
def mh:aa:=[10,98,111,100,121,10,69,10]
noncomputable def FT(c:aa)(t:aa):(Int×fa)->Option aa:=λz=>
 (bif(decide (z.1=0)) then(a8 (((rC.length+t.length:Nat):Int)<=9223372036854775807)<|(a8 ((((rC++t).length+mh.length:Nat):Int)<=9223372036854775807)<|some ((rC++t)++mh))) else some t)
theorem mk_eq(x0:aa):EA x0=av (Ez x0) λa=>av (sc.hc (x0,a.2.1,a.2.2) 3 []) λv=>av (k9 (x0,v.2.2.1,v.2.2.2) 4) λz=>FT x0 v.1 z:=rfl
theorem aot{c t:aa}{st:fa}(a:t.length<=900000):FT c t (0,st)=some (rC++t++mh):=by unfold FT;show(bif decide ((0:Int)=0) then _ else _)=_;rw[decide_eq_true rfl,aK,b8 (xq rC t (by decide) (by omega)),b8 (xq (rC++t) mh (by simp only[C2];have:rC.length=9:=rfl;omega) (by decide))]
theorem aou{c t:aa}{v:Int}{st:fa}(a:¬v=0):FT c t (v,st)=some t:=by unfold FT;grind
theorem aov(x0:aa)(f:x0.length<=1048576):∃t T,EA x0=some T/\ih 3 t/\t.length<=460000/\(T=t\/T=rC++t++mh):=by
 obtain⟨st,g,ad⟩:=anV x0 f;obtain⟨t,a,b,j,k,c⟩:=aos (sfx:=[]) (by decide) ad;rw[rE] at b;obtain⟨v,l,h,a2,a3,m⟩:=yX c (n:=4) (by decide) (by decide);have hl:oW 3<=460000:=(qm (d:=3) (by decide)).2.1;rw[mk_eq,g,aO rfl,b,aO rfl];show∃i T,(av (k9 (x0,a.2.1,a.2.2) 4) λz=>FT x0 t z)=some T/\_
 rw[c.st,h,aO rfl];by_cases e:v=0
 ·subst e;rw[aot (by omega)];grind
 ·rw[aou e];grind
end Go.Eng
namespace Go.Eng
structure fk where
 E:lh
 ok:E.mM
 c0:Nat
def bV(X:fk)(P:aa->Prop)(pd:aq){α:Type}:dt α->Prop
 | .ok _ r' a=>(P r'/\a=pd)\/X.E.H X.c0 r' a
 | .deep _=>False
 |_=>True
theorem lh.H.M7{E:lh}{n m:Nat}{r:aa}{pd:aq}(h:E.H n r pd)(hm:n<=m):E.H m r pd:=⟨h.sfx,by have:=h.le;omega,h.q⟩
theorem bV.Tv{X:fk}{P:aa->Prop}{b:aq}{α:Type}{n:Nat}(ax:X.c0<=n){f:ak α}(hf:ai X.E n f){r:aa}{pd:aq}(h:X.E.H X.c0 r pd):bV X P b (f r pd):=by
 have:=hf r pd (h.M7 ax);cases hm:f r pd with
 |ok a r' c=>rw[hm] at this;exact .inr (h.down X.ok this.1 this.2)
 |more _ _ _=>trivial
 |bad _=>trivial
 |deep _=>rw[hm] at this;exact this
theorem bV.ae{X:fk}{P c:aa->Prop}{pd b:aq}{α β:Type}{n:Nat}(ax:X.c0<=n){m:ak α}{k:α->ak β}{r:aa}(h:bV X P pd (m r b))(hk:∀a r',m r b= .ok a r' pd->P r'->bV X c pd (k a r' pd))(he:∀a,ai X.E n (k a)):bV X c pd (Go.Eng.ae m k r b):=by
 unfold Go.Eng.ae;cases hm:m r b with
 |ok a r' d=>
  rw[hm] at h;rcases h with⟨ad,rfl⟩|ad
  ·grind
  grind[bV.Tv]
 |more _ _ _=>trivial
 |bad _=>trivial
 |deep _=>rw[hm] at h;exact h
theorem bV.imp{X:fk}{P b:aa->Prop}{pd:aq}{α:Type}{x:dt α}(h:bV X P pd x)(aC:∀r,P r->b r):bV X b pd x:=by
 cases x with
 |ok a r' d=>
  rcases h with⟨ad,c⟩|ad
  ·exact .inl ⟨aC _ ad,c⟩
  ·exact .inr ad
 |more _ _ _=>trivial
 |bad _=>trivial
 |deep _=>exact h
theorem bV.aM{X:fk}{P:aa->Prop}{pd a:aq}{α:Type}{m:ak α}{x r:aa}(h:bV X P pd (m r a)):bV X P pd (m.aM x r a):=by unfold ak.aM;cases hm:m r a<;>rw[hm] at h<;>first|exact h|trivial
theorem bV.named{X:fk}{P:aa->Prop}{pd a:aq}{α:Type}{m:ak α}{x r:aa}(h:bV X P pd (m r a)):bV X P pd (m.named x r a):=by unfold ak.named;cases hm:m r a<;>rw[hm] at h<;>first|exact h|trivial
def oq(X:fk){α:Type}(x:dt α):Prop:=match x with
 | .ok _ r' a=>X.E.H X.c0 r' a
 | .deep _=>False
 |_=>True
def jy(X:fk){α:Type}(x y:dt α):Prop:=x=y\/oq X x
theorem jy.refl{X:fk}{α:Type}(x:dt α):jy X x x:= .inl rfl
theorem jy.trans{X:fk}{α:Type}{x y z:dt α}(h:jy X x y)(a:jy X y z):jy X x z:=by
 rcases h with rfl|h
 ·exact a
 ·exact .inr h
theorem jy.I9{X:fk}{P:aa->Prop}{pd:aq}{α:Type}{x y:dt α}(h:jy X x y)(b:bV X P pd y):bV X P pd x:=by
 rcases h with rfl|h
 ·exact b
 ·cases x with
  |ok a r' c=>exact .inr h
  |more _ _ _=>trivial
  |bad _=>trivial
  |deep _=>exact h
theorem jy.rep{X:fk}{σ α:Type}{n:Nat}(ax:X.c0<=n){f:σ->ak (σ⊕α)}(hf:∀s,ai X.E n (f s)){s s':σ}{r v:aa}{pd:aq}(hl:v.length<r.length)
  (h:f s r pd= .ok (.inl s') v pd\/oq X (f s r pd)):jy X (ca f s r pd) (ca f s' v pd):=by
 rw[cF f s r pd];rcases h with h|h
 ·rw[h];left;show(if v.length<r.length then ca f s' v pd else .bad v)=_;grind
 ·right;cases hm:f s r pd with
  |ok x r' b=>
   rw[hm] at h;cases x with
   |inl s2=>
    unfold cN;simp only;by_cases ad:r'.length<r.length
    ·rw[bm ad];have:=ai.rep X.ok hf s2 r' b (h.M7 ax);cases c:ca f s2 r' b with
     |ok a d e=>rw[c] at this;exact h.down X.ok this.1 this.2
     |more _ _ _=>trivial
     |bad _=>trivial
     |deep _=>rw[c] at this;exact this
    ·rw[aW ad];trivial
   |inr a=>exact h
  |more _ _ _=>trivial
  |bad _=>trivial
  |deep _=>rw[hm] at h;exact h
def dx(X:fk)(pd:aq)(u:aa):Prop:=∀t r',10::t<:+u->lY pd t= .inl r'->pd=[]\/X.E.H X.c0 r' []
theorem dx.sfx{X:fk}{pd:aq}{u v:aa}(h:dx X pd u)(a:v<:+u):dx X pd v:=λt r' b c=>h t r' (b.trans a) c
theorem dx.nil{X:fk}{u:aa}:dx X [] u:=λ_ _ _ _=> .inl rfl
theorem aow{X:fk}{t:aa}{pd:aq}(h:dx X pd (10::t)):bV X (λr=>r=t) pd (jb (10::t) pd):=by
 show bV X _ pd (match lY pd t with| .inl r'=>dt.ok () r' []| .inr nd=> .more [[60,60]] nd []);cases a:lY pd t with
 |inl r'=>
  rcases h t r' fK a with rfl|ad
  ·cases a;exact .inl ⟨rfl,rfl⟩
  ·exact .inr ad
 |inr nd=>trivial
abbrev vW(D:ak Unit):ak Unit:=cC D (some (eH D))
def I_(D:ak Unit):Unit->ak (Unit⊕Unit):=λ_ r pd=>match r with
 |[]=>b6 [] r pd
 |_::_=>if c1 r then .ok (.inr ()) r pd else(ae (vW D) λ_=>aU (.inl ())) r pd
def FU(c:UInt8)(p:ak Unit):Unit->ak (Unit⊕Unit):=λ_ r pd=>match r with
 |[]=>b6 [] r pd
 |b::t=>if b=c then .ok (.inr ()) t pd else(ae p λ_=>aU (.inl ())) r pd
theorem Tw(D:ak Unit):cP D=ca (I_ D) ():=rfl
theorem aaH(c:UInt8)(p:ak Unit):jc c p=ca (FU c p) ():=rfl
section
variable{X:fk}{m:Nat}(hm:X.c0<=m){D:ak Unit}(hD:ai X.E m D)
theorem aox(hD:ai X.E m D)(s:Unit):ai X.E m (I_ D s):=by
 intro r pd h;unfold I_;cases r with
 |nil=>trivial
 |cons b t=>
  simp only;by_cases a:c1 (b::t)=true
  ·rw[bm a];exact⟨fK,h.q⟩
  ·rw[aW a];exact ai.ae X.ok (ai.yy X.ok hD) (λ_=>ai.ret _) _ _ h
theorem aoy{p:ak Unit}(aC:ai X.E m p)(c:UInt8)(s:Unit):ai X.E m (FU c p s):=by
 intro r pd h;unfold FU;cases r with
 |nil=>trivial
 |cons b t=>
  simp only;by_cases a:b=c
  ·rw[bm a];exact⟨eb _ _,(h.qe X.ok (eb b t)).q⟩
  ·rw[aW a];exact ai.ae X.ok aC (λ_=>ai.ret _) _ _ h
theorem oq.inl{x:ak Unit}{r:aa}{pd:aq}(h:oq X (x r pd)):oq X (ae x (λ_=>(aU (.inl ()):ak (Unit⊕Unit))) r pd):=by
 unfold ae;cases b:x r pd with
 |ok a r' c=>rw[b] at h;exact h
 |more _ _ _=>trivial
 |bad _=>trivial
 |deep _=>rw[b] at h;exact h
include hm hD
theorem aaI{p v:aa}{pd:aq}(a:c1 (p++v)=false)(aC:p≠[])(h:vW D (p++v) pd= .ok () v pd\/oq X (vW D (p++v) pd)):jy X (cP D (p++v) pd) (cP D v pd):=by
 rw[Tw];have hl:v.length<(p++v).length:=by grind[List.length_pos_iff]
 refine jy.rep hm (aox hD) hl ?_;have he:I_ D () (p++v) pd=ae (vW D) (λ_=>aU (.inl ())) (p++v) pd:=by unfold I_;grind
 rw[he];rcases h with h|h
 ·left;rw[aY h];rfl
 ·right;exact h.inl
theorem M8{p v:aa}{pd:aq}{c:UInt8}{q:ak Unit}(a:ai X.E m q)(aG:p.head?≠some c)(aC:p≠[])(h:q (p++v) pd= .ok () v pd\/oq X (q (p++v) pd)):jy X (jc c q (p++v) pd) (jc c q v pd):=by
 rw[aaH];have hl:v.length<(p++v).length:=by grind[List.length_pos_iff]
 refine jy.rep hm (aoy a c) hl ?_;have he:FU c q () (p++v) pd=ae q (λ_=>aU (.inl ())) (p++v) pd:=by
  unfold FU;cases p with
  |nil=>grind
  |cons b t=>grind
 rw[he];rcases h with h|h
 ·left;rw[aY h];rfl
 ·right;exact h.inl
end
def eJ(X:fk)(D:ak Unit)(w:aa):Prop:=∀v pd,v≠[]->dx X pd (w++v)->jy X (cP D (w++v) pd) (cP D v pd)/\jy X (jc 125 (vW D) (w++v) pd) (jc 125 (vW D) v pd)
theorem yZ{b:UInt8}{t:aa}(ad:f_ b=false)(a:b≠10)(c:oN b=false):c1 (b::t)=false:=by show(f_ b||b==10||br (b::t)!=[])=false;grind[og]
section
variable{X:fk}{m:Nat}(hm:X.c0<=m){D:ak Unit}(hD:ai X.E m D)
theorem eJ.app{d c:aa}(ad:eJ X D d)(f:eJ X D c):eJ X D (d++c):=by intro v pd e ax;rw[uO] at ax⊢;have a:=ad (c++v) pd (by simp[e]) ax;have b:=f v pd e (ax.sfx (gQ _ _));exact⟨a.1.trans b.1,a.2.trans b.2⟩
include hm hD
theorem eJ.part{p:aa}(b:∀v,c1 (p++v)=false)(aC:p≠[])(aG:p.head?≠some 125)(h:∀v pd,v≠[]->dx X pd (p++v)->vW D (p++v) pd= .ok () v pd\/oq X (vW D (p++v) pd)):eJ X D p:=by intro v pd a ax;exact⟨aaI hm hD (b v) aC (h v pd a ax),M8 hm (hD:=hD) (ai.yy X.ok hD) aG aC (h v pd a ax)⟩
theorem eJ.byte{b:UInt8}(ad:f_ b=false)(a:b≠10)(c:oN b=false)(d:b≠92/\b≠39/\b≠34/\b≠96/\b≠36/\b≠125):eJ X D [b]:=by refine eJ.part hm hD (λv=>yZ ad a c) (by simp) (by grind) (λv pd e ax=> .inl ?_);simp_all[cC,sm]
theorem eJ.bytes:∀{w:aa},w≠[]->(w.all λb=> !f_ b&&b !=10&& !oN b&&b !=92&&b !=39&&b !=34&&b !=96&&b !=36&&b !=125)=true->eJ X D w
 |[],h,_=>absurd rfl h
 |[b],_,h=>by grind[eJ.byte]
 |b::c::t,_,h=>by rw[AP,hE] at h;have h0:=h.1;simp at h0;have a:eJ X D [b]:=eJ.byte hm hD h0.1.1.1.1.1.1.1.1 h0.1.1.1.1.1.1.1.2 h0.1.1.1.1.1.1.2 ⟨h0.1.1.1.1.1.2,h0.1.1.1.1.2,h0.1.1.1.2,h0.1.1.2,h0.1.2,h0.2⟩;have d:=eJ.bytes (w:=c::t) (by simp) h.2;have:=a.app d;exact this
theorem eJ.single{x:aa}(a:(39:UInt8)∉x):eJ X D (39::x++[39]):=by
 have c:∀v,gb (x++39::v)=some v:=by
  intro v;induction x with
  |nil=>rfl
  |cons b t d=>simp only[kU,F9] at a;simp_all[gb,xA]
 refine eJ.part hm hD (λv=>yZ (by decide) (by decide) (by decide)) (by simp) (by simp) (λv pd e ax=> .inl ?_);simp_all[cC,sm,jq]
theorem eJ.tick{x:aa}(a:∀v,gX (x++96::v)=some v):eJ X D (96::x++[96]):=by refine eJ.part hm hD (λv=>yZ (by decide) (by decide) (by decide)) (by simp) (by simp) (λv pd b ax=> .inl ?_);show cC D (some (eH D)) (96::(x++[96]++v)) pd=_;simp_all[cC,jq]
theorem eJ.aaJ(b:UInt8):eJ X D [92,b]:=by refine eJ.part hm hD (λv=>yZ (by decide) (by decide) (by decide)) (by simp) (by simp) (λv pd a ax=> .inl ?_);rfl
end
def tA(X:fk)(D:ak Unit)(x:aa):Prop:=∀v pd,v≠[]->dx X pd (x++v)->jy X (jc 34 (cC D none) (x++v) pd) (jc 34 (cC D none) v pd)
theorem aaK{c:UInt8}{p:ak Unit}{v:aa}{pd:aq}:jc c p (c::v) pd= .ok () v pd:=by simp[aaH,cF,FU,cN]
section
variable{X:fk}{m:Nat}(hm:X.c0<=m){D:ak Unit}(hD:ai X.E m D)
theorem tA.app{b a:aa}(ad:tA X D b)(d:tA X D a):tA X D (b++a):=by intro v pd c ax;rw[uO] at ax⊢;exact(ad (a++v) pd (by simp[c]) ax).trans (d v pd c (ax.sfx (gQ _ _)))
theorem jy.named{x:aa}{α:Type}{f g:ak α}{r r':aa}{pd a:aq}(h:jy X (f r pd) (g r' a)):jy X (f.named x r pd) (g.named x r' a):=by
 rcases h with h|h
 ·left;grind[ak.named]
 ·right;unfold ak.named;cases hf:f r pd<;>rw[hf] at h<;>first|exact h|trivial
theorem jy.aM{x:aa}{α:Type}{f g:ak α}{r r':aa}{pd a:aq}(h:jy X (f r pd) (g r' a)):jy X (f.aM x r pd) (g.aM x r' a):=by
 rcases h with h|h
 ·left;grind[ak.aM]
 ·right;unfold ak.aM;cases hf:f r pd<;>rw[hf] at h<;>first|exact h|trivial
include hm hD
theorem eJ.double{x:aa}(a:tA X D x):eJ X D (34::x++[34]):=by
 refine eJ.part hm hD (λv=>yZ (by decide) (by decide) (by decide)) (by simp) (by simp) (λv pd d ax=>?_);have he:vW D (34::x++[34]++v) pd=eH D (x++34::v) pd:=by simp[cC,sm]
 rw[he];have b:dx X pd (x++34::v):=ax.sfx ⟨[34],by simp⟩;have ad:jy X (eH D (x++34::v) pd) (eH D (34::v) pd):=(a (34::v) pd (by simp) b).aM.named;have c:eH D (34::v) pd= .ok () v pd:=by simp[eH,ak.named,ak.aM,aaK]
 rw[c] at ad;exact ad
theorem tA.byte{b:UInt8}(c:b≠92/\b≠34/\b≠96/\b≠36):tA X D [b]:=by intro v pd d ax;refine M8 hm (hD:=hD) (ai.part X.ok hD (λq a=>by cases a)) (by grind) (by simp) (.inl ?_);simp_all[cC,sm]
theorem eJ.Tx:eJ X D [36,120]:=by
 intro v pd d ax;have ad:vW D (36::120::v) pd= .ok () (120::v) pd:=by rfl
 have a:=eJ.byte hm hD (b:=120) (by decide) (by decide) (by decide) (by decide) v pd d (ax.sfx (eb _ _));have e:=aaI hm hD (p:=[36]) (v:=120::v) (pd:=pd) (yZ (by decide) (by decide) (by decide)) (by simp) (.inl ad);have a2:=M8 hm (hD:=hD) (p:=[36]) (v:=120::v) (pd:=pd) (c:=125) (ai.yy X.ok hD) (by simp) (by simp) (.inl ad);exact⟨e.trans a.1,a2.trans a.2⟩
theorem eJ.arith{lo:Option dS}(hl:D=dH lo):eJ X D [36,40,40,49,43,40,50,41,41,41]:=by refine eJ.part hm hD (λv=>yZ (by decide) (by decide) (by decide)) (by simp) (by simp) (λv pd a ax=> .inl ?_);show cC D (some (eH D)) (36::40::40::49::43::40::50::41::41::41::v) pd=_;unfold cC;simp only;rw[aW (by decide),aW (by decide),bm (by rfl),hl];rfl
theorem eJ.consts{lo:Option dS}(hl:D=dH lo):∀w∈oV,eJ X D w:=by
 have a:∀{w:aa},w≠[]->(w.all λb=> !f_ b&&b !=10&& !oN b&&b !=92&&b !=39&&b !=34&&b !=96&&b !=36&&b !=125)=true->eJ X D w:=λad d=>eJ.bytes hm hD ad d
 intro w c;simp only[oV,FR,hp,tD,kU,qn,tE] at c;rcases c with rfl|rfl|rfl|rfl|rfl|rfl|rfl|rfl|rfl|rfl|rfl|rfl|rfl|rfl|rfl
 ·exact eJ.single hm hD (x:=[113,32,114]) (by decide)
 ·exact eJ.double hm hD (x:=[97,32,98]) (((tA.byte hm hD (b:=97) (by decide)).app (tA.byte hm hD (b:=32) (by decide))).app (tA.byte hm hD (b:=98) (by decide)))
 ·exact((a (w:=[97]) (by simp) (by decide)).app (eJ.aaJ hm hD 32)).app (a (w:=[98]) (by simp) (by decide))
 ·grind[eJ.Tx]
 ·grind[eJ.arith]
 ·exact eJ.tick hm hD (x:=[99,32,100]) (λv=>by simp[gX];unfold gX;simp)
 ·exact a (by simp) (by decide)
 ·exact((a (w:=[97]) (by simp) (by decide)).app (eJ.aaJ hm hD 10)).app (a (w:=[98]) (by simp) (by decide))
 ·exact a (by simp) (by decide)
 ·exact a (by simp) (by decide)
 ·exact a (by simp) (by decide)
 ·exact a (by simp) (by decide)
 ·exact a (by simp) (by decide)
 ·exact a (by simp) (by decide)
 ·exact a (by simp) (by decide)
end
def ot(d:Nat)(x:aa):Prop:=∀v,hL d (x++v)=hL d v\/∃q,hL d (x++v)= .bad q
def dE(x:aa):Prop:=∀d,ot d x
theorem ot.app{d:Nat}{x y:aa}(ad:ot d x)(a:ot d y):ot d (x++y):=by
 intro v;rw[uO];rcases ad (y++v) with h|h
 ·rw[h];exact a v
 grind
theorem dE.app{x y:aa}(ad:dE x)(a:dE y):dE (x++y):=λd=>(ad d).app (a d)
theorem dE.nil:dE []:=λd v=> .inl rfl
theorem dE.bad{b:UInt8}{x:aa}(h:b=39\/b=34\/b=92\/b=96):dE (b::x):=by intro d v;right;rw[hp,vA,bm (by grind)];simp
theorem dE.opens{c:UInt8}{x:aa}(h:c=40\/c=123):dE (36::c::x):=by intro d v;right;rw[List.cons_append,vA,if_pos (by grind[ga])];simp
theorem dE.byte{b:UInt8}(h:b≠39/\b≠34/\b≠92/\b≠96/\b≠36/\b≠40/\b≠41):dE [b]:=by intro d v;simp_all[vA,sm]
theorem dE.bytes:∀{w:aa},(w.all λb=>b !=39&&b !=34&&b !=92&&b !=96&&b !=36&&b !=40&&b !=41)=true->dE w
 |[],_=>dE.nil
 |b::t,h=>by rw[AP,hE] at h;have h0:=h.1;simp at h0;have:=(dE.byte (b:=b) ⟨h0.1.1.1.1.1.1,h0.1.1.1.1.1.2,h0.1.1.1.1.2,h0.1.1.1.2,h0.1.1.2,h0.1.2,h0.2⟩).app (dE.bytes h.2);exact this
theorem dE.paren{x:aa}(h:dE x):dE ([40]++x++[41]):=by
 intro d v;have ad:hL d ([40]++x++[41]++v)=hL (d+1) (x++41::v):=by show hL d (40::(x++[41]++v))=_;simp[vA,ga]
 rw[ad];rcases h (d+1) (41::v) with af|af
 ·simp_all[vA,ga]
 grind
theorem dE.Tx:dE [36,120]:=by intro d v;simp[vA,ga]
theorem dE.consts:∀w∈oV,dE w:=by
 intro w a;simp only[oV,FR,hp,tD,kU,qn,tE] at a;rcases a with rfl|rfl|rfl|rfl|rfl|rfl|rfl|rfl|rfl|rfl|rfl|rfl|rfl|rfl|rfl
 ·simp[dE.bad]
 ·simp[dE.bad]
 ·exact(dE.bytes (w:=[97]) (by decide)).app (dE.bad (b:=92) (x:=[32,98]) (by simp))
 ·exact dE.Tx
 ·simp[dE.opens]
 ·simp[dE.bad]
 ·simp[dE.bytes]
 ·exact(dE.bytes (w:=[97]) (by decide)).app (dE.bad (b:=92) (x:=[10,98]) (by simp))
 ·simp[dE.bytes]
 ·simp[dE.bytes]
 ·simp[dE.bytes]
 ·simp[dE.bytes]
 ·simp[dE.bytes]
 ·simp[dE.bytes]
 simp[dE.bytes]
theorem dE.word{d:Nat}{w:aa}(h:hS d w):dE w:=by
 cases d with
 |zero=>exact dE.consts w h
 |succ d=>
  rcases h with h|⟨t,_,h|h⟩|⟨v,_,h⟩
  ·grind[dE.consts]
  ·simp_all[dE.opens]
  ·grind[dE.bad]
  simp_all[dE.opens]
theorem dE.args{W:aa->Prop}(hW:∀w,W w->dE w):∀{ws:bs},(∀w∈ws,W w)->dE (jN ws)
 |[],_=>dE.nil
 |w::t,h=>by have:=(dE.bytes (w:=[32]) (by decide)).app ((hW w (h w (by simp))).app (dE.args hW (ws:=t) (λw a=>h w (by grind))));exact this
theorem aoz:∀h∈sz,dE h:=by intro h a;simp only[sz,kU,qn,tE] at a;rcases a with rfl|rfl|rfl|rfl<;>exact dE.bytes (by decide)
theorem dE.simple{W a:aa->Prop}(hW:∀w,W w->dE w)(e:∀w,a w->dE w){s:aa}(h:rB W a s):dE s:=by
 obtain⟨c,ws,r,ad,b,rfl,d⟩:=h;refine((aoz c ad).app (dE.args hW b)).app ?_;rcases d with rfl|rfl|⟨w,f,rfl⟩
 ·exact dE.nil
 ·simp[dE.bytes]
 grind[dE.bytes,dE.app]
theorem aoA:∀h∈jx,dE h:=by intro h a;simp only[jx,kU,qn,tE] at a;rcases a with rfl|rfl|rfl|rfl|rfl|rfl|rfl|rfl<;>exact dE.bytes (by decide)
theorem ot.rest{d:Nat}{C:aa->Prop}(a:∀c,C c->ot d c):∀{l:List (aa×aa)},(∀p∈l,p.1∈jx/\C p.2)->ot d (cW l)
 |[],_=>dE.nil d
 |p::t,h=>by have:=((aoA p.1 (h p (by simp)).1 d).app (a p.2 (h p (by simp)).2)).app (ot.rest a (l:=t) (λq b=>h q (by grind)));exact this
theorem ot.aoB{c:aa}(h:yY 1 c):ot 0 c:=by
 rcases h with h|h
 ·exact dE.simple (λw f=>dE.word (d:=1) f) (λw f=>dE.word (d:=0) f) h 0
 ·have bk:∀t,ih 0 t->dE t:=λt j=>by
   intro d;obtain⟨c,l,ad,e,rfl⟩:=j;have i:∀c,rB (λw=>w∈oV) (λw=>w∈oV) c->ot d c:=λc aG=>dE.simple dE.consts dE.consts aG d
   exact(i c ad).app (ot.rest i e)
  have hW:∀w,hS 0 w->dE w:=λw f=>dE.consts w f
  have a:∀{w:aa},(w.all λb=>b !=39&&b !=34&&b !=92&&b !=96&&b !=36&&b !=40&&b !=41)=true->dE w:=λh=>dE.bytes h
  rcases h with⟨t,ad,rfl⟩|⟨t,ad,rfl⟩|⟨t,u,ad,e,rfl⟩|⟨t,u,ad,e,rfl⟩|⟨t,u,ad,e,rfl⟩|⟨w,u,ad,e,rfl⟩|rfl|⟨w,u,ad,e,rfl⟩|⟨t,ad,rfl⟩
  ·exact dE.paren (bk t ad) 0
  ·exact(((a (by decide)).app ((bk t ad).app (a (by decide)))).app (a (by decide))) 0
  ·exact(((((a (by decide)).app ((bk t ad).app (a (by decide)))).app (a (by decide))).app ((bk u e).app (a (by decide)))).app (a (by decide))) 0
  ·exact(((((a (by decide)).app ((bk t ad).app (a (by decide)))).app (a (by decide))).app ((bk u e).app (a (by decide)))).app (a (by decide))) 0
  ·exact(((((a (by decide)).app ((bk t ad).app (a (by decide)))).app (a (by decide))).app ((bk u e).app (a (by decide)))).app (a (by decide))) 0
  ·exact(((((a (by decide)).app (hW w ad)).app (a (by decide))).app ((bk u e).app (a (by decide)))).app (a (by decide))) 0
  ·exact a (by decide) 0
  ·
   have g:ot 0 ([99,97,115,101,32]++w++[32,105,110,32,97,124,98]):=(((a (by decide)).app (hW w ad)).app (a (by decide))) 0;intro v;have he:[99,97,115,101,32]++w++[32,105,110,32,97,124,98,41,32]++(u++[])++[59,59,10,40,99,41,32,59,59,32,100,41,32,101,115,97,99]++v=([99,97,115,101,32]++w++[32,105,110,32,97,124,98])++(41::32::(u++[59,59,10,40,99,41,32,59,59,32,100,41,32,101,115,97,99]++v)):=by simp
   rw[he];right;rcases g (41::32::(u++[59,59,10,40,99,41,32,59,59,32,100,41,32,101,115,97,99]++v)) with aV|aV
   ·simp_all[vA]
   omega
  ·have g:dE ([102]++([40]++[]++[41])++[32,123,10]++(t++[10])++[125,32,62,102]):=((((a (by decide)).app (dE.paren dE.nil)).app (a (by decide))).app ((bk t ad).app (a (by decide)))).app (a (by decide));exact g 0
theorem ot.aoC{d:Nat}(aH:d<=1){t:aa}(h:ih d t):ot 0 t:=by
 rw[M5] at h;obtain⟨c,l,ad,e,rfl⟩:=h
 have b:∀c,yY d c->ot 0 c:=by
  intro c aG;rcases Nat.le_one_iff_eq_zero_or_eq_one.1 aH with rfl|rfl
  ·exact dE.simple (λw a=>dE.word (d:=0) a) (λw a=>dE.word (d:=0) a) aG 0
  grind[ot.aoB]
 exact(b c ad).app (ot.rest b e)
def Ty(X:fk)(m d:Nat):Prop:=∀t v pd,ih d t->dx X pd (t++41::v)->bV X (λr=>r=41::v) pd ((aZ true m).ls .paren true (t++41::v) pd)
theorem y0(v:aa):bu (41::v)=some (41::v):=by unfold bu;rfl
theorem y1(v:aa):au (41::v)= .op [41]:=by rfl
theorem aoD{d:Nat}{c:aa}(h:yY d c):∃b t,c=b::t/\(b=40->∃a u,d=a+1/\ih a u/\c=[40]++u++[41]):=by
 have g:∀{W f:aa->Prop},rB W f c->∃b t,c=b::t/\(b=40->∃a u,d=a+1/\ih a u/\c=[40]++u++[41]):=by rintro W f ⟨x,ws,r,ad,e,rfl,i⟩;simp only[sz,kU,qn,tE] at ad;grind
 cases d with
 |zero=>exact g h
 |succ d=>
  rcases h with h|h
  ·grind
  ·rcases h with⟨t,ad,rfl⟩|⟨t,ad,rfl⟩|⟨t,u,ad,e,rfl⟩|⟨t,u,ad,e,rfl⟩|⟨t,u,ad,e,rfl⟩|⟨w,u,ad,e,rfl⟩|rfl|⟨w,u,ad,e,rfl⟩|⟨t,ad,rfl⟩
   ·grind
   all_goals simp
theorem aoE:∀j∈jx,∃b t,j=b::t/\b≠41:=by simp[jx]
section
variable{X:fk}{m:Nat}(hm:X.c0<=m)
include hm in
theorem aaL{d:Nat}(aH:d<=2)(eo:Ty X m d)(bk:wZ X.E m){t v:aa}{pd:aq}(ht:ih d t)(ax:dx X pd ([36,40]++t++[41]++v)):dH (some (aZ true m)) ([36,40]++t++[41]++v) pd= .ok () v pd\/oq X (dH (some (aZ true m)) ([36,40]++t++[41]++v) pd):=by
 have he:[36,40]++t++[41]++v=36::40::(t++41::v):=by simp
 rw[he] at ax⊢;have uA:=ht;rw[M5] at uA;obtain⟨c,l,ad,af,ml⟩:=uA;obtain⟨b,mQ,aG,gA⟩:=aoD ad;by_cases hb:b=40
 ·
  obtain⟨d1,u,rfl,hu,Mq⟩:=gA hb;subst ml;have c_:dH (some (aZ true m)) (36::40::(c++cW l++41::v)) pd=nk (u++(41::(cW l++41::v))) pd:=by rw[Mq];unfold dH;rw[bm (by simp)];show nk _ pd=_;simp
  rw[c_];unfold nk;rcases ot.aoC (by omega) hu (41::(cW l++41::v)) with aw|⟨q,aw⟩
  ·rw[aw];cases l with
   |nil=>left;rfl
   |cons p l=>
    obtain⟨aoF,aoG,cr,ar4⟩:=aoE p.1 (af p (by simp)).1;right
    have:∃q,hL 0 (41::(cW (p::l)++41::v))= .bad q:=by
     have aj:cW (p::l)++41::v=aoF::(aoG++p.2++cW l++41::v):=by grind[cW]
     simp_all[vA]
    obtain⟨q,aE⟩:=this;rw[aE];trivial
  ·right;rw[aw];trivial
 ·have c_:dH (some (aZ true m)) (36::40::(t++41::v)) pd=uq (aZ true m) (t++41::v) pd:=by
   have aaM:∃Rc,t=b::Rc:=⟨mQ++cW l,by grind⟩
   obtain⟨Rc,aaM⟩:=aaM;unfold dH;rw[aW (by grind),if_pos (by simp)];rfl
  rw[c_];have hq:dx X pd (t++41::v):=ax.sfx ⟨[36,40],rfl⟩;have aw:=eo t v pd ht hq;have aV:bV X (λr=>r=v) pd (uq (aZ true m) (t++41::v) pd):=by unfold uq;refine bV.ae hm aw.aM.named (λa r' _ w6=>?_) (λa=>ai.jI X.ok _);subst w6;rw[E6 (y0 v) (y1 v)];exact .inl ⟨rfl,rfl⟩
  cases aC:uq (aZ true m) (t++41::v) pd with
  |ok a r' aD=>
   rw[aC] at aV;rcases aV with⟨rfl,rfl⟩|aV
   ·simp
   ·exact .inr aV
  |more _ _ _=>right;trivial
  |bad _=>right;trivial
  |deep _=>rw[aC] at aV;exact aV.elim
end
theorem aoH(n:Nat):(aZ true n).pm=qJ (aZ true n).dl:=by cases n<;>rfl
theorem aaN{E:lh}(ok:E.mM){m:Nat}(bk:wZ E m):ai E (m+1) (dH (some (aZ true m))):=ai.Rq ok (.inr ⟨m,rfl,rfl,bk⟩)
section
variable{X:fk}{m:Nat}(hm:X.c0<=m)(bk:wZ X.E m)
include hm bk
theorem aoI{w v:aa}{pd:aq}(c:eJ X (aZ true m).dl w)(ax:dx X pd ([36,123,120,58,45]++w++[125]++v)):dH (some (aZ true m)) ([36,123,120,58,45]++w++[125]++v) pd= .ok () v pd\/oq X (dH (some (aZ true m)) ([36,123,120,58,45]++w++[125]++v) pd):=by
 have he:[36,123,120,58,45]++w++[125]++v=36::123::([120,58,45]++(w++125::v)):=by simp
 rw[he] at ax⊢;have d:dH (some (aZ true m)) (36::123::([120,58,45]++(w++125::v))) pd=((aZ true m).pm.named [36,123]) ([120,58,45]++(w++125::v)) pd:=by rfl
 rw[d,aoH];have a:dx X pd ([120,58,45]++(w++125::v)):=ax.sfx ⟨[36,123],rfl⟩;have ad:=(eJ.bytes hm bk.dl (w:=[120,58,45]) (by simp) (by decide) (w++125::v) pd (by simp) a).2;have e:=(c (125::v) pd (by simp) (a.sfx (gQ _ _))).2;have b:=(ad.trans e);rw[aaK] at b;have f:jy X (((qJ (aZ true m).dl).named [36,123]) ([120,58,45]++(w++125::v)) pd) (.ok () v pd):=by have:jy X (((jc 125 (vW (aZ true m).dl)).aM [125]).named [36,123] ([120,58,45]++(w++125::v)) pd) (((aU ():ak Unit).aM [125]).named [36,123] v pd):=jy.named (jy.aM b);exact this
 exact f
theorem eJ.Tz{p:aa}(aC:∃c q,p=36::c::q/\(c=40\/c=123))(h:∀v pd,v≠[]->dx X pd (p++v)->dH (some (aZ true m)) (p++v) pd= .ok () v pd\/oq X (dH (some (aZ true m)) (p++v) pd)):eJ X (dH (some (aZ true m))) p/\tA X (dH (some (aZ true m))) p:=by
 obtain⟨c,q,rfl,aG⟩:=aC;have hD:=aaN X.ok bk
 have d:∀dq v pd,cC (dH (some (aZ true m))) dq (36::c::q++v) pd=dH (some (aZ true m)) (36::c::q++v) pd:=by intro dq v pd;show cC (dH (some (aZ true m))) dq (36::c::(q++v)) pd=_;unfold cC;simp only;rw[aW (by decide),aW (by decide),bm (by rcases aG with rfl|rfl<;>rfl)];rfl
 refine⟨eJ.part (by omega) hD (λv=>yZ (by decide) (by decide) (by decide)) (by simp) (by simp) (λv pd a ax=>?_),λv pd a ax=>?_⟩
 ·grind
 ·refine M8 (m:=m+1) (by omega) (hD:=hD) (ai.part X.ok hD (λq b=>by cases b)) (by simp) (by simp) ?_;grind
theorem aaO{d:Nat}(aH:d<=2)(eo:Ty X m d)(hW:∀w,hS d w->eJ X (aZ true m).dl w):∀w,hS (d+1) w->eJ X (dH (some (aZ true m))) w:=by
 have hD:=aaN X.ok bk;intro w h;rcases h with h|⟨t,ad,h|h⟩|⟨v,ad,h⟩
 ·exact eJ.consts (m:=m+1) (by omega) hD rfl w h
 ·subst h;exact(eJ.Tz hm bk ⟨40,t++[41],rfl,.inl rfl⟩ (λv pd a ax=>aaL hm aH eo bk ad ax)).1
 ·subst h;have c:=(eJ.Tz hm bk (p:=[36,40]++t++[41]) ⟨40,t++[41],rfl,.inl rfl⟩ (λv pd a ax=>aaL hm aH eo bk ad ax)).2;have e:=eJ.double (m:=m+1) (by omega) hD (tA.app (tA.byte (m:=m+1) (by omega) hD (b:=120) (by decide)) c);grind
 ·subst h;exact(eJ.Tz hm bk ⟨123,[120,58,45]++v++[125],rfl,.inr rfl⟩ (λu pd hu ax=>aoI hm bk (hW v ad) ax)).1
end
structure hC(v cL:aa):Prop where
 ne:v≠[]
 pM:c1 v=true
 rD:bu v=some cL
 M9:au cL= .line\/∃o,au cL= .op o/\eV o=false/\o≠[40]
theorem hC.idem{v a:aa}(h:hC v a):bu a=some a:=lD _ _ _ (cX _) h.rD
theorem hC.aoJ{v c:aa}(h:hC v c):eV (br (c.dropWhile cb))=false:=by
 rcases h.M9 with a|⟨o,a,ad,d⟩
 ·obtain⟨t,rfl⟩:=vB a;rfl
 ·have e:=(ic a).1;have bd:=(ic a).2.2.2;cases c with
  |nil=>simp_all
  |cons b t=>
   have f:cb b=false:=by
    cases aH:cb b with
    |false=>rfl
    |true=>simp_all[Am,og]
   simp_all
theorem hC.je{v a:aa}(h:hC v a)(D:ak Unit)(pd:aq):dy D v pd= .ok false a pd:=uD h.rD h.aoJ
theorem hC.mA{v a:aa}(h:hC v a)(D:ak Unit)(pd:aq):gO D v pd= .ok () a pd:=by unfold gO;rw[cF,aY (h.je D pd)];rfl
theorem hC.simple{v b:aa}(h:hC v b)(D:ak Unit)(pd:aq):hv true D v pd= .ok () b pd:=by
 unfold hv;rw[cF,aY (h.je D pd)];simp only[eC,cm];rw[aY (cA h.idem)];rcases h.M9 with a|⟨o,a,ad,c⟩
 ·rw[a];rfl
 ·rw[a];simp only;rw[aW (λd=>c d.2)];rfl
def xr(w:aa):Prop:=∃b t,w=b::t/\f_ b=false/\b≠10/\b≠92/\b≠35/\oN b=false/\cb b=false
theorem M_{d:Nat}{w:aa}(h:hS d w):xr w:=by
 have hk:∀w∈oV,xr w:=by intro w a;simp only[oV,FR,hp,tD,kU,qn,tE] at a;rcases a with rfl|rfl|rfl|rfl|rfl|rfl|rfl|rfl|rfl|rfl|rfl|rfl|rfl|rfl|rfl<;>exact⟨_,_,rfl,by decide,by decide,by decide,by decide,by decide,by decide⟩
 cases d with
 |zero=>exact hk w h
 |succ d=>
  rcases h with h|⟨t,_,h|h⟩|⟨v,_,h⟩
  ·grind
  all_goals (subst h;exact⟨_,_,rfl,by decide,by decide,by decide,by decide,by decide,by decide⟩)
theorem xr.tok{w u:aa}(h:xr w):bu (w++u)=some (w++u)/\(∃x p,au (w++u)= .word x p)/\eV (br ((w++u).dropWhile cb))=false:=by
 obtain⟨b,t,rfl,ad,e,a,c,d,f⟩:=h;refine⟨kB ad c a,?_,?_⟩
 ·show∃x p,au (b::(t++u))= .word x p
  have:au (b::(t++u))=if b=10 then Tok.line else if br (b::(t++u))≠[] then .op (br (b::(t++u))) else .word (c4 (b::(t++u))).1 (c4 (b::(t++u))).2:=rfl
  simp_all[og]
 ·have:(b::t++u).dropWhile cb=b::t++u:=by simp_all
  rw[this,hp,og d];decide
section
variable{X:fk}{m:Nat}(hm:X.c0<=m){D:ak Unit}(hD:ai X.E m D)
include hm hD
theorem aoK{w u:aa}{pd:aq}(a:xr w)(c:eJ X D w)(hu:c1 u=true)(d:u≠[])(ax:dx X pd (w++u)):jy X (hv true D (32::(w++u)) pd) (hv true D u pd):=by
 obtain⟨e,⟨x,p,f⟩,g⟩:=a.tok (u:=u);have h:bu (32::(w++u))=some (w++u):=by grind[kP]
 unfold hv;have i:cP D u pd= .ok () u pd:=by
  rw[Tw,cF];cases u with
  |nil=>grind
  |cons b t=>show cN _ _ (if c1 (b::t)=true then _ else _)=_;rw[bm hu];rfl
 have ad:=(c u pd d ax).1;rw[i] at ad;refine jy.rep hm (λs=>?_) (s:=()) (s':=()) (v:=u) (by grind) ?_
 ·refine ai.ae X.ok (ai.je X.ok hD) λb=>ai.ite (ai.ret _) (ai.fJ X.ok λt=>?_);cases t with
  |word _ _=>exact ai.ae X.ok (ai.cP X.ok hD) λ_=>ai.ret _
  |op o=>simp[ai.ite,ai.bK,ai.ret]
  |line=>simp[ai.ret]
  |eof=>simp[ai.ret]
 ·rw[aY (uD h g)];simp only[eC,cm];rw[aY (cA e),f];simp only;rcases ad with ad|ad
  ·left;rw[aY ad];rfl
  ·right;exact ad.inl
end
theorem Ja{D:ak Unit}{u:aa}{pd:aq}(hu:c1 u=true)(a:u≠[]):cP D u pd= .ok () u pd:=by
 rw[Tw,cF];cases u with
 |nil=>grind
 |cons b t=>show cN _ _ (if c1 (b::t)=true then _ else _)=_;rw[bm hu];rfl
def FV(D:ak Unit):Unit->ak (Unit⊕Unit):=λ_=>ae (dy D) λb=>if b then aU (.inl ()) else ae (bP []) λt=>match t with
 | .word _ _=>ae (cP D) λ_=>aU (.inl ())
 | .op o=>if true/\o=[40] then bK else aU (.inr ())
 |_=>aU (.inr ())
theorem aaP{b:UInt8}{t:aa}(h:oN b=false):br (62::b::t)=[62]:=by simp only[oN,Je,Nu,ne_eq] at h;simp_all[xA,br,la]
theorem oq.ae{X:fk}{n:Nat}(ax:X.c0<=n){α β:Type}{f:ak α}{k:α->ak β}{r:aa}{pd:aq}(h:oq X (f r pd))(hk:∀a,ai X.E n (k a)):oq X (Go.Eng.ae f k r pd):=by
 unfold Go.Eng.ae;cases b:f r pd with
 |ok a r' c=>
  rw[b] at h;have:=hk a r' c (lh.H.M7 h ax);simp only;cases d:k a r' c with
  |ok _ _ _=>rw[d] at this;exact lh.H.down X.ok h this.1 this.2
  |more _ _ _=>trivial
  |bad _=>trivial
  |deep _=>rw[d] at this;exact this
 |more _ _ _=>trivial
 |bad _=>trivial
 |deep _=>rw[b] at h;exact h
section
variable{X:fk}{m:Nat}(hm:X.c0<=m){D:ak Unit}(hD:ai X.E m D)
include hm hD
theorem aaQ{W:aa->Prop}(hW:∀w,W w->xr w/\eJ X D w){u:aa}(hu:c1 u=true)(c:u≠[]):∀{ws:bs}{pd:aq},(∀w∈ws,W w)->dx X pd (jN ws++u)->jy X (hv true D (jN ws++u) pd) (hv true D u pd)
 |[],pd,_,_=>jy.refl _
 |w::t,pd,h,ax=>by
  have he:jN (w::t)++u=32::(w++(jN t++u)):=by simp[jN]
  rw[he] at ax⊢;have b:dx X pd (w++(jN t++u)):=ax.sfx (eb _ _);have d:c1 (jN t++u)=true:=by
   cases t with
   |nil=>grind[jN]
   |cons a t=>rfl
  obtain⟨ad,e⟩:=hW w (h w (by simp));exact(aoK hm hD ad e d (by simp_all) b).trans (aaQ hW hu c (ws:=t) (λw f=>h w (by grind)) (b.sfx (List.suffix_append _ _)))
theorem aoL{W:aa->Prop}(hW:∀w,W w->xr w/\eJ X D w){r v c:aa}{pd:aq}(j:r=[]\/r=[32,50,62,38,49]\/∃w,W w/\r=[32,62]++w)(a:hC v c)(ax:dx X pd (r++v)):bV X (λq=>q=c) pd (hv true D (r++v) pd):=by
 have f:bV X (λq=>q=c) pd (hv true D v pd):=by rw[a.simple];exact .inl ⟨rfl,rfl⟩
 have d:∀s,ai X.E m (FV D s):=λs=>by
  unfold FV;refine ai.ae X.ok (ai.je X.ok hD) λb=>ai.ite (ai.ret _) (ai.fJ X.ok λt=>?_);cases t with
  |word _ _=>exact ai.ae X.ok (ai.cP X.ok hD) λ_=>ai.ret _
  |op o=>simp[ai.ite,ai.bK,ai.ret]
  |line=>simp[ai.ret]
  |eof=>simp[ai.ret]
 have g:∀{u:aa},v.length<u.length->(dy D u pd= .ok true v pd\/oq X (dy D u pd))->jy X (hv true D u pd) (hv true D v pd):=by
  intro u hl h;show jy X (ca (FV D) () u pd) (ca (FV D) () v pd);refine jy.rep hm d hl ?_;rcases h with h|h
  ·left;unfold FV;rw[aY h];rfl
  ·right;unfold FV;refine oq.ae hm h λb=>ai.ite (ai.ret _) (ai.fJ X.ok λt=>?_);cases t with
   |word _ _=>exact ai.ae X.ok (ai.cP X.ok hD) λ_=>ai.ret _
   |op o=>simp[ai.ite,ai.bK,ai.ret]
   |line=>simp[ai.ret]
   |eof=>simp[ai.ret]
 rcases j with rfl|rfl|⟨w,k,rfl⟩
 ·grind
 ·refine(g (u:=32::50::62::38::49::v) (by grind) (.inl ?_)).I9 f;have ad:fF (32::50::62::38::49::v) pd= .ok (some [62,38]) (49::v) pd:=by unfold fF;rw[kP,kB (by decide) (by decide) (by decide)];rfl
  unfold dy;rw[aY ad];simp only;rw[aW (by decide),aW (by decide)];have e:jH D [120] (49::v) pd= .ok () v pd:=by
   unfold jH;rw[aY (cA (kB (by decide) (by decide) (by decide)))]
   have:∃x p,au (49::v)= .word x p:=by
    have:au (49::v)=if(49:UInt8)=10 then Tok.line else if br (49::v)≠[] then .op (br (49::v)) else .word (c4 (49::v)).1 (c4 (49::v)).2:=rfl
    rw[this,aW (by decide),og (by decide)];simp
   obtain⟨x,p,l⟩:=this;rw[l];simp only;rw[Ck (yZ (by decide) (by decide) (by decide)) (XB (by decide)) (by simp),Ja a.pM a.ne]
  rw[aY e];rfl
 ·obtain⟨ad,e⟩:=hW w k;refine(g (u:=32::62::(w++v)) (by grind) ?_).I9 f;obtain⟨n,⟨x,p,y⟩,E⟩:=ad.tok (u:=v);have z:fF (32::62::(w++v)) pd= .ok (some [62]) (w++v) pd:=by
   unfold fF;rw[kP,kB (by decide) (by decide) (by decide)];obtain⟨b,t,rfl,_,_,_,_,bw,_⟩:=ad;have A:br (62::(b::t++v))=[62]:=aaP bw;have aH:(62::(b::t++v):aa).dropWhile cb=62::(b::t++v):=by rfl
   simp only;rw[aH,A,bm (by decide)];rfl
  have B:dx X pd (w++v):=ax.sfx ⟨[32,62],rfl⟩;have i:=(e v pd a.ne B).1;rw[Ja a.pM a.ne] at i;have bw:jH D [120] (w++v) pd= .ok () v pd\/oq X (jH D [120] (w++v) pd):=by unfold jH;rw[aY (cA n),y];exact i
  have C:dy D (32::62::(w++v)) pd=ae (jH D [120]) (λ_=>aU true) (w++v) pd:=by unfold dy;rw[aY z];simp
  rw[C];rcases bw with bw|bw
  ·left;rw[aY bw];rfl
  grind[oq.ae,ai.ret]
end
def aaR(h:aa):Prop:=h≠[]/\h.all rp=true/\rk h=false/\qK h=false/\(∃b t,h=b::t/\f_ b=false/\b≠92/\b≠35/\cb b=false/\oN b=false)
theorem aoM:∀h∈sz,aaR h:=by intro h a;simp only[sz,kU,qn,tE] at a;rcases a with rfl|rfl|rfl|rfl<;>exact⟨by decide,by decide,by decide,by decide,_,_,rfl,by decide,by decide,by decide,by decide,by decide⟩
theorem aoN{ws:bs}{r v:aa}(b:r=[]\/∃t,r=32::t)(c:c1 v=true):c1 (jN ws++(r++v))=true:=by
 cases ws with
 |nil=>
  rcases b with rfl|⟨t,rfl⟩
  ·grind[jN]
  ·rfl
 |cons a t=>rfl
def vX(W a:aa->Prop)(s:aa):Prop:=∃h ws r,aaR h/\(∀w∈ws,W w)/\s=h++jN ws++r/\(r=[]\/r=[32,50,62,38,49]\/∃w,a w/\r=[32,62]++w)
theorem rB.q{W a:aa->Prop}{s:aa}(h:rB W a s):vX W a s:=by obtain⟨h,ws,r,ad,b⟩:=h;exact⟨h,ws,r,aoM h ad,b⟩
theorem vX.one{W a:aa->Prop}{b:UInt8}(h:b=97\/b=98\/b=99):vX W a [b]:=by refine⟨[b],[],[],?_,by simp,by rfl,.inl rfl⟩;rcases h with rfl|rfl|rfl<;>exact⟨by decide,by decide,by decide,by decide,_,_,rfl,by decide,by decide,by decide,by decide,by decide⟩
section
variable{X:fk}{m:Nat}(hm:X.c0<=m){D:ak Unit}(hD:ai X.E m D)
include hm hD
theorem aoO(F:hP D){W n:aa->Prop}(hW:∀w,W w->xr w/\eJ X D w)(y:∀w,n w->xr w/\eJ X D w){s v g:aa}{pd:aq}{lo:Option dS}(G:vX W n s)(e:hC v g)(ax:dx X pd (s++v)):bV X (λq=>q=g) pd (gk true lo D (s++v) pd):=by
 obtain⟨h,ws,r,ad,z,rfl,A⟩:=G;obtain⟨H,a2,a3,P,b,t,I,Q,R,S,T,J⟩:=ad
 have B:r=[]\/∃t,r=32::t:=by grind
 have he:h++jN ws++r++v=h++(jN ws++(r++v)):=by simp
 rw[he] at ax⊢;have hu:=aoN (ws:=ws) B e.pM;have U:bV X (λq=>q=g) pd (hv true D (jN ws++(r++v)) pd):=by
  have i:c1 (r++v)=true:=by
   rcases B with rfl|⟨t,rfl⟩
   ·exact e.pM
   ·rfl
  have C:dx X pd (jN ws++(r++v)):=ax.sfx (gQ _ _);exact(aaQ hm hD hW i (by simp[e.ne]) z C).I9 (aoL hm hD y A e (C.sfx (gQ _ _)))
 have K:∀a,bu (jN ws++(r++v))=some a->au a≠ .op [40]:=by
  intro a j;cases ws with
  |cons w ws=>
   have V:jN (w::ws)++(r++v)=32::(w++(jN ws++(r++v))):=by simp[jN]
   obtain⟨Y,⟨x,p,Z⟩,_⟩:=(hW w (z w (by simp))).1.tok (u:=jN ws++(r++v));grind[kP]
  |nil=>
   rcases A with rfl|rfl|⟨w,k,rfl⟩
   ·have d:bu v=some a:=j;rw[e.rD] at d;cases d;rcases e.M9 with L|⟨o,L,_,aQ⟩
    ·grind
    grind
   ·have d:bu (32::50::62::38::49::v)=some a:=j;rw[kP,kB (by decide) (by decide) (by decide)] at d;cases d;intro l;have:=(mG (by simp)).1 l;rw[og (by decide)] at this;grind
   ·have d:bu (32::62::(w++v))=some a:=j;rw[kP,kB (by decide) (by decide) (by decide)] at d;cases d;intro l;have dh:=(mG (by simp)).1 l;obtain⟨c,t,rfl,_,_,_,_,fx,_⟩:=(y w k).1;grind[aaP]
 generalize gF:jN ws++(r++v)=u at*;have k1:u≠[]:=by rw[<-gF];simp[e.ne]
 have M:=ta H a2 hu;have E:bu (h++u)=some (h++u):=by grind[kB]
 have N:eV (br ((h++u).dropWhile cb))=false:=by
  rw[I];have:(b::t++u).dropWhile cb=b::t++u:=by simp_all
  rw[this,hp,og J];decide
 unfold gk;rw[aY (cA E),M,aW (by simp),aW (by grind[hs])];simp only[Jf];rw[aW (by grind),aY (uD E N)];simp only[Bool.false_eq_true,if_false];have k:cP D (h++u) pd= .ok () u pd:=by grind[Rp,Ja]
 rw[aY k];by_cases O:lZ h=true
 ·rw[bm O];cases f:bu u with
  |none=>rw[dc (op:=[]) (nd:=(cO [] pd []).1) (ds:=(cO [] pd []).2) (iw f)];trivial
  |some a=>rw[aY (cA f)];rw[aW (K a f)];have m:=lD _ _ _ (cX _) f;rw[<-am_ f m (dT f).length_le F];omega
 grind
end
theorem aoR{E:lh}(ok:E.mM){n:Nat}(b:Bool):ai E n (h2 b):=ai.fJ ok λt=>ai.ite (ai.ae ok (ai.nl ok) λ_=>ai.ret _) (ai.ret _)
section
variable{X:fk}{m:Nat}(hm:X.c0<=m)
include hm
theorem aaS{x:aa}{pd:aq}{b:Bool}{u:aa}(hu:bu u=some (10::x))(c:bu x=some x)(d:au x≠ .line)(ax:dx X pd (10::x)):bV X (λr=>r=x) pd (ca h2 b u pd):=by
 have ad:=aow ax;have h:=(dT hu).length_le;have e:h2 b u pd= .ok (.inl true) x pd\/oq X (h2 b u pd):=by
  rw[ux hu];unfold Go.Eng.ae;cases aC:jb (10::x) pd with
  |ok a r' i=>
   rw[aC] at ad;rcases ad with⟨rfl,rfl⟩|ad
   ·exact .inl rfl
   ·exact .inr ad
  |more _ _ _=>right;trivial
  |bad _=>right;trivial
  |deep _=>rw[aC] at ad;exact ad.elim
 have g:=jy.rep hm (f:=h2) (λs=>aoR X.ok s) (s:=b) (s':=true) (r:=u) (v:=x) (pd:=pd) (by grind) e;refine g.I9 ?_;rw[cF,rm c d];exact .inl ⟨rfl,rfl⟩
theorem y2{j x:aa}{pd:aq}(b:j=[32]\/j=[10]\/j=[32,35,32,114,10])(c:bu x=some x)(a:au x≠ .line)(ax:dx X pd (j++x)):bV X (λr=>r=x) pd (cS (j++x) pd):=by
 rw[si];rcases b with rfl|rfl|rfl
 ·have:bu ([32]++x)=some x:=by grind[kP]
  rw[cF,rm this a];exact .inl ⟨rfl,rfl⟩
 ·grind[aaS,nM,f_]
 ·have:bu ([32,35,32,114,10]++x)=some (10::x):=by simp[nM,f_,k_]
  exact aaS hm this c a (ax.sfx ⟨[32,35,32,114],rfl⟩)
end
theorem Nb{j:aa}(h:j∈jx):j=[10]\/∃o a,(a=[32]\/a=[10]\/a=[32,35,32,114,10])/\(o=[38,38]\/o=[124,124]\/o=[124]\/o=[59]\/o=[38])/\c1 j=true/\(∀x,bu (j++x)=some (o++(a++x))/\au (o++(a++x))= .op o)/\(o++a).length<=j.length:=by
 have M9:∀{b:UInt8}{t o:aa},b≠10->br (b::t)=o->o≠[]->au (b::t)= .op o:=by
  intro b t o c d ax;have:au (b::t)=if b=10 then Tok.line else if br (b::t)≠[] then .op (br (b::t)) else .word (c4 (b::t)).1 (c4 (b::t)).2:=rfl
  grind
 simp only[jx,kU,qn,tE] at h;rcases h with rfl|rfl|rfl|rfl|rfl|rfl|rfl|rfl
 ·refine .inr ⟨[38,38],[32],by simp,by simp,rfl,λx=>⟨?_,?_⟩,by decide⟩
  ·show bu (32::38::38::32::x)=_;rw[kP,kB (by decide) (by decide) (by decide)];rfl
  rfl
 ·refine .inr ⟨[124,124],[32],by simp,by simp,rfl,λx=>⟨?_,?_⟩,by decide⟩
  ·show bu (32::124::124::32::x)=_;rw[kP,kB (by decide) (by decide) (by decide)];rfl
  rfl
 ·refine .inr ⟨[124],[32],by simp,by simp,rfl,λx=>⟨?_,?_⟩,by decide⟩
  ·show bu (32::124::32::x)=_;rw[kP,kB (by decide) (by decide) (by decide)];rfl
  rfl
 ·refine .inr ⟨[59],[32],by simp,by simp,rfl,λx=>⟨?_,?_⟩,by decide⟩
  ·show bu (59::32::x)=_;rw[kB (by decide) (by decide) (by decide)];rfl
  rfl
 ·refine .inr ⟨[38],[32],by simp,by simp,rfl,λx=>⟨?_,?_⟩,by decide⟩
  ·show bu (32::38::32::x)=_;rw[kP,kB (by decide) (by decide) (by decide)];rfl
  rfl
 ·simp
 ·refine .inr ⟨[124],[10],by simp,by simp,rfl,λx=>⟨?_,?_⟩,by decide⟩
  ·show bu (32::124::10::x)=_;rw[kP,kB (by decide) (by decide) (by decide)];rfl
  rfl
 ·refine .inr ⟨[59],[32,35,32,114,10],by simp,by simp,rfl,λx=>⟨?_,?_⟩,by decide⟩
  ·show bu (59::32::35::32::114::10::x)=_;rw[kB (by decide) (by decide) (by decide)];rfl
  rfl
theorem aoS{j x:aa}(h:j∈jx):∃c,hC (j++x) c:=by
 rcases Nb h with rfl|⟨o,e,ad,d,f,a,g⟩
 ·refine⟨10::x,by simp,rfl,by simp[nM,f_],.inl rfl⟩
 ·refine⟨_,?_,?_,(a x).1,.inr ⟨o,(a x).2,?_,?_⟩⟩
  ·grind
  ·cases j with
   |nil=>grind
   |cons b t=>revert h;intro h;simp only[jx,kU,qn,tE] at h;rcases h with h|h|h|h|h|h|h|h<;>cases h<;>first|rfl|(show(f_ _||_||br _ !=[])=true;simp[br,la,xv,List.isPrefixOf])
  ·rcases d with rfl|rfl|rfl|rfl|rfl<;>decide
  grind
theorem bV.aaT{X:fk}{n:Nat}(ax:X.c0<=n){σ α:Type}{f:σ->ak (σ⊕α)}(hf:∀s,ai X.E n (f s)){b P:aa->Prop}{s:σ}{r:aa}{pd:aq}(h:bV X b pd (f s r pd))
  (hl:∀s' r1,f s r pd= .ok (.inl s') r1 pd->b r1->r1.length<r.length/\bV X P pd (ca f s' r1 pd)) (c:∀a r1,f s r pd= .ok (.inr a) r1 pd->b r1->P r1):bV X P pd (ca f s r pd):=by
 rw[cF];cases hm:f s r pd with
 |ok x r1 d=>
  rw[hm] at h;cases x with
  |inl s'=>
   show bV X P pd (if r1.length<r.length then ca f s' r1 d else .bad r1);rcases h with⟨ad,rfl⟩|ad
   ·grind
   ·split
    ·exact bV.Tv ax (ai.rep X.ok hf s') ad
    ·trivial
  |inr a=>
   rcases h with⟨ad,rfl⟩|ad
   ·exact .inl ⟨c a r1 hm ad,rfl⟩
   ·exact .inr ad
 |more _ _ _=>trivial
 |bad _=>trivial
 |deep _=>rw[hm] at h;exact h
structure y3(X:fk)(da:ak Unit)(C:aa->Prop):Prop where
 run:∀{c v cL:aa}{pd:aq},C c->hC v cL->dx X pd (c++v)->bV X (λq=>q=cL) pd (da (c++v) pd)
 head:∀{c:aa}(x:aa),C c->bu (c++x)=some (c++x)/\au (c++x)≠ .line/\au (c++x)≠ .eof/\cE (au (c++x)) [33]=false/\c≠[]
def TA(p:Tok->Bool)(l:List (aa×aa))(v:aa)(q:aa):Prop:=∃fP,fP<:+l/\bu (cW fP++v)=some q/\p (au q)=false
theorem aaU{C:aa->Prop}{l:List (aa×aa)}(h:∀p∈l,p.1∈jx/\C p.2){v a:aa}(b:hC v a):∃c,hC (cW l++v) c:=by
 cases l with
 |nil=>exact⟨a,b⟩
 |cons p l=>grind[aoS,cW]
theorem Nc{E:lh}(ok:E.mM){n:Nat}{da:ak Unit}(aG:ai E n da)(p:Tok->Bool)(w:Nat)(s:Unit):ai E n ((λ(_:Unit)=>ae (bP []) λt=>if p t=true then ae (bZ w) λ_=>ae (cS.aM [120]) λ_=>ae da λ_=>aU (.inl ()) else aU (.inr ()):Unit->ak (Unit⊕Unit)) s):=
 ai.fJ ok λt=>ai.ite (ai.ae ok (ai.dg ok _) λ_=>ai.ae ok ((ai.lines ok).aM _) λ_=>ai.ae ok aG λ_=>ai.ret _) (ai.ret _)
theorem Nd{p:Tok->Bool}{w:Nat}{da:ak Unit}{q:aa}{pd:aq}(a:bu q=some q)(aC:p (au q)=false):qk p w da q pd= .ok () q pd:=by unfold qk;rw[cF,aY (cA a),aW (by grind)];rfl
section
variable{X:fk}{m:Nat}(hm:X.c0<=m){da:ak Unit}(kb:ai X.E m da){C:aa->Prop}(eo:y3 X da C)
include hm kb eo
theorem aaV{p:Tok->Bool}{w:Nat}(aC:∀t,p t=true->∃o,t= .op o/\o.length=w/\0<w){v n:aa}(e:hC v n)(k:p (au n)=false):∀(l:List (aa×aa))(q:aa)(pd:aq),(∀x∈l,x.1∈jx/\C x.2)->bu (cW l++v)=some q->dx X pd q->bV X (TA p l v) pd (qk p w da q pd)
 |[],q,pd,_,d,ax=>by have s:bu v=some q:=d;rw[e.rD] at s;cases s;rw[Nd e.idem k];exact .inl ⟨⟨[],List.suffix_rfl,e.rD,k⟩,rfl⟩
 |(j,c)::l,q,pd,h,d,ax=>by
  have m:=lD _ _ _ (Nat.le_refl _) d;cases f:p (au q) with
  |false=>rw[Nd m f];exact .inl ⟨⟨(j,c)::l,List.suffix_rfl,d,f⟩,rfl⟩
  |true=>
   obtain⟨o,u,N,D⟩:=aC _ f;obtain⟨E,aG⟩:=h (j,c) (by simp);have he:cW ((j,c)::l)++v=j++(c++(cW l++v)):=by simp[cW]
   rw[he] at d;rcases Nb E with rfl|⟨O,i,ad,P,Q,F,R⟩
   ·have:bu ([10]++(c++(cW l++v)))=some (10::(c++(cW l++v))):=by simp[nM,f_]
    simp_all[au]
   ·obtain⟨G,H⟩:=F (c++(cW l++v));rw[G] at d;cases d;rw[H] at u;cases u;obtain⟨y,hu⟩:=aaU (l:=l) (λx I=>h x (by grind)) e;obtain⟨e5,J,S,T,U⟩:=eo.head (cW l++v) aG;have z:dx X pd (i++(c++(cW l++v))):=ax.sfx (gQ _ _);have A:dx X pd (c++(cW l++v)):=z.sfx (gQ _ _);have K:dx X pd y:=(A.sfx (gQ _ _)).sfx (dT hu.rD);unfold qk;have L:bV X (λr=>r=y) pd ((ae (bP []) λt=>if p t=true then ae (bZ w) λ_=>ae (cS.aM [120]) λ_=>ae da λ_=>(aU (.inl ()):ak (Unit⊕Unit)) else aU (.inr ())) (o++(i++(c++(cW l++v)))) pd):=by rw[aY (cA m),bm f];rw[aY (show bZ w (o++(i++(c++(cW l++v)))) pd= .ok () (i++(c++(cW l++v))) pd from by grind[bZ])];refine bV.ae hm (y2 hm ad e5 J z).aM (λa r' _ g=>?_) (λa=>ai.ae X.ok kb λ_=>ai.ret _);subst g;refine bV.ae hm (eo.run aG hu A) (λa r' _ g=>?_) (λa=>ai.ret _);exact .inl ⟨g,rfl⟩
    refine bV.aaT hm (Nc X.ok kb p w) L (λs' r1 b B=>?_) (λa r1 b B=>?_)
    ·subst B;refine⟨?_,?_⟩
     ·have V:=(dT hu.rD).length_le;grind
     ·have:=aaV aC e k l r1 pd (λx I=>h x (by grind)) hu.rD K;exact this.imp λr g=>by obtain⟨fP,hl,M⟩:=g;exact⟨fP,hl.trans (eb _ _),M⟩
    ·
     exfalso;rw[aY (cA m),bm f] at b;obtain⟨_,W,Y,_,b⟩:=b0 b;obtain⟨_,Z,b3,_,b⟩:=b0 b;obtain⟨_,bX,g9,_,b⟩:=b0 b;cases b
end
theorem aoT(t:Tok)(h:pL t=true):∃o,t= .op o/\o.length=1/\0<1:=⟨_,Nv h,rfl,by decide⟩
section
variable{X:fk}{m:Nat}(hm:X.c0<=m){da:ak Unit}(kb:ai X.E m da){C:aa->Prop}(eo:y3 X da C)
include hm kb eo
theorem aaW{c v b:aa}{l:List (aa×aa)}{pd:aq}(aG:C c)(h:∀x∈l,x.1∈jx/\C x.2)(d:hC v b)(e:pL (au b)=false)(ax:dx X pd (c++(cW l++v))):bV X (TA pL l v) pd (fi da (c++(cW l++v)) pd):=by obtain⟨e5,k,m,f,n⟩:=eo.head (cW l++v) aG;obtain⟨g,hu⟩:=aaU (l:=l) h d;have i:dx X pd g:=(ax.sfx (gQ _ _)).sfx (dT hu.rD);rw[Tk,aY (cA e5),f];simp only[eC,cm];rw[aY (show aU () (c++(cW l++v)) pd= .ok () (c++(cW l++v)) pd from rfl)];refine bV.ae hm (eo.run aG hu ax) (λa r' _ j=>?_) (λa=>ai.rep X.ok (λs=>Nc X.ok kb pL 1 s) ());subst j;exact aaV hm kb eo aoT d e l r' pd h hu.rD i
end
def aaX(l:List (aa×aa))(v:aa)(q:aa):Prop:=∃fP,fP<:+l/\bu (cW fP++v)=some q/\pL (au q)=false/\ql (au q)=false
section
variable{X:fk}{m:Nat}(hm:X.c0<=m){da:ak Unit}(kb:ai X.E m da){C:aa->Prop}(eo:y3 X da C)
include hm kb eo
theorem aoU{v p:aa}(k:hC v p)(A:pL (au p)=false)(B:ql (au p)=false):∀(N:Nat)(l:List (aa×aa))(q:aa)(pd:aq),l.length<=N->(∀x∈l,x.1∈jx/\C x.2)->bu (cW l++v)=some q->pL (au q)=false->dx X pd q->bV X (aaX l v) pd (qk ql 2 (fi da) q pd):=by
 have D:ai X.E m (fi da):=ai.pipe X.ok kb;intro N;induction N with
 |zero=>intro l q pd hl h d e ax;have:l=[]:=nw.1 (by omega);subst this;have E:bu v=some q:=d;rw[k.rD] at E;cases E;rw[Nd k.idem B];exact .inl ⟨⟨[],fK,k.rD,A,B⟩,rfl⟩
 |succ N K=>
  intro l q pd hl h d e ax;have s:=lD _ _ _ (cX _) d;cases f:ql (au q) with
  |false=>rw[Nd s f];exact .inl ⟨⟨l,fK,d,e,f⟩,rfl⟩
  |true=>
   cases l with
   |nil=>grind
   |cons y l=>
    obtain⟨j,c⟩:=y;obtain⟨L,aG⟩:=h (j,c) (by simp)
    have g:∀x∈l,x.1∈jx/\C x.2:=λx F=>h x (by grind)
    have he:cW ((j,c)::l)++v=j++(c++(cW l++v)):=by simp[cW]
    rw[he] at d
    obtain⟨o,G,Z⟩:∃o,au q= .op o/\o.length=2:=by unfold ql at f;grind
    rcases Nb L with rfl|⟨gH,n,ad,af,aw,M,bw⟩
    ·have:bu ([10]++(c++(cW l++v)))=some (10::(c++(cW l++v))):=by simp[nM,f_]
     simp_all[au]
    ·obtain⟨O,P⟩:=M (c++(cW l++v));rw[O] at d;cases d;rw[P] at G;cases G;obtain⟨e5,Q,kr,mW,hJ⟩:=eo.head (cW l++v) aG;have H:dx X pd (n++(c++(cW l++v))):=ax.sfx (gQ _ _);have I:dx X pd (c++(cW l++v)):=H.sfx (gQ _ _);unfold qk;have R:bV X (TA pL l v) pd ((ae (bP []) λt=>if ql t=true then ae (bZ 2) λ_=>ae (cS.aM [120]) λ_=>ae (fi da) λ_=>(aU (.inl ()):ak (Unit⊕Unit)) else aU (.inr ())) (o++(n++(c++(cW l++v)))) pd):=by rw[aY (cA s),bm f];rw[aY (show bZ 2 (o++(n++(c++(cW l++v)))) pd= .ok () (n++(c++(cW l++v))) pd from by grind[bZ])];refine bV.ae hm (y2 hm ad e5 Q H).aM (λa r' _ i=>?_) (λa=>ai.ae X.ok D λ_=>ai.ret _);subst i;refine bV.ae hm (aaW hm kb eo aG g k A I) (λa r' _ i=>?_) (λa=>ai.ret _);exact .inl ⟨i,rfl⟩
     refine bV.aaT hm (Nc X.ok D ql 2) R (λs' r1 b J=>?_) (λa r1 b J=>?_)
     ·obtain⟨fP,u,w,S⟩:=J;have T:cW fP++v<:+c++(cW l++v):=by obtain⟨z,rfl⟩:=u;grind[cW]
      refine⟨?_,?_⟩
      ·have cU:=(dT w).length_le;grind
      ·have U:dx X pd r1:=(I.sfx T).sfx (dT w);have:=K fP r1 pd (by grind) (λx F=>g x (u.subset F)) w S U;exact this.imp λr i=>by obtain⟨V,W,Y⟩:=i;exact⟨V,(W.trans u).trans (eb _ _),Y⟩
     ·exfalso;rw[aY (cA s),bm f] at b;obtain⟨_,az,dr,_,b⟩:=b0 b;obtain⟨_,ct,b3,_,b⟩:=b0 b;obtain⟨_,bX,g9,_,b⟩:=b0 b;cases b
end
section
variable{X:fk}{m:Nat}(hm:X.c0<=m){da:ak Unit}(kb:ai X.E m da){C:aa->Prop}(eo:y3 X da C)
include hm kb eo
theorem aoV{c v b:aa}{l:List (aa×aa)}{pd:aq}(aG:C c)(h:∀x∈l,x.1∈jx/\C x.2)(e:hC v b)(f:pL (au b)=false)(i:ql (au b)=false)(ax:dx X pd (c++(cW l++v))):bV X (aaX l v) pd (hj (fi da) (c++(cW l++v)) pd):=by
 have j:ai X.E m (fi da):=ai.pipe X.ok kb;rw[Tl];refine bV.ae hm (aaW hm kb eo aG h e f ax) (λa q _ k=>?_) (λa=>ai.rep X.ok (λs=>Nc X.ok j ql 2 s) ());obtain⟨fP,d,g,n⟩:=k;have o:cW fP++v<:+c++(cW l++v):=by obtain⟨z,rfl⟩:=d;grind[cW]
 have p:dx X pd q:=(ax.sfx o).sfx (dT g);have:=aoU hm kb eo e f i fP.length fP q pd (cX _) (λx t=>h x (d.subset t)) g n p;exact this.imp λr u=>by obtain⟨w,y,A⟩:=u;exact⟨w,y.trans d,A⟩
end
theorem Jb{E:lh}(ok:E.mM){n:Nat}{ao:ak Unit}(h:ai E n ao)(c:Ctx)(no:Bool)(s:Nat):ai E n (ed ao c no s):=by
 unfold ed;refine ai.fJ ok λt=>ai.ite (ai.ite (ai.ret _) (ai.b6 _)) (ai.ite (ai.ret _) (ai.ae ok h λ_=>ai.fJ ok λt=>?_));unfold hQ;cases t with
 |eof=>simp[ai.ret]
 |line=>grind[ai.ae,ai.lines,ai.ret]
 |word _ _=>exact ai.bK
 |op o=>exact ai.ite (ai.ae ok (ai.dg ok _) λ_=>ai.ae ok (ai.lines ok) λ_=>ai.ret _) (ai.ite (ai.ret _) ai.bK)
theorem bV.sB{X:fk}{n:Nat}(ax:X.c0<=n){σ α β:Type}{f:σ->ak (σ⊕α)}(hf:∀s,ai X.E n (f s)){i P:aa->Prop}{m:ak β}{k:β->ak (σ⊕α)}{r r0:aa}{pd:aq}(h:bV X i pd (m r pd))
  (hk:∀a r',m r pd= .ok a r' pd->i r'->bV X P pd (cN f r0 (k a r' pd))) (he:∀a,ai X.E n (k a)):bV X P pd (cN f r0 (Go.Eng.ae m k r pd)):=by
 unfold Go.Eng.ae;cases hm:m r pd with
 |ok a r' e=>
  rw[hm] at h;rcases h with⟨ad,rfl⟩|ad
  ·grind
  ·simp only;have c:oq X (k a r' e):=by
    have:=he a r' e (lh.H.M7 ad ax);cases d:k a r' e with
    |ok _ _ _=>rw[d] at this;exact lh.H.down X.ok ad this.1 this.2
    |more _ _ _=>trivial
    |bad _=>trivial
    |deep _=>rw[d] at this;exact this
   cases d:k a r' e with
   |ok x g j=>
    rw[d] at c;cases x with
    |inl s'=>
     show bV X P pd (if g.length<r0.length then ca f s' g j else .bad g);split
     ·exact bV.Tv ax (ai.rep X.ok hf s') c
     ·trivial
    |inr b=>exact .inr c
   |more _ _ _=>trivial
   |bad _=>trivial
   |deep _=>rw[d] at c;exact c
 |more _ _ _=>trivial
 |bad _=>trivial
 |deep _=>rw[hm] at h;exact h
section
variable{X:fk}{m:Nat}(hm:X.c0<=m){da:ak Unit}(kb:ai X.E m da){C:aa->Prop}(eo:y3 X da C)(ur:∀{c:aa}(x:aa)(k:Ctx),C c->dR k (au (c++x))=false)
include hm kb eo ur
theorem aa0{v g i:aa}{ctx:Ctx}{no:Bool}{pd:aq}(A:hC v g)(G:pL (au g)=false)(H:ql (au g)=false)
  (bn:∀k r0,g.length<r0.length->bV X (λr=>r=i) pd (cN (ed (hj (fi da)) ctx no) r0 (hQ ctx k (au g) g pd))) {l:List (aa×aa)} {c:aa} {k:Nat} (aG:C c) (h:∀x∈l,x.1∈jx/\C x.2) (ax:dx X pd (c++(cW l++v)))
  (qu:∀(j b:aa)(d:List (aa×aa)),(j,b)::d<:+l->∀(n:Nat),C b->dx X pd (b++(cW d++v))->bV X (λr=>r=i) pd (ca (ed (hj (fi da)) ctx no) n (b++(cW d++v)) pd)):bV X (λr=>r=i) pd (ca (ed (hj (fi da)) ctx no) k (c++(cW l++v)) pd):=by
 have e2:ai X.E m (hj (fi da)):=ai.pB X.ok (ai.pipe X.ok kb);obtain⟨e5,b,I,mW,J⟩:=eo.head (cW l++v) aG;rw[cF];have K:ed (hj (fi da)) ctx no k (c++(cW l++v)) pd=ae (hj (fi da)) (λ_=>ae (bP []) (hQ ctx k)) (c++(cW l++v)) pd:=by unfold ed;rw[aY (cA e5),aW I,aW (by grind)]
 rw[K]
 have p:∀k,ai X.E m (ae (bP []) (hQ ctx k)):=λk=>ai.fJ X.ok λt=>by
  unfold hQ;cases t with
  |eof=>simp[ai.ret]
  |line=>exact ai.ae X.ok (ai.lines X.ok) λ_=>ai.ret _
  |word _ _=>exact ai.bK
  |op o=>exact ai.ite (ai.ae X.ok (ai.dg X.ok _) λ_=>ai.ae X.ok (ai.lines X.ok) λ_=>ai.ret _) (ai.ite (ai.ret _) ai.bK)
 refine bV.sB hm (Jb X.ok e2 ctx no) (aoV hm kb eo aG h A G H ax) (λa q bJ L=>?_) (λ_=>p k);obtain⟨fP,s,e,M,N⟩:=L;have O:=lD _ _ _ (Nat.le_refl _) e;rw[aY (cA O)];have ml:=List.length_pos_iff.2 J;have P:cW fP++v<:+c++(cW l++v):=by obtain⟨z,rfl⟩:=s;grind[cW]
 have Q:(cW fP++v).length<=(cW l++v).length:=by obtain⟨z,rfl⟩:=s;simp[cW]
 have R:=(dT e).length_le;have S:q.length<(c++(cW l++v)).length:=by grind
 have u:dx X pd q:=(ax.sfx P).sfx (dT e);cases fP with
 |nil=>have T:bu v=some q:=e;rw[A.rD] at T;grind
 |cons y d=>
  obtain⟨j,b⟩:=y;obtain⟨U,V⟩:=h (j,b) (s.subset (by simp));have he:cW ((j,b)::d)++v=j++(b++(cW d++v)):=by simp[cW]
  rw[he] at e Q R;obtain⟨B,D,d3,d4,d5⟩:=eo.head (cW d++v) V
  have E:∀(r:aa),r=b++(cW d++v)->r.length<(c++(cW l++v)).length->dx X pd r->bV X (λr=>r=i) pd (cN (ed (hj (fi da)) ctx no) (c++(cW l++v)) (aU (.inl (k+1)) r pd)):=by rintro r rfl f Na;show bV X _ pd (if(b++(cW d++v)).length<(c++(cW l++v)).length then ca (ed (hj (fi da)) ctx no) (k+1) (b++(cW d++v)) pd else .bad _);grind
  rcases Nb U with rfl|⟨o,w,ad,af,aw,W,bw⟩
  ·have Y:bu ([10]++(b++(cW d++v)))=some (10::(b++(cW d++v))):=by simp[nM,f_]
   rw[Y] at e;cases e;have Z:au (10::(b++(cW d++v)))= .line:=rfl;rw[Z];unfold hQ;simp only;refine bV.sB hm (Jb X.ok e2 ctx no) (y2 hm (j:=[10]) (.inr (.inl rfl)) B D u) (λa r _ f=>?_) (λ_=>ai.ret _);refine E r f ?_ (by rw[f];exact u.sfx (eb _ _));rw[f];exact Nat.lt_trans (xz _) S
  ·obtain⟨cn,n⟩:=W (b++(cW d++v));rw[cn] at e;cases e;rw[n] at M N⊢;have aQ:o=[59]\/o=[38]:=by simp_all[ql,pL]
   unfold hQ;simp only;rw[bm aQ];have hw:o.length=1:=by grind
   rw[aY (show bZ 1 (o++(w++(b++(cW d++v)))) pd= .ok () (w++(b++(cW d++v))) pd from by grind[bZ])];have F:dx X pd (w++(b++(cW d++v))):=u.sfx (gQ _ _);refine bV.sB hm (Jb X.ok e2 ctx no) (y2 hm ad B D F) (λa r _ f=>?_) (λ_=>ai.ret _);refine E r f ?_ (by rw[f];exact F.sfx (gQ _ _));grind
theorem aa1{v a b:aa}{ctx:Ctx}{no:Bool}{pd:aq}(d:hC v a)(e:pL (au a)=false)(f:ql (au a)=false)
  (bn:∀k r0,a.length<r0.length->bV X (λr=>r=b) pd (cN (ed (hj (fi da)) ctx no) r0 (hQ ctx k (au a) a pd))):∀(N:Nat)(l:List (aa×aa))(c:aa)(k:Nat),l.length<=N->C c->(∀x∈l,x.1∈jx/\C x.2)->dx X pd (c++(cW l++v))->bV X (λr=>r=b) pd (ca (ed (hj (fi da)) ctx no) k (c++(cW l++v)) pd):=by
 have e2:ai X.E m (hj (fi da)):=ai.pB X.ok (ai.pipe X.ok kb);intro N;induction N with
 |zero=>
  intro l c k hl aG h ax;have:l=[]:=nw.1 (by omega);subst this
  exact aa0 hm kb eo ur d e f bn aG h ax (λj g i n=>by grind)
 |succ N o=>intro l c k hl aG h ax;refine aa0 hm kb eo ur d e f bn aG h ax (λj g i n p q s=>?_);grind
end
theorem aoX{X:fk}{ao:ak Unit}{ctx:Ctx}{no:Bool}{pd:aq}{a o:aa}(b:au a= .op o)(ad:o≠[59])(c:o≠[38])(he:dR ctx (.op o)=true)(k:Nat)(r0:aa):bV X (λr=>r=a) pd (cN (ed ao ctx no) r0 (hQ ctx k (au a) a pd)):=by rw[b];unfold hQ;simp only;rw[aW (by grind),if_pos he];exact .inl ⟨rfl,rfl⟩
theorem aoY{X:fk}{ao:ak Unit}{ctx:Ctx}{no:Bool}{pd:aq}{x:aa}{k:Nat}(a:bu x=some x)(bd:au x≠ .eof)(he:dR ctx (au x)=true):bV X (λr=>r=x) pd (ca (ed ao ctx no) (k+1) x pd):=by
 rw[cF];have:ed ao ctx no (k+1) x pd= .ok (.inr (k+1)) x pd:=by unfold ed;rw[aY (cA a),if_neg bd,if_pos (by grind)];rfl
 rw[this];exact .inl ⟨rfl,rfl⟩
section
variable{X:fk}{m:Nat}(hm:X.c0<=m){ao:ak Unit}(e2:ai X.E m ao)
include hm e2
theorem aa2{ctx:Ctx}{no:Bool}{pd:aq}{u x:aa}{k:Nat}{r0:aa}(hl:bV X (λr=>r=x) pd (cS u pd))(b:x.length<r0.length)(d:bu x=some x)(bd:au x≠ .eof)(he:dR ctx (au x)=true):bV X (λr=>r=x) pd (cN (ed ao ctx no) r0 (ae cS (λ_=>aU (.inl (k+1))) u pd)):=by refine bV.sB hm (Jb X.ok e2 ctx no) hl (λa r _ c=>?_) (λ_=>ai.ret _);subst c;show bV X _ pd (if r.length<r0.length then ca (ed ao ctx no) (k+1) r pd else .bad r);simp_all[aoY]
theorem aoZ{ctx:Ctx}{no:Bool}{pd:aq}{x:aa}(b:bu x=some x)(c:au x≠ .line)(bd:au x≠ .eof)(he:dR ctx (au x)=true)(ax:dx X pd (10::x))(k:Nat)(r0:aa)(a:(10::x).length<r0.length):bV X (λr=>r=x) pd (cN (ed ao ctx no) r0 (hQ ctx k (au (10::x)) (10::x) pd)):=by have d:au (10::x)= .line:=rfl;rw[d];unfold hQ;simp only;exact aa2 hm e2 (y2 hm (j:=[10]) (.inr (.inl rfl)) b c ax) (Nat.lt_trans (Nat.lt_succ_self _) a) b bd he
theorem ao0{ctx:Ctx}{no:Bool}{pd:aq}{y x:aa}(a:bu y=some x)(c:au x≠ .line)(bd:au x≠ .eof)(he:dR ctx (au x)=true)(d:au (59::y)= .op [59])(k:Nat)(r0:aa)(b:(59::y).length<r0.length):bV X (λr=>r=x) pd (cN (ed ao ctx no) r0 (hQ ctx k (au (59::y)) (59::y) pd)):=by have e:=lD _ _ _ (Nat.le_refl _) a;have hl:=(dT a).length_le;rw[d];unfold hQ;simp only;rw[if_pos (by simp),aY (show bZ 1 (59::y) pd= .ok () y pd from rfl)];refine aa2 hm e2 ?_ (by grind) e bd he;rw[sk a c];exact .inl ⟨rfl,rfl⟩
end
structure iV(X:fk)(ao:ak Unit)(ctx:Ctx)(no:Bool)(v cL eT:aa)(pd:aq):Prop where
 ce:hC v cL
 aa3:pL (au cL)=false
 aa4:ql (au cL)=false
 go:∀k r0,cL.length<r0.length->bV X (λr=>r=eT) pd (cN (ed ao ctx no) r0 (hQ ctx k (au cL) cL pd))
theorem hC.op{o:aa}{t:aa}(c:bu t=some t)(a:au t= .op o)(ad:eV o=false)(d:o≠[40]):hC t t:=by
 have e:=ic a;refine⟨?_,?_,c,.inr ⟨o,a,ad,d⟩⟩
 ·grind
 ·cases t with
  |nil=>rfl
  |cons b u=>show(f_ b||b==10||br (b::u)!=[])=true;grind
theorem hC.nl(x:aa):hC (10::x) (10::x):=⟨by simp,rfl,by simp[nM,f_],.inl rfl⟩
section
variable{X:fk}{m:Nat}(hm:X.c0<=m){da:ak Unit}(kb:ai X.E m da){C:aa->Prop}(eo:y3 X da C)(ur:∀{c:aa}(x:aa)(k:Ctx),C c->dR k (au (c++x))=false)
theorem iV.op{ao:ak Unit}{ctx:Ctx}{no:Bool}{pd:aq}{v o:aa}(c:bu v=some v)(a:au v= .op o)(he:dR ctx (.op o)=true):iV X ao ctx no v v v pd:=by
 have b:o=[41]\/o=[59,59]:=by cases ctx<;>simp[dR,cE] at he<;>first|grind|grind
 refine⟨hC.op c a ?_ ?_,?_,?_,λk r0 _=>aoX a ?_ ?_ he k r0⟩
 ·rcases b with rfl|rfl<;>decide
 ·grind
 ·rw[a];rcases b with rfl|rfl<;>decide
 ·rw[a];rcases b with rfl|rfl<;>decide
 ·grind
 grind
include hm in
theorem iV.nl{ao:ak Unit}(e2:ai X.E m ao){ctx:Ctx}{no:Bool}{pd:aq}{x:aa}(hx:bu x=some x)(ht:au x≠ .line)(bd:au x≠ .eof)(he:dR ctx (au x)=true)(ax:dx X pd (10::x)):iV X ao ctx no (10::x) (10::x) x pd:=
 ⟨hC.nl x,rfl,rfl,λk r0 hl=>aoZ hm e2 hx ht bd he ax k r0 hl⟩
include hm in
theorem iV.aa5{ao:ak Unit}(e2:ai X.E m ao){ctx:Ctx}{no:Bool}{pd:aq}{y x:aa}(bz:bu y=some x)(ht:au x≠ .line)(bd:au x≠ .eof)(he:dR ctx (au x)=true)(fo:au (59::y)= .op [59]):iV X ao ctx no (59::y) (59::y) x pd:=
 ⟨hC.op (kB (by decide) (by decide) (by decide)) fo (by decide) (by decide),by rw[fo];decide,by rw[fo];decide,λk r0 hl=>ao0 hm e2 bz ht bd he fo k r0 hl⟩
include hm kb eo ur
theorem ao1{pre t v e d:aa}{ctx:Ctx}{no:Bool}{pd:aq}(aC:pre=[]\/pre=[32]\/pre=[10])(f:uM C t)(bn:iV X (hj (fi da)) ctx no v e d pd)(ax:dx X pd (pre++(t++v))):bV X (λr=>r=d) pd (od (hj (fi da)) ctx no (pre++(t++v)) pd):=by
 obtain⟨c,l,ad,g,rfl⟩:=f;rw[uO] at ax⊢;obtain⟨e5,b,j,k,n⟩:=eo.head (cW l++v) ad;have h:dx X pd (c++(cW l++v)):=ax.sfx (gQ _ _);rw[uw];have e2:ai X.E m (hj (fi da)):=ai.pB X.ok (ai.pipe X.ok kb);refine bV.ae (P:=λr=>r=c++(cW l++v)) hm (bV.aM ?_) (λa r' _ i=>?_) (λ_=>ai.rep X.ok (λs=>Jb X.ok e2 ctx no s) 0)
 ·rcases aC with rfl|rfl|rfl
  ·rw[tD,sk e5 b];exact .inl ⟨rfl,rfl⟩
  ·exact y2 hm (.inl rfl) e5 b ax
  ·exact y2 hm (.inr (.inl rfl)) e5 b ax
 ·subst i;exact aa1 hm kb eo ur bn.ce bn.aa3 bn.aa4 bn.go l.length l c 0 (cX _) ad g h
end
def y4(c:aa):Prop:=∃b t,c=b::t/\f_ b=false/\b≠35/\b≠92/\b≠10/\b≠33/\(b=40\/oN b=false/\(([125,116,101,102,100]:aa).contains b=false\/∃k u,t=k::u/\(b=101/\k=99\/b=102/\k≠105)))
theorem ao2{r w:aa}(h:cE (au r) w=true):w<+:r:=by grind[Fz,EL,ZL]
theorem y4.facts{c:aa}(h:y4 c)(x:aa):(bu (c++x)=some (c++x)/\au (c++x)≠ .line/\au (c++x)≠ .eof/\cE (au (c++x)) [33]=false/\c≠[])/\∀k,dR k (au (c++x))=false:=by
 obtain⟨b,t,rfl,ad,f,g,i,o,e⟩:=h
 have bd:∀w:aa,w<+:b::t++x->w.head?≠none->w.head?=some b:=by
  intro w d ax;cases w with
  |nil=>grind
  |cons a w=>grind
 have hW:∀w∈([[33],[125],iQ,ib,hM,e8,gN,iH,ep]:bs),cE (au (b::t++x)) w=false:=by
  intro w d;cases bg:cE (au (b::t++x)) w with
  |false=>rfl
  |true=>
   exfalso;have aC:=ao2 bg;have j:=bd w aC ((by decide:∀w∈([[33],[125],iQ,ib,hM,e8,gN,iH,ep]:bs),w.head?≠none) w d);rcases e with rfl|⟨l,aG|⟨k,u,rfl,hk⟩⟩
   ·exact(by decide:∀w∈([[33],[125],iQ,ib,hM,e8,gN,iH,ep]:bs),w.head?≠some 40) w d j
   ·have:([33,125,116,101,102,100]:aa).contains b=true:=by
     have:∀w∈([[33],[125],iQ,ib,hM,e8,gN,iH,ep]:bs),∀b,w.head?=some b->([33,125,116,101,102,100]:aa).contains b=true:=by decide
     grind
    grind
   ·simp only[kU,qn,tE] at d;rcases hk with⟨rfl,rfl⟩|⟨rfl,hk⟩
    ·rcases d with rfl|rfl|rfl|rfl|rfl|rfl|rfl|rfl|rfl<;>simp[iQ,ib,hM,e8,gN,iH,ep] at aC
    ·rcases d with rfl|rfl|rfl|rfl|rfl|rfl|rfl|rfl|rfl<;>simp[iQ,ib,hM,e8,gN,iH,ep] at aC;grind
 have q:au (b::t++x)= .op [40]\/∃w p,au (b::t++x)= .word w p:=by
  rw[hp,CC,aW i];rcases e with rfl|⟨l,_⟩
  ·simp[XD]
  simp_all[og]
 refine⟨⟨kB ad f g,?_,?_,hW _ (by simp),by simp⟩,λk=>?_⟩
 ·grind
 ·grind
 ·have m:(au (b::t++x)== .eof)=false:=by grind
  have n:(au (b::t++x)== .op [41])=false:=by grind
  have r:(au (b::t++x)== .op [59,59])=false:=by grind
  unfold dR;cases k
  ·exact m
  ·exact n
  ·grind
  ·grind
  ·grind
  ·grind
  ·grind
  ·simp_all
  simp_all
def y5(d:Nat)(c:aa):Prop:=yY d c\/c=[97]\/c=[98]\/c=[99]
theorem y5.aH{d:Nat}{c:aa}(h:y5 d c):y4 c:=by
 have f:∀{W e:aa->Prop},rB W e c->y4 c:=by
  rintro W e ⟨x,ws,r,ad,a,rfl,n⟩;simp only[sz,kU,qn,tE] at ad;rcases ad with rfl|rfl|rfl|rfl
  ·exact⟨_,_,rfl,by decide,by decide,by decide,by decide,by decide,.inr ⟨by decide,.inl (by decide)⟩⟩
  ·exact⟨_,_,rfl,by decide,by decide,by decide,by decide,by decide,.inr ⟨by decide,.inr ⟨_,_,rfl,.inl ⟨rfl,rfl⟩⟩⟩⟩
  ·exact⟨_,_,rfl,by decide,by decide,by decide,by decide,by decide,.inr ⟨by decide,.inl (by decide)⟩⟩
  ·exact⟨_,_,rfl,by decide,by decide,by decide,by decide,by decide,.inr ⟨by decide,.inl (by decide)⟩⟩
 rcases h with h|rfl|rfl|rfl
 ·cases d with
  |zero=>exact f h
  |succ d=>
   rcases h with h|h
   ·grind
   ·have h0:∀{b:UInt8}{t:aa},f_ b=false/\b≠35/\b≠92/\b≠10/\b≠33/\oN b=false/\([125,116,101,102,100]:aa).contains b=false->y4 (b::t):=λ⟨g,a2,a3,i,j,l,m⟩=>⟨_,_,rfl,g,a2,a3,i,j,.inr ⟨l,.inl m⟩⟩
    have hf:∀{k:UInt8}{t:aa},k≠105->y4 (102::k::t):=λhk=>⟨_,_,rfl,by decide,by decide,by decide,by decide,by decide,.inr ⟨by decide,.inr ⟨_,_,rfl,.inr ⟨rfl,hk⟩⟩⟩⟩
    rcases h with⟨t,ad,rfl⟩|⟨t,ad,rfl⟩|⟨t,u,ad,a,rfl⟩|⟨t,u,ad,a,rfl⟩|⟨t,u,ad,a,rfl⟩|⟨w,u,ad,a,rfl⟩|rfl|⟨w,u,ad,a,rfl⟩|⟨t,ad,rfl⟩
    ·exact⟨40,_,rfl,by decide,by decide,by decide,by decide,by decide,.inl rfl⟩
    ·exact h0 (by decide)
    ·exact h0 (by decide)
    ·exact h0 (by decide)
    ·exact h0 (by decide)
    ·grind
    ·grind
    ·exact h0 (by decide)
    grind
 all_goals exact⟨_,_,rfl,by decide,by decide,by decide,by decide,by decide,.inr ⟨by decide,.inl (by decide)⟩⟩
structure sC(X:fk)(d n:Nat):Prop where
 ls:∀{pre t v cL eT:aa}{ctx:Ctx}{no:Bool}{pd:aq},(pre=[]\/pre=[32]\/pre=[10])->uM (y5 d) t->iV X (jf true n) ctx no v cL eT pd->dx X pd (pre++(t++v))->bV X (λr=>r=eT) pd ((aZ true n).ls ctx no (pre++(t++v)) pd)
 wd:∀w,hS d w->eJ X (aZ true n).dl w
 rd:∀{t v cL eT:aa}{ctx:Ctx}{no:Bool}{pd:aq}(k:Nat),uM (y5 d) t->iV X (jf true n) ctx no v cL eT pd->dx X pd (t++v)->bV X (λr=>r=eT) pd (ca (ed (jf true n) ctx no) k (t++v) pd)
theorem uM.imp{C a:aa->Prop}(h:∀c,C c->a c){t:aa}(d:uM C t):uM a t:=by obtain⟨c,l,ad,b,e⟩:=d;exact⟨c,l,h c ad,λp aC=>⟨(b p aC).1,h _ (b p aC).2⟩,e⟩
theorem ih.cc{d:Nat}{t:aa}(h:ih d t):uM (y5 d) t:=by rw[M5] at h;exact h.imp λc aG=> .inl aG
theorem Nf{d:Nat}{b:UInt8}(h:b=97\/b=98\/b=99):uM (y5 d) [b]:=by
 refine⟨[b],[],?_,by simp,by rfl⟩;rcases h with rfl|rfl|rfl
 ·exact .inr (.inl rfl)
 ·exact .inr (.inr (.inl rfl))
 ·exact .inr (.inr (.inr rfl))
theorem sC.aa7{X:fk}{d n:Nat}(h:sC X d n):Ty X n d:=by intro t v pd a ax;have:=h.ls (pre:=[]) (t:=t) (v:=41::v) (ctx:= .paren) (no:=true) (pd:=pd) (.inl rfl) a.cc (iV.op (y0 v) (y1 v) rfl) ax;grind
theorem ao3{l:dS}{o r:aa}{pd:aq}:hN l (.op o) r pd=ae ((l.ls .paren false).aM [41]) (λ_=>jI [41]) (r.drop 1) pd:=rfl
theorem AI{l:dS}{w r:aa}{p:Bool}{pd:aq}:hN l (.word w p) r pd=(if w=[123] then ae ((l.ls .qL false).aM [10,125]) λ_=>cV [125]
 else if w=m1 then qM l
 else if w=nj then pA l l.dl
 else if w=px then qN l l.dl
 else ae ((l.ls .py false).aM eh) λ_=>iI l eh:ak Unit) (r.drop w.length) pd:=rfl
def FY(l:dS):Unit->ak (Unit⊕Unit):=λ_=>ae ((l.ls .rl false).aM ([10]++iQ++[32,120,10]++e8)) λ_=>ae (cV iQ) λ_=>ae ((l.ls .p9 false).aM (10::e8)) λ_=>
    ae (bP []) λt=>if cE t ib then ae (cV ib) λ_=>aU (.inl ()) else
     if cE t hM then ae (cV hM) λ_=>ae ((l.ls .ke false).aM (10::e8)) λ_=>ae (cV e8) λ_=>aU (.inr ()) else ae (cV e8) λ_=>aU (.inr ())
theorem aa8(l:dS):qM l=ca (FY l) ():=rfl
theorem Ng{b:UInt8}{t:aa}(h:b≠59):au (59::b::t)= .op [59]:=by rw[mG (by simp)];simp[br,la,xv,List.isPrefixOf,h.symm]
theorem Jc{t:aa}:au (59::59::t)= .op [59,59]:=by rfl
theorem xt(t:aa):bu (59::t)=some (59::t):=kB (by decide) (by decide) (by decide)
theorem iV.AJ{X:fk}{n m:Nat}(hm:X.c0<=m)(e2:ai X.E m (jf true n)){ctx:Ctx}{no:Bool}{pd:aq}{w v:aa}(ax:w≠[])(a:w.all rp=true)(b:w.head?≠some 35)(c:c1 v=true)(he:dR ctx (.word w true)=true)(d:dx X pd (10::(w++v))):iV X (jf true n) ctx no (10::(w++v)) (10::(w++v)) (w++v) pd:=by grind[nP,iV.nl]
theorem iV.aa9{X:fk}{n m:Nat}(hm:X.c0<=m)(e2:ai X.E m (jf true n)){ctx:Ctx}{no:Bool}{pd:aq}{w v:aa}(ax:w≠[])(a:w.all rp=true)(c:w.head?≠some 35)(d:c1 v=true)(he:dR ctx (.word w true)=true)(e:w.head?≠some 59):iV X (jf true n) ctx no (59::(w++v)) (59::(w++v)) (w++v) pd:=by
 obtain⟨f,g⟩:=nP ax a c d;cases w with
 |nil=>grind
 |cons b t=>grind[iV.aa5,Ng]
theorem iV.TC{X:fk}{n m:Nat}(hm:X.c0<=m)(e2:ai X.E m (jf true n)){ctx:Ctx}{no:Bool}{pd:aq}{w v:aa}(ax:w≠[])(a:w.all rp=true)(b:w.head?≠some 35)(c:c1 v=true)(he:dR ctx (.word w true)=true):iV X (jf true n) ctx no (59::32::(w++v)) (59::32::(w++v)) (w++v) pd:=by grind[nP,iV.aa5,kP,Ng]
theorem bV.ok{X:fk}{α:Type}{a:α}{r:aa}{pd:aq}:bV X (λq=>q=r) pd (.ok a r pd):= .inl ⟨rfl,rfl⟩
theorem CW{E:lh}(ok:E.mM){m:Nat}(hm:wZ E m)(s:Unit):ai E m (FY (aZ true m) s):=ai.ae ok ((hm.ls _ _).aM _) λ_=>ai.ae ok (ai.cV ok _) λ_=>ai.ae ok ((hm.ls _ _).aM _) λ_=>
 ai.fJ ok λt=>ai.ite (ai.ae ok (ai.cV ok _) λ_=>ai.ret _) (ai.ite (ai.ae ok (ai.cV ok _) λ_=>ai.ae ok ((hm.ls _ _).aM _) λ_=>ai.ae ok (ai.cV ok _) λ_=>ai.ret _) (ai.ae ok (ai.cV ok _) λ_=>ai.ret _))
theorem aa_{E:lh}(ok:E.mM)(m:Nat):ai E (m+1) (jf true (m+1)):=ai.pB ok (ai.pipe ok (ai.command ok (oh ok m)))
section
variable{X:fk}{m:Nat}(hm:X.c0<=m)(e2:ai X.E m (jf true m)){d:Nat}(kw:sC X d m)
include hm e2 kw
theorem ao4{t v:aa}{pd:aq}(b:ih d t)(ax:dx X pd ([40]++t++[41]++v)):bV X (λr=>r=v) pd (hN (aZ true m) (.op [40]) ([40]++t++[41]++v) pd):=by
 have he:[40]++t++[41]++v=40::(t++(41::v)):=by simp
 rw[he] at ax⊢;rw[ao3];refine bV.ae hm (kw.ls (pre:=[]) (v:=41::v) (.inl rfl) b.cc (iV.op (y0 v) (y1 v) rfl) (ax.sfx ⟨[40],rfl⟩)).aM (λa r' _ c=>?_) (λ_=>ai.jI X.ok _);grind[E6,y0,y1,bV.ok]
theorem ao5{t v:aa}{pd:aq}(b:c1 v=true)(e:ih d t)(ax:dx X pd ([123,32]++(t++[10])++[125]++v)):bV X (λr=>r=v) pd (hN (aZ true m) (.word [123] true) ([123,32]++(t++[10])++[125]++v) pd):=by
 have he:[123,32]++(t++[10])++[125]++v=123::([32]++(t++(10::([125]++v)))):=by simp
 rw[he] at ax⊢;rw[AI,bm rfl];have c:dx X pd ([32]++(t++(10::([125]++v)))):=ax.sfx ⟨[123],rfl⟩;refine bV.ae hm (kw.ls (.inr (.inl rfl)) e.cc (iV.AJ (w:=[125]) hm e2 (by simp) (by decide) (by decide) b rfl (c.sfx ⟨32::t,by simp⟩)) c).aM (λa r' _ f=>?_) (λ_=>ai.cV X.ok _);subst f;rw[tb (by simp) (by decide) (by decide) b];exact bV.ok
theorem ao6{t u v:aa}{pd:aq}(b:c1 v=true)(g:ih d t)(hu:ih d u)(ax:dx X pd ([105,102,32]++(t++[59])++[32,116,104,101,110,32]++(u++[10])++[102,105]++v)):bV X (λr=>r=v) pd (hN (aZ true m) (.word m1 true) ([105,102,32]++(t++[59])++[32,116,104,101,110,32]++(u++[10])++[102,105]++v) pd):=by
 have bk:=oh X.ok m;have he:[105,102,32]++(t++[59])++[32,116,104,101,110,32]++(u++[10])++[102,105]++v=m1++([32]++(t++(59::32::(iQ++([32]++(u++(10::(e8++v)))))))):=by simp[m1,iQ,e8]
 rw[he] at ax⊢;rw[AI,aW (by decide),bm rfl,o0,aa8,cF];have e:=ax.sfx (gQ m1 _);have f:dx X pd ([32]++(u++(10::(e8++v)))):=e.sfx ⟨32::t++59::32::iQ,by simp⟩;have h:dx X pd (10::(e8++v)):=f.sfx ⟨32::u,by simp⟩;unfold FY;refine bV.sB hm (CW X.ok bk) (kw.ls (.inr (.inl rfl)) g.cc (iV.TC (w:=iQ) hm e2 (by decide) (by decide) (by decide) rfl rfl) e).aM (λa r' _ c=>?_) (λ_=>ai.ae X.ok (ai.cV X.ok _) λ_=>ai.ae X.ok ((bk.ls _ _).aM _) λ_=>ai.fJ X.ok λt=>ai.ite (ai.ae X.ok (ai.cV X.ok _) λ_=>ai.ret _) (ai.ite (ai.ae X.ok (ai.cV X.ok _) λ_=>ai.ae X.ok ((bk.ls _ _).aM _) λ_=>ai.ae X.ok (ai.cV X.ok _) λ_=>ai.ret _) (ai.ae X.ok (ai.cV X.ok _) λ_=>ai.ret _)));subst c;rw[aY (tb (by decide) (by decide) (by decide) rfl)];refine bV.sB hm (CW X.ok bk) (kw.ls (.inr (.inl rfl)) hu.cc (iV.AJ (w:=e8) hm e2 (by decide) (by decide) (by decide) b rfl h) f).aM (λa r' _ c=>?_) (λ_=>ai.fJ X.ok λt=>ai.ite (ai.ae X.ok (ai.cV X.ok _) λ_=>ai.ret _) (ai.ite (ai.ae X.ok (ai.cV X.ok _) λ_=>ai.ae X.ok ((bk.ls _ _).aM _) λ_=>ai.ae X.ok (ai.cV X.ok _) λ_=>ai.ret _) (ai.ae X.ok (ai.cV X.ok _) λ_=>ai.ret _)));subst c;obtain⟨i,j⟩:=nP (w:=e8) (r:=v) (by decide) (by decide) (by decide) b;rw[aY (cA j),i,aW (by decide),aW (by decide),aY (tb (by decide) (by decide) (by decide) b)];exact bV.ok
theorem ao7{t u v:aa}{pd:aq}(q:ih d t)(hu:ih d u)(ax:dx X pd ([105,102,32,97,59,32,116,104,101,110,10]++(t++[10])++[101,108,105,102,32,98,10,116,104,101,110,32,99,10,101,108,115,101,32]++(u++[59])++[102,105,32,50,62,102]++v)):bV X (λr=>r=[32,50,62,102]++v) pd (hN (aZ true m) (.word m1 true) ([105,102,32,97,59,32,116,104,101,110,10]++(t++[10])++[101,108,105,102,32,98,10,116,104,101,110,32,99,10,101,108,115,101,32]++(u++[59])++[102,105,32,50,62,102]++v) pd):=by
 have bk:=oh X.ok m;have he:[105,102,32,97,59,32,116,104,101,110,10]++(t++[10])++[101,108,105,102,32,98,10,116,104,101,110,32,99,10,101,108,115,101,32]++(u++[59])++[102,105,32,50,62,102]++v=m1++([32]++([97]++(59::32::(iQ++([10]++(t++(10::(ib++([32]++([98]++(10::(iQ++([32]++([99]++(10::(hM++([32]++(u++(59::(e8++([32,50,62,102]++v))))))))))))))))))))):=by simp[m1,iQ,e8,ib,hM]
 rw[he] at ax⊢;rw[AI,aW (by decide),bm rfl,o0,aa8,cF];have l:=ax.sfx (gQ m1 _);have n:dx X pd ([10]++(t++(10::(ib++([32]++([98]++(10::(iQ++([32]++([99]++(10::(hM++([32]++(u++(59::(e8++([32,50,62,102]++v))))))))))))))))):=l.sfx ⟨[32]++([97]++(59::32::iQ)),by simp⟩;have o:dx X pd (10::(ib++([32]++([98]++(10::(iQ++([32]++([99]++(10::(hM++([32]++(u++(59::(e8++([32,50,62,102]++v))))))))))))))):=n.sfx ⟨10::t,by simp⟩;have p:dx X pd ([32]++([98]++(10::(iQ++([32]++([99]++(10::(hM++([32]++(u++(59::(e8++([32,50,62,102]++v))))))))))))):=o.sfx ⟨10::ib,by simp⟩;have c:dx X pd (10::(iQ++([32]++([99]++(10::(hM++([32]++(u++(59::(e8++([32,50,62,102]++v))))))))))):=p.sfx ⟨[32,98],by simp⟩;have e:dx X pd ([32]++([99]++(10::(hM++([32]++(u++(59::(e8++([32,50,62,102]++v))))))))):=c.sfx ⟨10::iQ,by simp⟩;have f:dx X pd (10::(hM++([32]++(u++(59::(e8++([32,50,62,102]++v))))))):=e.sfx ⟨[32,99],by simp⟩;have h:dx X pd ([32]++(u++(59::(e8++([32,50,62,102]++v))))):=f.sfx ⟨10::hM,by simp⟩;have i:ai X.E m (ae (cV e8) λ_=>(aU (.inr ()):ak (Unit⊕Unit))):=ai.ae X.ok (ai.cV X.ok _) λ_=>ai.ret _;have g:ai X.E m (ae (bP []) λt=>if cE t ib then ae (cV ib) λ_=>(aU (.inl ()):ak (Unit⊕Unit)) else
  if cE t hM then ae (cV hM) λ_=>ae (((aZ true m).ls .ke false).aM (10::e8)) λ_=>ae (cV e8) λ_=>aU (.inr ()) else ae (cV e8) λ_=>aU (.inr ())):=ai.fJ X.ok λt=>ai.ite (ai.ae X.ok (ai.cV X.ok _) λ_=>ai.ret _) (ai.ite (ai.ae X.ok (ai.cV X.ok _) λ_=>ai.ae X.ok ((bk.ls _ _).aM _) λ_=>i) i)
 unfold FY;refine bV.sB hm (CW X.ok bk) (kw.ls (.inr (.inl rfl)) (Nf (.inl rfl)) (iV.TC (w:=iQ) hm e2 (by decide) (by decide) (by decide) rfl rfl) l).aM (λa r' _ b=>?_) (λ_=>ai.ae X.ok (ai.cV X.ok _) λ_=>ai.ae X.ok ((bk.ls _ _).aM _) λ_=>g);subst b;rw[aY (tb (by decide) (by decide) (by decide) rfl)];refine bV.sB hm (CW X.ok bk) (kw.ls (.inr (.inr rfl)) q.cc (iV.AJ (w:=ib) hm e2 (by decide) (by decide) (by decide) rfl rfl o) n).aM (λa r' _ b=>?_) (λ_=>g);subst b;obtain⟨j,k⟩:=nP (w:=ib) (r:=[32]++([98]++(10::(iQ++([32]++([99]++(10::(hM++([32]++(u++(59::(e8++([32,50,62,102]++v))))))))))))) (by decide) (by decide) (by decide) rfl;rw[aY (cA k),j,bm (by decide),aY (tb (by decide) (by decide) (by decide) rfl)];show bV X _ pd (if _ then ca (FY (aZ true m)) () _ pd else .bad _);rw[bm (by grind[List.length_cons]),cF];unfold FY;refine bV.sB hm (CW X.ok bk) (kw.ls (.inr (.inl rfl)) (Nf (.inr (.inl rfl))) (iV.AJ (w:=iQ) hm e2 (by decide) (by decide) (by decide) rfl rfl c) p).aM (λa r' _ b=>?_) (λ_=>ai.ae X.ok (ai.cV X.ok _) λ_=>ai.ae X.ok ((bk.ls _ _).aM _) λ_=>g);subst b;rw[aY (tb (by decide) (by decide) (by decide) rfl)];refine bV.sB hm (CW X.ok bk) (kw.ls (.inr (.inl rfl)) (Nf (.inr (.inr rfl))) (iV.AJ (w:=hM) hm e2 (by decide) (by decide) (by decide) rfl rfl f) e).aM (λa r' _ b=>?_) (λ_=>g);subst b;obtain⟨j,k⟩:=nP (w:=hM) (r:=[32]++(u++(59::(e8++([32,50,62,102]++v))))) (by decide) (by decide) (by decide) rfl;rw[aY (cA k),j,aW (by decide),bm (by decide),aY (tb (by decide) (by decide) (by decide) rfl)];refine bV.sB hm (CW X.ok bk) (kw.ls (.inr (.inl rfl)) hu.cc (iV.aa9 (w:=e8) hm e2 (by decide) (by decide) (by decide) rfl rfl (by decide)) h).aM (λa r' _ b=>?_) (λ_=>i);subst b;rw[aY (tb (by decide) (by decide) (by decide) rfl)];exact bV.ok
theorem abd{x u v:aa}{pd:aq}(b:c1 v=true){e:aa}(he:e=[]\/e=[32])(hu:ih d u)(ax:dx X pd (gN++([32]++(u++(59::(e++(iH++v))))))):bV X (λr=>r=v) pd (iI (aZ true m) x (gN++([32]++(u++(59::(e++(iH++v)))))) pd):=by
 have bk:=oh X.ok m;unfold iI;rw[aY (jv.2 (tb (by decide) (by decide) (by decide) rfl))];have bn:iV X (jf true m) .done false (59::(e++(iH++v))) (59::(e++(iH++v))) (iH++v) pd:=by
  rcases he with rfl|rfl
  ·exact iV.aa9 (w:=iH) hm e2 (by decide) (by decide) (by decide) b rfl (by decide)
  ·exact iV.TC (w:=iH) hm e2 (by decide) (by decide) (by decide) b rfl
 refine bV.ae hm (kw.ls (.inr (.inl rfl)) hu.cc bn (ax.sfx (gQ gN _))).aM (λa r' _ c=>?_) (λ_=>ai.cV X.ok _);subst c;rw[tb (by decide) (by decide) (by decide) b];exact bV.ok
theorem ao9{t u v:aa}{pd:aq}(e:c1 v=true)(f:ih d t)(hu:ih d u)(ax:dx X pd ([119,104,105,108,101,32]++(t++[10])++[100,111,32]++(u++[59])++[32,100,111,110,101]++v)):bV X (λr=>r=v) pd (hN (aZ true m) (.word wU true) ([119,104,105,108,101,32]++(t++[10])++[100,111,32]++(u++[59])++[32,100,111,110,101]++v) pd):=by
 have bk:=oh X.ok m;have he:[119,104,105,108,101,32]++(t++[10])++[100,111,32]++(u++[59])++[32,100,111,110,101]++v=wU++([32]++(t++(10::(gN++([32]++(u++(59::([32]++(iH++v))))))))):=by simp[wU,gN,iH]
 rw[he] at ax⊢;rw[AI,aW (by decide),aW (by decide),aW (by decide),aW (by decide),o0];have b:=ax.sfx (gQ wU _);have c:dx X pd (10::(gN++([32]++(u++(59::([32]++(iH++v))))))):=b.sfx ⟨32::t,by simp⟩;refine bV.ae hm (kw.ls (.inr (.inl rfl)) f.cc (iV.AJ (w:=gN) hm e2 (by decide) (by decide) (by decide) rfl rfl c) b).aM (λa r' _ g=>?_) (λ_=>ai.body X.ok bk _);subst g;exact abd hm e2 kw e (.inr rfl) hu (c.sfx (eb _ _))
end
theorem abe{X:fk}{D:ak Unit}{w u:aa}{pd:aq}(b:eJ X D w)(hu:c1 u=true)(a:u≠[])(ax:dx X pd (w++u)):bV X (λr=>r=u) pd (cP D (w++u) pd):=by have:=(b u pd a ax).1;rw[Ja hu a] at this;exact this.I9 bV.ok
theorem FZ{D:ak Unit}{w u:aa}{pd:aq}(a:w.all rp=true)(hu:c1 u=true)(b:u≠[]):cP D (w++u) pd= .ok () u pd:=by grind[Rp,Ja]
theorem abf{b:UInt8}{t:aa}{pd:aq}:bZ 1 (b::t) pd= .ok () t pd:=rfl
def CX(D:ak Unit):Unit->ak (Unit⊕Unit):=λ_=>ae (bP []) λt=>match t with
 | .eof=>b6 []
 | .word _ _=>ae (cP D) λ_=>aU (.inl ())
 | .line=>aU (.inr ())
 | .op o=>if o=[59] then ae (bZ 1) λ_=>aU (.inr ()) else bK
theorem ao_(D:ak Unit):pz D=ca (CX D) ():=rfl
theorem apa{E:lh}(ok:E.mM){m:Nat}(hm:wZ E m)(s:Unit):ai E m (CX (aZ true m).dl s):=ai.fJ ok λt=>by
 cases t with
 |eof=>simp[ai.b6]
 |word _ _=>exact ai.ae ok (ai.cP ok hm.dl) λ_=>ai.ret _
 |line=>simp[ai.ret]
 |op o=>exact ai.ite (ai.ae ok (ai.dg ok _) λ_=>ai.ret _) ai.bK
section
variable{X:fk}{m:Nat}(hm:X.c0<=m)(e2:ai X.E m (jf true m)){d:Nat}(kw:sC X d m)
include hm e2 kw
theorem apb{w v:aa}{pd:aq}(b:hS d w)(ax:dx X pd (32::97::32::(w++(59::32::v)))):bV X (λr=>r=32::v) pd (pz (aZ true m).dl (32::97::32::(w++(59::32::v))) pd):=by have bk:=oh X.ok m;have hf:=λs=>apa X.ok bk s;rw[ao_,cF];unfold CX;obtain⟨e,f⟩:=nP (w:=[97]) (r:=32::(w++(59::32::v))) (by simp) (by decide) (by decide) rfl;rw[aY (cA (by rw[kP];exact f)),e];simp only;rw[aY (FZ (by decide) rfl (by simp))];show bV X _ pd (if _ then ca (CX (aZ true m).dl) () (32::(w++(59::32::v))) pd else .bad _);rw[bm (by simp),cF];unfold CX;obtain⟨g,⟨x,p,h⟩,k⟩:=(M_ b).tok (u:=59::32::v);rw[aY (cA (by rw[kP];exact g)),h];simp only;have c:au (59::32::v)= .op [59]:=Ng (by decide);have i:c1 (59::32::v)=true:=(hC.op (xt _) c (by decide) (by decide)).pM;refine bV.sB hm hf (abe (kw.wd w b) i (by simp) (ax.sfx ⟨[32,97,32],rfl⟩)) (λa r' _ j=>?_) (λ_=>ai.ret _);subst j;show bV X _ pd (if _ then ca (CX (aZ true m).dl) () (59::32::v) pd else .bad _);rw[bm (by grind),cF];unfold CX;rw[aY (cA (xt _)),c];simp only;rw[if_pos trivial,aY abf];exact bV.ok
theorem apc{w u v:aa}{pd:aq}(i:c1 v=true)(j:hS d w)(hu:ih d u)(ax:dx X pd ([102,111,114,32,120,32,105,110,32,97,32]++w++[59,32,100,111,32]++(u++[59])++[100,111,110,101]++v)):bV X (λr=>r=v) pd (hN (aZ true m) (.word nj true) ([102,111,114,32,120,32,105,110,32,97,32]++w++[59,32,100,111,32]++(u++[59])++[100,111,110,101]++v) pd):=by
 have bk:=oh X.ok m;have he:[102,111,114,32,120,32,105,110,32,97,32]++w++[59,32,100,111,32]++(u++[59])++[100,111,110,101]++v=nj++(32::([120]++(32::(fl++(32::97::32::(w++(59::32::(gN++([32]++(u++(59::([]++(iH++v))))))))))))):=by simp[nj,fl,gN,iH]
 rw[he] at ax⊢;generalize g:gN++([32]++(u++(59::([]++(iH++v)))))=z at ax⊢;have b:dx X pd (32::97::32::(w++(59::32::z))):=ax.sfx ⟨nj++(32::([120]++(32::fl))),by simp⟩;have c:dx X pd z:=b.sfx ⟨32::97::32::(w++[59,32]),by simp⟩;rw[AI,if_neg (by decide),if_neg (by decide),if_pos rfl,List.drop_left];unfold pA;obtain⟨k,l⟩:=nP (w:=[120]) (r:=32::(fl++(32::97::32::(w++(59::32::z))))) (by simp) (by decide) (by decide) rfl;rw[aY (cA (by rw[kP];exact l)),k];simp only;rw[bm (by decide),aY XC];refine bV.ae (P:=λr=>r=z) hm (bV.aM ?_) (λa r' _ e=>?_) (λ_=>ai.body X.ok bk _)
 ·obtain⟨h,f⟩:=nP (w:=fl) (r:=32::97::32::(w++(59::32::z))) (by decide) (by decide) (by decide) rfl;rw[aY (cA (by rw[kP];exact f)),h,aW (by simp),aY (sk f (by grind)),aY (cA f),h,if_pos (by decide)];rw[aY (show bZ 2 (fl++(32::97::32::(w++(59::32::z)))) pd= .ok () (32::97::32::(w++(59::32::z))) pd from rfl)];refine bV.ae hm (apb hm e2 kw j b) (λa r' _ e=>?_) (λ_=>ai.ae X.ok (ai.lines X.ok) λ_=>ai.ret _);subst e;subst g;obtain⟨o,n⟩:=nP (w:=gN) (r:=[32]++(u++(59::([]++(iH++v))))) (by decide) (by decide) (by decide) rfl;rw[aY (sk (by rw[kP];exact n) (by grind))];exact bV.ok
 ·subst e;subst g;exact abd hm e2 kw i (.inl rfl) hu c
theorem ape{v:aa}{pd:aq}(e:c1 v=true)(ax:dx X pd ([102,111,114,32,120,10,100,111,32,97,10,100,111,110,101]++v)):bV X (λr=>r=v) pd (hN (aZ true m) (.word nj true) ([102,111,114,32,120,10,100,111,32,97,10,100,111,110,101]++v) pd):=by
 have bk:=oh X.ok m;have he:[102,111,114,32,120,10,100,111,32,97,10,100,111,110,101]++v=nj++(32::([120]++(10::(gN++([32]++([97]++(10::(iH++v)))))))):=by rfl
 rw[he] at ax⊢;have c:dx X pd (10::(gN++([32]++([97]++(10::(iH++v)))))):=ax.sfx ⟨nj++[32,120],by simp⟩;have f:dx X pd ([32]++([97]++(10::(iH++v)))):=c.sfx ⟨10::gN,by simp⟩;rw[AI,if_neg (by decide),if_neg (by decide),if_pos rfl,List.drop_left];unfold pA;obtain⟨h,i⟩:=nP (w:=[120]) (r:=10::(gN++([32]++([97]++(10::(iH++v)))))) (by simp) (by decide) (by decide) rfl;rw[aY (cA (by rw[kP];exact i)),h];simp only;rw[bm (by decide),aY XC];obtain⟨g,d⟩:=nP (w:=gN) (r:=[32]++([97]++(10::(iH++v)))) (by decide) (by decide) (by decide) rfl;generalize k:gN++([32]++([97]++(10::(iH++v))))=z at c g d⊢;refine bV.ae (P:=λr=>r=z) hm (bV.aM ?_) (λa r' _ b=>?_) (λ_=>ai.body X.ok bk _)
 ·rw[aY (cA (hC.nl _).rD),aW (by simp[au])];refine bV.ae hm (y2 hm (j:=[10]) (x:=z) (.inr (.inl rfl)) d (by grind) c) (λa r' _ b=>?_) (λ_=>ai.fJ X.ok λt=>ai.ite (ai.ae X.ok (ai.dg X.ok _) λ_=>ai.ae X.ok (ai.words X.ok bk) λ_=>ai.ae X.ok (ai.lines X.ok) λ_=>ai.ret _) (ai.ret _));subst b;rw[aY (cA d),g,aW (by decide)];exact bV.ok
 ·subst b;subst k;unfold iI;rw[aY (jv.2 (tb (by decide) (by decide) (by decide) rfl))];refine bV.ae hm (kw.ls (.inr (.inl rfl)) (Nf (.inl rfl)) (iV.AJ (w:=iH) hm e2 (by decide) (by decide) (by decide) e rfl (f.sfx ⟨[32,97],rfl⟩)) f).aM (λa r' _ b=>?_) (λ_=>ai.cV X.ok _);subst b;rw[tb (by decide) (by decide) (by decide) e];exact bV.ok
end
def Nh(D:ak Unit):Unit->ak (Unit⊕Unit):=λ_=>ae (bP [120,41]) λt=>match t with
 | .eof=>b6 [120,41]
 | .word _ _=>ae ((cP D).aM [41]) λ_=>ae (bP [41]) λt=>match t with
   | .eof=>b6 [41]
   | .op o=>if o=[124] then ae (bZ 1) λ_=>aU (.inl ()) else if o=[41] then ae (bZ 1) λ_=>aU (.inr ()) else bK
   |_=>bK
 |_=>bK
theorem TD(D:ak Unit):kO D=ca (Nh D) ():=rfl
theorem abh{b:UInt8}{t:aa}(h:b≠124):au (124::b::t)= .op [124]:=by rw[mG (by simp)];simp[br,la,xv,List.isPrefixOf,h.symm]
theorem TE{D:ak Unit}{b:UInt8}{x y:aa}{pd:aq}(d:rp b=true)(e:b≠35)(a:bu y=some (b::41::x)):kO D y pd= .ok () x pd:=by have ad:au (b::41::x)= .word [b] true:=ta (w:=[b]) (by simp) (by grind) (hC.op (y0 x) (y1 x) (by decide) (by decide)).pM;rw[TD,cF];unfold Nh;rw[aY (cA a),ad];simp only;have c:cP D (b::41::x) pd= .ok () (41::x) pd:=FZ (w:=[b]) (u:=41::x) (by grind) (hC.op (y0 x) (y1 x) (by decide) (by decide)).pM (by simp);rw[aY (jv.2 c),aY (cA (y0 x)),y1];rfl
theorem apf{D:ak Unit}{x:aa}{pd:aq}:kO D (97::124::98::41::x) pd= .ok () x pd:=by have a:au (124::98::41::x)= .op [124]:=abh (by decide);have b:bu (124::98::41::x)=some (124::98::41::x):=kB (by decide) (by decide) (by decide);have c:=(hC.op b a (by decide) (by decide)).pM;have ad:au (97::124::98::41::x)= .word [97] true:=ta (w:=[97]) (by simp) (by decide) c;rw[TD,cF];unfold Nh;rw[aY (cA (kB (by decide) (by decide) (by decide))),ad];simp only;have d:cP D (97::124::98::41::x) pd= .ok () (124::98::41::x) pd:=FZ (w:=[97]) (u:=124::98::41::x) (by decide) c (by simp);rw[aY (jv.2 d),aY (cA b),a];simp only;rw[bm trivial,aY abf];show(if _ then ca (Nh D) () (98::41::x) pd else .bad _)=_;rw[bm (by simp),<-TD];exact TE (by decide) (by decide) (kB (by decide) (by decide) (by decide))
theorem abi{m:Nat}{y x:aa}{pd:aq}(a:bu y=some x)(ad:au x≠ .eof)(b:au x≠ .line)(he:dR .item (au x)=true):(aZ true m).ls .item true y pd= .ok 0 x pd:=by rw[EN,uw,aY (jv.2 (sk a b)),cF];have c:=lD _ _ _ (cX _) a;rw[ai1 c ad he rfl];rfl
def y6(l:dS)(D:ak Unit):Unit->ak (Unit⊕Unit):=λ_=>ae cS λ_=>ae (bP []) λt=>if t= .eof then b6 [] else if cE t ep then ae (bZ 4) λ_=>aU (.inr ()) else
 ae ((if t= .op [40] then bZ 1 else aU ())) λ_=>ae (kO D) λ_=>ae (l.ls .item true) λ_=>ae (bP []) λt=>if t= .op [59,59] then ae (bZ 2) λ_=>aU (.inl ()) else aU (.inl ())
theorem CZ(l:dS)(D:ak Unit):nn l D=ca (y6 l D) ():=rfl
theorem abj{E:lh}(ok:E.mM){m:Nat}:ai E m (ae (bP []) λt=>if t= .op [59,59] then ae (bZ 2) λ_=>(aU (.inl ()):ak (Unit⊕Unit)) else aU (.inl ())):=ai.fJ ok λt=>ai.ite (ai.ae ok (ai.dg ok _) λ_=>ai.ret _) (ai.ret _)
theorem abk{E:lh}(ok:E.mM){m:Nat}(hm:wZ E m):ai E m (ae (bP []) λt=>if t= .eof then b6 [] else if cE t ep then ae (bZ 4) λ_=>(aU (.inr ()):ak (Unit⊕Unit)) else
 ae ((if t= .op [40] then bZ 1 else aU ())) λ_=>ae (kO (aZ true m).dl) λ_=>ae ((aZ true m).ls .item true) λ_=>ae (bP []) λt=>if t= .op [59,59] then ae (bZ 2) λ_=>aU (.inl ()) else aU (.inl ())):=ai.fJ ok λt=>ai.ite (ai.b6 _) (ai.ite (ai.ae ok (ai.dg ok _) λ_=>ai.ret _)
 (ai.ae ok (ai.ite (ai.dg ok _) (ai.ret _)) λ_=>ai.ae ok (ai.wX ok hm) λ_=>ai.ae ok (hm.ls _ _) λ_=>abj ok))
theorem apg{E:lh}(ok:E.mM){m:Nat}(hm:wZ E m)(s:Unit):ai E m (y6 (aZ true m) (aZ true m).dl s):=ai.ae ok (ai.lines ok) λ_=>abk ok hm
section
variable{X:fk}{m:Nat}(hm:X.c0<=m)(e2:ai X.E m (jf true m)){d:Nat}(kw:sC X d m)
include hm e2 kw
theorem aph{u v:aa}{pd:aq}(n:c1 v=true)(hu:ih d u)(ax:dx X pd ([32,97,124,98,41]++([32]++(u++([59,59]++([10]++([40,99,41,32,59,59,32,100,41,32]++(ep++v)))))))):bV X (λr=>r=v) pd (nn (aZ true m) (aZ true m).dl ([32,97,124,98,41]++([32]++(u++([59,59]++([10]++([40,99,41,32,59,59,32,100,41,32]++(ep++v))))))) pd):=by
 have bk:=oh X.ok m;have hf:=λs=>apg X.ok bk s;obtain⟨e,f⟩:=nP (w:=ep) (r:=v) (by decide) (by decide) (by decide) n;have o:nn (aZ true m) (aZ true m).dl (ep++v) pd= .ok () v pd:=by rw[CZ,cF];unfold y6;rw[aY (sk f (by grind)),aY (cA f),e,if_neg (by simp),if_pos (by decide)];rfl
 have p:nn (aZ true m) (aZ true m).dl ([32,100,41,32]++(ep++v)) pd= .ok () v pd:=by
  rw[CZ,cF];unfold y6;have b:bu ([32,100,41,32]++(ep++v))=some (100::41::32::(ep++v)):=by show bu (32::100::41::32::(ep++v))=_;rw[kP];exact kB (by decide) (by decide) (by decide)
  have c:au (100::41::32::(ep++v))= .word [100] true:=ta (w:=[100]) (by simp) (by decide) (hC.op (y0 _) (y1 _) (by decide) (by decide)).pM;have h:=lD _ _ _ (Nat.le_refl _) b
  rw[aY (sk b (by grind)),aY (cA h),c,if_neg (by simp),if_neg (by decide),if_neg (by simp),aY (show aU () (100::41::32::(ep++v)) pd= .ok () (100::41::32::(ep++v)) pd from rfl),aY (TE (by decide) (by decide) h),
   aY (abi (x:=ep++v) (by grind[kP]) (by grind) (by grind) (by rw[e];decide)),aY (cA f),e,aW (by simp)]
  show(if _ then ca (y6 (aZ true m) (aZ true m).dl) () (ep++v) pd else .bad _)=_;rw[bm (by grind),<-CZ];exact o
 have i:bV X (λr=>r=v) pd (nn (aZ true m) (aZ true m).dl ([10]++([40,99,41,32,59,59,32,100,41,32]++(ep++v))) pd):=by
  have b:bu ([40,99,41,32,59,59,32,100,41,32]++(ep++v))=some ([40,99,41,32,59,59,32,100,41,32]++(ep++v)):=kB (by decide) (by decide) (by decide);have c:au ([40,99,41,32,59,59,32,100,41,32]++(ep++v))= .op [40]:=by rfl
  have k:dx X pd ([10]++([40,99,41,32,59,59,32,100,41,32]++(ep++v))):=ax.sfx ⟨[32,97,124,98,41]++([32]++(u++[59,59])),by simp⟩;rw[CZ,cF];unfold y6;generalize l:[40,99,41,32,59,59,32,100,41,32]++(ep++v)=z at b c k⊢;refine bV.sB hm hf (y2 hm (j:=[10]) (x:=z) (.inr (.inl rfl)) b (by grind) k) (λa r' _ g=>?_) (λ_=>abk X.ok bk);subst g;rw[aY (cA b),c,aW (by simp),aW (by decide),bm rfl];subst l;rw[aY (show bZ 1 ([40,99,41,32,59,59,32,100,41,32]++(ep++v)) pd= .ok () (99::41::32::59::59::([32,100,41,32]++(ep++v))) pd from rfl),
   aY (TE (x:=32::59::59::([32,100,41,32]++(ep++v))) (by decide) (by decide) (kB (by decide) (by decide) (by decide))),
   aY (abi (x:=59::59::([32,100,41,32]++(ep++v))) (by simp[kP,xt]) (by simp[Jc]) (by simp[Jc]) (by rfl)),
   aY (cA (xt _)),Jc,bm rfl,aY (show bZ 2 (59::59::([32,100,41,32]++(ep++v))) pd= .ok () ([32,100,41,32]++(ep++v)) pd from rfl)]
  show bV X _ pd (if _ then ca (y6 (aZ true m) (aZ true m).dl) () ([32,100,41,32]++(ep++v)) pd else .bad _);rw[bm (by simp),<-CZ,p];exact bV.ok
 generalize l:[10]++([40,99,41,32,59,59,32,100,41,32]++(ep++v))=z at ax i⊢;rw[CZ,cF];unfold y6;have q:au (124::98::41::([32]++(u++([59,59]++z))))= .op [124]:=abh (by decide);have b:bu (97::124::98::41::([32]++(u++([59,59]++z))))=some (97::124::98::41::([32]++(u++([59,59]++z)))):=kB (by decide) (by decide) (by decide);have c:au (97::124::98::41::([32]++(u++([59,59]++z))))= .word [97] true:=ta (w:=[97]) (by simp) (by decide) (hC.op (kB (by decide) (by decide) (by decide)) q (by decide) (by decide)).pM;show bV X _ pd (cN _ _ (ae cS _ (32::97::124::98::41::([32]++(u++([59,59]++z)))) pd))
 rw[aY (sk (r1:=97::124::98::41::([32]++(u++([59,59]++z)))) (show bu (32::97::124::98::41::([32]++(u++([59,59]++z))))=_ by grind[kP]) (by grind)),
  aY (cA b),c,aW (by simp),aW (by decide),aW (by simp),aY (show aU () (97::124::98::41::([32]++(u++([59,59]++z)))) pd= .ok () (97::124::98::41::([32]++(u++([59,59]++z)))) pd from rfl),aY apf]
 have t:dx X pd ([32]++(u++([59,59]++z))):=ax.sfx (gQ _ _);refine bV.sB hm hf (kw.ls (v:=[59,59]++z) (.inr (.inl rfl)) hu.cc (iV.op (xt _) Jc rfl) t) (λa r' _ g=>?_) (λ_=>abj X.ok);subst g;rw[aY (cA (show bu ([59,59]++z)=some ([59,59]++z) from xt _)),bm (show au ([59,59]++z)= .op [59,59] from Jc),aY (show bZ 2 ([59,59]++z) pd= .ok () z pd from rfl)];show bV X _ pd (if _ then ca (y6 (aZ true m) (aZ true m).dl) () z pd else .bad _);rw[bm (by grind),<-CZ];exact i
theorem api{w u v:aa}{pd:aq}(j:c1 v=true)(g:hS d w)(hu:ih d u)(ax:dx X pd ([99,97,115,101,32]++w++[32,105,110,32,97,124,98,41,32]++(u++[])++[59,59,10,40,99,41,32,59,59,32,100,41,32,101,115,97,99]++v)):bV X (λr=>r=v) pd (hN (aZ true m) (.word px true) ([99,97,115,101,32]++w++[32,105,110,32,97,124,98,41,32]++(u++[])++[59,59,10,40,99,41,32,59,59,32,100,41,32,101,115,97,99]++v) pd):=by
 have bk:=oh X.ok m;have he:[99,97,115,101,32]++w++[32,105,110,32,97,124,98,41,32]++(u++[])++[59,59,10,40,99,41,32,59,59,32,100,41,32,101,115,97,99]++v=px++(32::(w++(32::(fl++([32,97,124,98,41]++([32]++(u++([59,59]++([10]++([40,99,41,32,59,59,32,100,41,32]++(ep++v))))))))))):=by simp[px,fl,ep]
 rw[he] at ax⊢;have c:=aph hm e2 kw (v:=v) (u:=u) (pd:=pd) j hu;have e:c1 ([32,97,124,98,41]++([32]++(u++([59,59]++([10]++([40,99,41,32,59,59,32,100,41,32]++(ep++v)))))))=true:=rfl;generalize [32,97,124,98,41]++([32]++(u++([59,59]++([10]++([40,99,41,32,59,59,32,100,41,32]++(ep++v))))))=z at ax c e⊢;have h:dx X pd (w++(32::(fl++z))):=ax.sfx ⟨px++[32],by simp⟩;have k:dx X pd z:=h.sfx ⟨w++(32::fl),by simp⟩;rw[AI,if_neg (by decide),if_neg (by decide),if_neg (by decide),if_pos rfl,List.drop_left];unfold qN;obtain⟨l,⟨x,p,n⟩,y⟩:=(M_ g).tok (u:=32::(fl++z));rw[aY (cA (by rw[kP];exact l)),n];simp only;have o:c1 z=true:=e;obtain⟨q,i⟩:=nP (w:=fl) (r:=z) (by decide) (by decide) (by decide) o;refine bV.ae (P:=λr=>r=fl++z) hm (bV.aM ?_) (λa r' b f=>?_) (λt=>ai.ite (ai.ae X.ok (ai.dg X.ok _) λ_=>(ai.items X.ok bk).aM _) ai.bK)
 ·refine bV.ae hm (abe (kw.wd w g) rfl (by simp) h) (λa r' _ f=>?_) (λ_=>ai.ae X.ok (ai.lines X.ok) λ_=>ai.fJ X.ok λt=>ai.ite (ai.b6 _) (ai.ret _));subst f;rw[aY (sk (by rw[kP];exact i) (by grind)),aY (cA i),q,if_neg (by simp)];exact bV.ok
 ·subst f;have s:a= .word fl true:=by
   have b:=jv.1 b;obtain⟨_,r1,A,_,b⟩:=b0 b;obtain⟨_,B,C,_,b⟩:=b0 b;obtain⟨t,D,E,aC,b⟩:=b0 b;have w8:=np aC;split at b
   ·cases b
   ·cases b;grind
  subst s;rw[bm (by decide),aY (show bZ 2 (fl++z) pd= .ok () z pd from rfl)];exact(c k).aM
end
theorem apj{D:ak Unit}{y v:aa}{pd:aq}(c:y=[32,50,62,102]\/y=[32,62,102])(b:c1 v=true)(d:v≠[]):dy D (y++v) pd= .ok true v pd:=by
 have ad:fF (y++v) pd= .ok (some [62]) (102::v) pd:=by
  rcases c with rfl|rfl
  ·have a:bu ([32,50,62,102]++v)=some (50::62::102::v):=by show bu (32::50::62::102::v)=_;rw[kP];exact kB (by decide) (by decide) (by decide)
   unfold fF;rw[a];rfl
  ·have a:bu ([32,62,102]++v)=some (62::102::v):=by show bu (32::62::102::v)=_;rw[kP];exact kB (by decide) (by decide) (by decide)
   unfold fF;rw[a];rfl
 unfold dy;rw[aY ad];simp only;rw[aW (by decide),aW (by decide)];obtain⟨e,f⟩:=nP (w:=[102]) (r:=v) (by decide) (by decide) (by decide) b;have g:jH D [120] (102::v) pd= .ok () v pd:=by unfold jH;rw[aY (cA (show bu (102::v)=some (102::v) from f)),show au (102::v)= .word [102] true from e];exact FZ (w:=[102]) (by decide) b d
 rw[aY g];rfl
theorem abn{D:ak Unit}{y v b:aa}{pd:aq}(bz:y=[]\/y=[32,50,62,102]\/y=[32,62,102])(a:hC v b):gO D (y++v) pd= .ok () b pd:=by
 rcases bz with rfl|bz
 ·exact a.mA D pd
 ·have ad:dy D (y++v) pd= .ok true v pd:=apj bz a.pM a.ne;unfold gO;rw[cF,aY ad];have hl:v.length<(y++v).length:=by grind
  show(if v.length<(y++v).length then gO D v pd else .bad v)=_;rw[bm hl];exact a.mA D pd
section
variable{X:fk}{m:Nat}(hm:X.c0<=m)(e2:ai X.E m (jf true m)){d:Nat}(kw:sC X d m)
include hm e2 kw
theorem apk{t v:aa}{pd:aq}(b:c1 v=true)(e:ih d t)(ax:dx X pd (123::([10]++(t++(10::([125]++v)))))):bV X (λr=>r=v) pd (hN (aZ true m) (.word [123] true) (123::([10]++(t++(10::([125]++v))))) pd):=by rw[AI,bm rfl];have c:dx X pd ([10]++(t++(10::([125]++v)))):=ax.sfx ⟨[123],rfl⟩;refine bV.ae hm (kw.ls (.inr (.inr rfl)) e.cc (iV.AJ (w:=[125]) hm e2 (by simp) (by decide) (by decide) b rfl (c.sfx ⟨10::t,by simp⟩)) c).aM (λa r' _ f=>?_) (λ_=>ai.cV X.ok _);subst f;rw[tb (by simp) (by decide) (by decide) b];exact bV.ok
end
theorem AK{X:fk}{m:Nat}(hm:X.c0<=m){c v b y:aa}{pd:aq}(aG:y4 c){t:Tok}(d:au (c++(y++v))=t)(i:hs t=true)(e:hC v b)(f:y=[]\/y=[32,50,62,102]\/y=[32,62,102])
  (hk:bV X (λr=>r=y++v) pd (hN (aZ true m) t (c++(y++v)) pd)):bV X (λr=>r=b) pd (gk true (some (aZ true m)) (dH (some (aZ true m))) (c++(y++v)) pd):=by
 obtain⟨⟨ad,j,g,k,l⟩,o⟩:=aG.facts (y++v);have bk:=oh X.ok (m+1);unfold gk;rw[aY (cA ad),aW g,bm (by grind),d];refine bV.ae (n:=m+1) (by omega) (show bV X (λr=>r=y++v) pd (se (some (aZ true m)) t (c++(y++v)) pd) from hk.named) (λa r' _ h=>?_) (λ_=>ai.mA X.ok bk.dl);subst h;rw[abn f e];exact bV.ok
section
variable{X:fk}{m:Nat}(hm:X.c0<=m){d:Nat}(kw:sC X d m)
include hm kw
theorem apl{t v b:aa}{pd:aq}(h:hC v b)(i:ih d t)(e2:ai X.E m (jf true m))(ax:dx X pd ([102,40,41,32,123,10]++(t++[10])++[125,32,62,102]++v)):bV X (λr=>r=b) pd (gk true (some (aZ true (m+1))) (dH (some (aZ true (m+1)))) ([102,40,41,32,123,10]++(t++[10])++[125,32,62,102]++v) pd):=by
 have bk:=oh X.ok (m+1);have he:[102,40,41,32,123,10]++(t++[10])++[125,32,62,102]++v=[102]++(40::41::32::123::([10]++(t++(10::([125]++([32,62,102]++v)))))):=by simp
 rw[he] at ax⊢;have hk:=apk hm e2 kw (t:=t) (v:=[32,62,102]++v) (pd:=pd) rfl i (ax.sfx ⟨[102,40,41,32],rfl⟩);have f:c1 ([10]++(t++(10::([125]++([32,62,102]++v)))))=true:=rfl;generalize [10]++(t++(10::([125]++([32,62,102]++v))))=z at ax hk f⊢;have j:au (40::41::32::123::z)= .op [40]:=by rfl
 have c:bu (40::41::32::123::z)=some (40::41::32::123::z):=kB (by decide) (by decide) (by decide);obtain⟨k,g⟩:=nP (w:=[102]) (r:=40::41::32::123::z) (by decide) (by decide) (by decide) (XE _);unfold gk;rw[aY (cA g),k,if_neg (by simp),if_neg (by decide)];simp only;rw[if_neg (by decide),aY (show dy (dH (some (aZ true (m+1)))) ([102]++(40::41::32::123::z)) pd= .ok false ([102]++(40::41::32::123::z)) pd from XF g (by decide) (by decide)),aW (by simp),aY (FZ (by decide) (XE _) (by simp)),bm (by decide),aY (cA c),j,bm rfl];refine bV.ae (P:=λr=>r=b) (n:=m+1) (by omega) ?_ (λa r' _ e=>by subst e;exact bV.ok) (λ_=>ai.ret _);have l:(aZ true (m+1)).has=true:=rfl;have o:bu (32::123::z)=some (123::z):=by rw[kP];exact kB (by decide) (by decide) (by decide)
 obtain⟨p,q⟩:=nP (w:=[123]) (r:=z) (by decide) (by decide) (by decide) f;unfold l1;simp only;rw[bm l];refine bV.named ?_
 rw[aY (show bZ 1 (40::41::32::123::z) pd= .ok () (41::32::123::z) pd from rfl),aY (cA (y0 _)),y1,aW (by simp),bm rfl,
  aY (show bZ 1 (41::32::123::z) pd= .ok () (32::123::z) pd from rfl),aY (jv.2 (sk o (by grind))),
  aY (cA (show bu (123::z)=some (123::z) from q)),show au (123::z)= .word [123] true from p,aW (by simp),bm (by decide)]
 refine bV.ae (n:=m+1) (by omega) (show bV X (λr=>r=[32,62,102]++v) pd ((aZ true (m+1)).cp (.word [123] true) (123::z) pd) from hk.named) (λa r' _ e=>?_) (λ_=>ai.ite bk.rd (ai.ret _));subst e;rw[bm trivial];rw[show(aZ true (m+1)).rd=gO (dH (some (aZ true m))) from rfl,abn (.inr (.inr rfl)) h];exact bV.ok
end
theorem apn{X:fk}{n:Nat}(hm:X.c0<=n){lo:Option dS}(hD:ai X.E n (dH lo)):∀w,hS 0 w->xr w/\eJ X (dH lo) w:=λw a=>⟨M_ a,eJ.consts hm hD rfl w a⟩
theorem AL{X:fk}{m d:Nat}(hm:X.c0<=m+1)(hW:∀w,hS d w->eJ X (dH (some (aZ true m))) w){c v a:aa}{pd:aq}(e:vX (hS d) (hS 0) c)(f:hC v a)(ax:dx X pd (c++v)):bV X (λq=>q=a) pd (gk true (some (aZ true m)) (dH (some (aZ true m))) (c++v) pd):=by have bk:=oh X.ok (m+1);have hD:ai X.E (m+1) (dH (some (aZ true m))):=bk.dl;exact aoO hm hD (show hP (dH (some (aZ true m))) from(pC true (m+1)).dl) (λw b=>⟨M_ b,hW w b⟩) (apn hm hD) e f ax
theorem apo{X:fk}{m:Nat}(hm:X.c0<=m+1):y3 X (gk true (some (aZ true m)) (dH (some (aZ true m)))) (y5 0):=by
 have bk:=oh X.ok (m+1);have hD:ai X.E (m+1) (dH (some (aZ true m))):=bk.dl;refine⟨λ{c v b pd} aG a ax=>?_,λ{c} x aG=>(aG.aH.facts x).1⟩;have hW:∀w,hS 0 w->eJ X (dH (some (aZ true m))) w:=eJ.consts hm hD rfl
 rcases aG with aG|rfl|rfl|rfl
 ·exact AL hm hW (rB.q aG) a ax
 ·exact AL hm hW (vX.one (.inl rfl)) a ax
 ·exact AL hm hW (vX.one (.inr (.inl rfl))) a ax
 ·exact AL hm hW (vX.one (.inr (.inr rfl))) a ax
theorem apq{X:fk}{m d:Nat}(aH:d<=2)(hm:X.c0<=m)(kw:sC X d m)(e:sC X d (m+1))(e2:ai X.E m (jf true m)):y3 X (gk true (some (aZ true (m+1))) (dH (some (aZ true (m+1))))) (y5 (d+1)):=by
 have bk:=oh X.ok (m+1);have g:=aa_ X.ok m;have a:X.c0<=m+1:=by omega
 have hW:∀w,hS (d+1) w->eJ X (dH (some (aZ true (m+1)))) w:=aaO a bk aH e.aa7 e.wd
 refine⟨λ{c v i pd} aG b ax=>?_,λ{c} x aG=>(aG.aH.facts x).1⟩;have h:=aG.aH;rcases aG with(aG|aG)|rfl|rfl|rfl
 ·grind[AL,rB.q]
 ·rcases aG with⟨t,ad,rfl⟩|⟨t,ad,rfl⟩|⟨t,u,ad,f,rfl⟩|⟨t,u,ad,f,rfl⟩|⟨t,u,ad,f,rfl⟩|⟨w,u,ad,f,rfl⟩|rfl|⟨w,u,ad,f,rfl⟩|⟨t,ad,rfl⟩
  ·exact AK a h (y:=[]) (mG (by simp)|>.2 (XD _)) rfl b (.inl rfl) (ao4 a g e ad ax)
  ·exact AK a h (y:=[]) (ta (w:=[123]) (by simp) (by decide) (Cl _)) (by decide) b (.inl rfl) (ao5 a g e b.pM ad ax)
  ·exact AK a h (y:=[]) (ta (w:=m1) (by decide) (by decide) (Cl _)) (by decide) b (.inl rfl) (ao6 a g e b.pM ad f ax)
  ·have he:∀(z:aa),[105,102,32,97,59,32,116,104,101,110,10]++(t++[10])++[101,108,105,102,32,98,10,116,104,101,110,32,99,10,101,108,115,101,32]++(u++[59])++[102,105,32,50,62,102]++z=([105,102,32,97,59,32,116,104,101,110,10]++(t++[10])++[101,108,105,102,32,98,10,116,104,101,110,32,99,10,101,108,115,101,32]++(u++[59])++[102,105])++([32,50,62,102]++z):=λz=>by simp
   have hk:=ao7 a g e ad f ax;rw[he] at hk⊢;exact AK a ⟨105,_,rfl,by decide,by decide,by decide,by decide,by decide,.inr ⟨by decide,.inl (by decide)⟩⟩ (ta (w:=m1) (by decide) (by decide) (Cl _)) (by decide) b (.inr (.inl rfl)) hk
  ·exact AK a h (y:=[]) (ta (w:=wU) (by decide) (by decide) (Cl _)) (by decide) b (.inl rfl) (ao9 a g e b.pM ad f ax)
  ·exact AK a h (y:=[]) (ta (w:=nj) (by decide) (by decide) (Cl _)) (by decide) b (.inl rfl) (apc a g e b.pM ad f ax)
  ·exact AK a h (y:=[]) (ta (w:=nj) (by decide) (by decide) (Cl _)) (by decide) b (.inl rfl) (ape a g e b.pM ax)
  ·exact AK a h (y:=[]) (ta (w:=px) (by decide) (by decide) (Cl _)) (by decide) b (.inl rfl) (api a g e b.pM ad f ax)
  grind[apl]
 ·exact AL (by omega) hW (vX.one (.inl rfl)) b ax
 ·exact AL (by omega) hW (vX.one (.inr (.inl rfl))) b ax
 ·exact AL (by omega) hW (vX.one (.inr (.inr rfl))) b ax
theorem sC.of{X:fk}{m d:Nat}(hm:X.c0<=m+1)(eo:y3 X (gk true (some (aZ true m)) (dH (some (aZ true m)))) (y5 d))(hW:∀w,hS d w->eJ X (dH (some (aZ true m))) w):sC X d (m+1):=
 ⟨λ{pre t v b e ctx no pd} aC a bn ax=>ao1 hm (ai.command X.ok (oh X.ok m)) eo (λx k aG=>(aG.aH.facts x).2 k) aC a bn ax,hW,λ{t v b e ctx no pd} k a bn ax=>by obtain⟨c,l,ad,f,rfl⟩:=a;rw[uO] at ax⊢;exact aa1 hm (ai.command X.ok (oh X.ok m)) eo (λx k aG=>(aG.aH.facts x).2 k) bn.ce bn.aa3 bn.aa4 bn.go l.length l c k (cX _) ad f ax⟩
theorem Ni{X:fk}(aG:1<=X.c0):∀d,d<=3->∀n,X.c0+2*d<=n->sC X d n
 |0,_,n,ax=>by
  obtain⟨m,rfl⟩:∃m,n=m+1:=⟨n-1,by omega⟩
  exact sC.of (by omega) (apo (by omega)) (eJ.consts (m:=m+1) (by omega) (oh X.ok (m+1)).dl rfl)
 |d+1,aH,n,ax=>by
  obtain⟨m,rfl⟩:∃m,n=m+3:=⟨n-3,by omega⟩
  have b:=Ni aG d (by omega) (m+1) (by omega);have a:=Ni aG d (by omega) (m+2) (by omega);exact sC.of (by omega) (apq (by omega) (by omega) b a (aa_ X.ok m)) (aaO (by omega) (oh X.ok (m+2)) (by omega) a.aa7 a.wd)
def gn(c:aa):Prop:=(69:UInt8)∉c/\c≠[]/\c.getLast?≠some 10
theorem gn.app{x y:aa}(c:(69:UInt8)∉x)(a:gn y):gn (x++y):=by obtain⟨ad,b,d⟩:=a;refine⟨by grind,by simp[b],?_⟩;simp_all
theorem gn.k{x y:aa}(a:gn x)(b:(69:UInt8)∉y/\y≠[]/\y.getLast?≠some 10):gn (x++y):=gn.app a.1 b
theorem gn.args{W:aa->Prop}(hW:∀w,W w->gn w):∀{ws:bs},(∀w∈ws,W w)->jN ws=[]\/gn (jN ws)
 |[],_=> .inl rfl
 |w::t,h=>by
  have he:jN (w::t)=[32]++(w++jN t):=by rfl
  right;rw[he];refine gn.app (by decide) ?_;rcases gn.args hW (ws:=t) (λw a=>h w (by grind)) with ad|ad
  ·grind
  ·exact gn.app (hW w (h w (by simp))).1 ad
theorem gn.simple{W a:aa->Prop}(hW:∀w,W w->gn w)(b:∀w,a w->gn w){s:aa}(h:rB W a s):gn s:=by
 obtain⟨x,ws,r,ad,c,rfl,d⟩:=h;have e:gn x:=by simp only[sz,kU,qn,tE] at ad;rcases ad with rfl|rfl|rfl|rfl<;>exact⟨by decide,by decide,by decide⟩
 have f:gn (x++jN ws):=by
  rcases gn.args hW c with h|h
  ·grind
  ·exact gn.app e.1 h
 rcases d with rfl|rfl|⟨w,g,rfl⟩
 ·grind
 ·grind[gn.k]
 ·exact gn.app f.1 (gn.app (by decide) (b w g))
theorem gn.list{C:aa->Prop}(b:∀c,C c->gn c){t:aa}(h:uM C t):gn t:=by
 obtain⟨c,l,ad,a,rfl⟩:=h;induction l generalizing c with
 |nil=>grind[cW]
 |cons p l d=>
  have he:c++cW (p::l)=(c++p.1)++(p.2++cW l):=by simp[cW]
  rw[he];obtain⟨e,f⟩:=a p (by simp);refine gn.app ?_ (d p.2 f λq g=>a q (by grind));have:(69:UInt8)∉p.1:=(by decide:∀j∈jx,(69:UInt8)∉j) p.1 e;simp[(b c ad).1,this]
theorem TG:∀d,(∀w,hS d w->gn w)/\∀t,ih d t->gn t
 |0=>by
  have hk:∀w∈oV,gn w:=by unfold gn;decide
  exact⟨hk,λt f=>gn.list (λc aG=>gn.simple hk hk aG) f⟩
 |d+1=>by
  obtain⟨g,a⟩:=TG d
  have hk:∀w∈oV,gn w:=by unfold gn;decide
  have i:∀w,hS (d+1) w->gn w:=by
   intro w h;rcases h with h|⟨t,ad,h|h⟩|⟨v,ad,h⟩
   ·grind
   ·subst h;exact gn.k (gn.app (by decide) (a t ad)) ⟨by decide,by decide,by decide⟩
   ·subst h;exact gn.k (gn.app (by decide) (a t ad)) ⟨by decide,by decide,by decide⟩
   ·subst h;exact gn.k (gn.app (by decide) (g v ad)) ⟨by decide,by decide,by decide⟩
  refine⟨i,λt f=>gn.list (λc aG=>?_) f⟩;rcases aG with aG|aG
  ·exact gn.simple i hk aG
  ·have k:∀{t:aa}{b:UInt8},ih d t->b≠69->(69:UInt8)∉t++[b]:=λf j=>by simp[(a _ f).1,xA j]
   rcases aG with⟨t,ad,rfl⟩|⟨t,ad,rfl⟩|⟨t,u,ad,e,rfl⟩|⟨t,u,ad,e,rfl⟩|⟨t,u,ad,e,rfl⟩|⟨w,u,ad,e,rfl⟩|rfl|⟨w,u,ad,e,rfl⟩|⟨t,ad,rfl⟩
   ·exact gn.k (gn.app (by decide) (a t ad)) ⟨by decide,by decide,by decide⟩
   ·exact gn.app (by simp[(a t ad).1]) ⟨by decide,by decide,by decide⟩
   ·exact gn.app (by simp[(a t ad).1,(a u e).1]) ⟨by decide,by decide,by decide⟩
   ·exact gn.app (by simp[(a t ad).1,(a u e).1]) ⟨by decide,by decide,by decide⟩
   ·exact gn.app (by simp[(a t ad).1,(a u e).1]) ⟨by decide,by decide,by decide⟩
   ·exact gn.app (by simp[(g w ad).1,(a u e).1]) ⟨by decide,by decide,by decide⟩
   ·exact⟨by decide,by decide,by decide⟩
   ·exact gn.app (by simp[(g w ad).1,(a u e).1]) ⟨by decide,by decide,by decide⟩
   ·exact gn.app (by simp[(a t ad).1]) ⟨by decide,by decide,by decide⟩
def sD:fk where
 E:={T:=[],N:=λ_=>0,c:=1,Q:=λ_ _=>True}
 ok:=by
  have aG:∀{b:UInt8}{u:aa},¬(b::u<:+[]):=λh=>by grind
  refine⟨cX _,λ_ _ _ _=>cX _,λ_ _ _ _ _ _=>trivial,λ_ _=>trivial,λ_ _ _ _ _ _ _ _ _ _ _=>trivial,λu h=>absurd h aG,λu h=>absurd h aG,λr h ad a=>?_,λu h=>absurd h aG⟩;grind[au,hs]
 c0:=1
theorem sD.nil{pd:aq}:sD.E.H sD.c0 [] pd:=⟨fK,cX _,trivial⟩
theorem bV.nil{P:aa->Prop}{pd b:aq}{α:Type}{a:α}:bV sD P pd (.ok a [] b):= .inr sD.nil
theorem apr{ao:ak Unit}{no:Bool}{k:Nat}{pd:aq}:ca (ed ao .text no) k [] pd= .ok k [] pd:=by rw[cF,Rh,bm rfl];rfl
theorem iV.text{ao:ak Unit}{no:Bool}{x:aa}{pd a:aq}(b:cS (10::x) pd= .ok true [] a):iV sD ao .text no (10::x) (10::x) [] pd:=by refine⟨hC.nl x,rfl,rfl,λk r0 hl=>?_⟩;show bV sD _ pd (cN _ r0 (ae cS (λ_=>aU (.inl (k+1))) (10::x) pd));rw[aY b];show bV sD _ pd (if _ then ca (ed ao .text no) (k+1) [] a else .bad _);rw[bm (by grind),apr];exact bV.nil
theorem abo{P:aa->Prop}{pd:aq}{α:Type}{x:dt α}(h:bV sD P pd x):∀q,x≠ .deep q:=by rintro q rfl;exact h
theorem aps{t:aa}(a:ih 3 t){n:Nat}(ax:7<=n):∀q,hO true n (t++[10])≠ .deep q:=by have hk:=Ni (X:=sD) (Nat.le_refl _) 3 (by decide) n (by show 1+6<=n;omega);have:=hk.ls (pre:=[]) (t:=t) (v:=[10]) (ctx:= .text) (no:=true) (pd:=[]) (.inl rfl) a.cc (iV.text (ajh rfl)) dx.nil;exact abo this
theorem abp:∀(r:aa),r=(iG r).1/\(iG r).2=[]\/r=(iG r).1++10::(iG r).2
 |[]=> .inl ⟨rfl,rfl⟩
 |b::t=>by
  unfold iG;by_cases h:b=10
  ·grind
  simp_all[abp]
theorem apt:∀(n:Nat)(r q:aa),r.length<=n->ni [69] false r=some q->∃p s,r=p++69::s/\(s=[]/\q=[]\/s=10::q):=by
 intro n;induction n with
 |zero=>simp_all[ni]
 |succ n e=>
  intro r q ax h;cases r with
  |nil=>grind
  |cons b t=>
   rw[Cg] at h;simp only[eC,cm] at h;have c:=abp (b::t);have a:=Lx (b::t) (by simp);by_cases hl:(iG (b::t)).1=[69]
   ·rw[bm hl] at h;cases h;rcases c with⟨ad,d⟩|ad
    ·exact⟨[],[],by grind,.inl ⟨rfl,d⟩⟩
    ·exact⟨[],10::(iG (b::t)).2,by grind,.inr rfl⟩
   grind
theorem apu{t:aa}(i:(69:UInt8)∉t):dx sD [([69],false)] (t++mh):=by
 intro z r' d j;right;have k:r'=[]:=by
  have ad:ni [69] false z=some r':=by grind[lY]
  obtain⟨p,s,e,l⟩:=apt z.length z r' (cX _) ad;obtain⟨y,f⟩:=d;rw[e] at f;have g:(y++10::p)++69::s=(t++[10,98,111,100,121,10])++69::[10]:=by grind[mh]
  have m:s=[10]:=by
   rcases List.append_eq_append_iff.1 g with⟨a,h,b⟩|⟨a,h,b⟩
   ·cases a with
    |nil=>grind
    |cons c a=>
     simp only[hp,C0] at b;have:(69:UInt8)∈t++[10,98,111,100,121,10]:=by grind
     grind
   ·cases a with
    |nil=>grind
    |cons c a=>
     simp only[hp,C0] at b;obtain⟨rfl,b⟩:=b;have:(69:UInt8)∈[(10:UInt8)]:=by grind
     grind
  grind
 grind[sD.nil]
abbrev pN:aq:=[([69],false)]
theorem apv:cS mh pN= .ok true [] []:=by
 have a:lY pN [98,111,100,121,10,69,10]= .inl []:=by
  unfold lY;have:ni [69] false [98,111,100,121,10,69,10]=some []:=by rw[Cg];simp only[eC,cm];rw[aW (by decide)];show ni [69] false [69,10]=_;rw[Cg];decide
  simp only[this];rfl
 rw[show mh=10::[98,111,100,121,10,69,10] from rfl,si,cF,ux (hC.nl _).rD];have:ae jb (λ_=>aU (.inl true)) (10::[98,111,100,121,10,69,10]) pN=(.ok (.inl true) [] []:dt (Bool⊕Bool)):=by unfold ae;rw[s9,a];rfl
 rw[this];show(if([]:aa).length<(10::[98,111,100,121,10,69,10]:aa).length then ca h2 true [] [] else .bad [])=_;rw[bm (by decide),cF,rm l2 (by decide)];rfl
theorem ar6{b:UInt8}{t:aa}(h:oN b=false)(a:b≠45):br (60::60::b::t)=[60,60]:=by simp only[oN,Je,Nu,ne_eq] at h;simp_all[br,la,xA]
theorem apw{lo:Option dS}{D:ak Unit}{z:aa}(a:c1 z=true)(c:z≠[])(g:bu z=some z){o:aa}(h:au z= .op o)(ad:eV o=false)(i:o≠[40]):gk true lo D ([99,97,116]++([32,60,60,69]++z)) []= .ok () z pN:=by
 have j:hC z z:=⟨c,a,g,.inr ⟨o,h,ad,i⟩⟩;obtain⟨k,f⟩:=nP (w:=[99,97,116]) (r:=[32,60,60,69]++z) (by decide) (by decide) (by decide) rfl;have s1:bu ([32,60,60,69]++z)=some (60::60::69::z):=by show bu (32::60::60::69::z)=_;rw[kP];exact kB (by decide) (by decide) (by decide)
 have v:dy D ([32,60,60,69]++z) []= .ok true z pN:=by
  have l:fF ([32,60,60,69]++z) []= .ok (some [60,60]) (69::z) []:=by unfold fF;rw[s1];rfl
  unfold dy;rw[aY l];simp only;rw[bm trivial];have m:hi false (69::z) []= .ok () z pN:=by
   obtain⟨n,p⟩:=nP (w:=[69]) (r:=z) (by decide) (by decide) (by decide) a;have d:bu (69::z)=some (69::z):=p;have e:au (69::z)= .word [69] true:=n;unfold hi;rw[d];simp only[e];have aH:dm (69::z)=some ([69],z,[]):=by
    have q:c1 (69::z)=false:=Ro (by decide);rw[EH,aW (by grind),if_neg (by decide),if_neg (by decide),if_neg (by decide),if_neg (by decide)];have:dm z=some ([],z,[]):=by
     cases z with
     |nil=>grind
     |cons b t=>rw[EH,bm a]
    grind
   grind
  rw[aY m];rfl
 unfold gk;rw[aY (cA f),k,aW (by simp),aW (by decide)];simp only;rw[aW (by decide),aY (show dy D ([99,97,116]++([32,60,60,69]++z)) []= .ok false ([99,97,116]++([32,60,60,69]++z)) [] from XF f (by decide) (by decide)),aW (by simp),aY (FZ (by decide) rfl (by simp)),bm (by decide),aY (cA s1)];have s:au (60::60::69::z)= .op [60,60]:=by rfl
 rw[s,aW (by decide)];have u:dy D (60::60::69::z) []= .ok true z pN:=by
  have:dy D (60::60::69::z) []=dy D ([32,60,60,69]++z) []:=by have s2:=lD _ _ _ (cX _) s1;simp_all[dy,ae,fF]
  grind
 unfold hv;rw[cF,aY u,bm rfl];show(if _ then hv true D z pN else .bad _)=_;rw[bm (by grind)];exact j.simple D pN
end Go.Eng
