/- Part 5 of what FnPrefix needs. No condition. -/
import Derived.Test.YthnjiffnjaaejaaGreatDoorFnPrefixD
set_option linter.all false
namespace Go.Eng
open Go Go.Proofs
section
variable{R:bk}{n:Nat}(bj:oG R n){e:cg}(bc:e.ne=30- (n:Int))
include bj bc
theorem Df{c:Ctx}{x:aa}(aF:jA c=[119])(u:c≠ .text)(v:∀t,dT c t=true->∃w,t= .word w true/\w≠[]/\w.all gp=true)(M:x.length<=100){r:aa}{pd:aq}{st:ah}(h:cC e r pd)(y:fZ e r pd st):
  bM false e r (ae (((a1 true n).ls c false).aM x) (λ_=>sQ) r pd) (λb=>b.2) (λa r' b=>b.1=a/\a≠[]/\dT c (.word a true)=true/\r'≠[]) (pK R st (o6 c) x):=by
 unfold pK;obtain⟨⟨z,A⟩,j,d⟩:=bj.im e c false (by cases c<;>first|rfl|grind[jA]) bc r pd st h y;dsimp only at d;rw[aF] at j;have B:R.nP st [119] (o6 c) true=some (z,A):=j;rw[B,aP rfl];dsimp only;have k:=(tJ true n).ls c false r pd;have C:=h.nl.ia h.sfx;cases hm:(a1 true n).ls c false r pd with
 |ok a r1 g=>
  rw[hm] at d;obtain⟨l,a2,a3,_⟩:=d;have f:(((a1 true n).ls c false).aM x) r pd= .ok a r1 g:=jC.2 hm;rw[aZ f];obtain⟨ao,e7⟩:=A0 true n;rw[e7] at hm;obtain⟨N,D⟩:=y4 u hm;obtain⟨w,E,m,F⟩:=v _ D;have aB:=(rT (C.ia l) m F).2 E;have h0:=a3.eta.2.2.2.2.1;rw[h0];simp only[bA,gW,aR];obtain⟨tr,G,_⟩:=a3;rw[G,wg a2,aP rfl,aB];have H:sQ r1 g= .ok w (r1.drop w.length) g:=by grind[sQ]
  rw[H];have o:=amA r1;rw[aB] at o;have i:=Ts (r:=r1) (by grind);rw[aB] at i;obtain⟨q,rfl⟩:=o;rw[pf] at i⊢;have p:q<:+w++q:=gY w q;have I:W (az e.S (w++q)+(w.length:Int))=az e.S q:=kB h.b0 a2.sfx;refine⟨(w,e.st q g tr),?_,p.trans l,a2.mono p,⟨tr,rfl,λJ=>absurd J i⟩,rfl,m,?_,i⟩
  ·show some (w,(e.S,W (az e.S (w++q)+(w.length:Int)),e.ne,g,(0:Int),(0:Int),([]:aa),([]:bt),tr))=_;rw[I];rfl
  grind
 |more op nd ds=>
  rw[hm] at d k;simp only[ea] at k;have O:=h.jS;have s:=d.z;have f:(((a1 true n).ls c false).aM x) r pd= .more op (cP nd ds x).1 (cP nd ds x).2:=by grind[ak.aM]
  rw[dh f,s.1];simp only[show¬((1:Int)=0) by decide,bF,e8,aK];obtain⟨P,K,L⟩:=xy (e:=e) (nm:=[]) (x:=x) (r1:=r) (r0:=r) (nd:=nd) (ds:=ds) s fQ h.sfx (.inl rfl) (by omega) h.b0 (by omega);rw[K,aP rfl];exact⟨_,rfl,L.s⟩
 |bad q=>
  rw[hm] at d;have f:(((a1 true n).ls c false).aM x) r pd= .bad q:=by grind[ak.aM]
  rw[g5 f,d.1];simp only[show¬((2:Int)=0) by decide,bF,e8,aK];rw[pU (by rw[d.1];decide),aP rfl];exact⟨_,rfl,d⟩
 |deep q=>
  rw[hm] at d;have f:(((a1 true n).ls c false).aM x) r pd= .deep q:=by grind[ak.aM]
  rw[jV f,d.1];simp only[show¬((2:Int)=0) by decide,bF,e8,aK];rw[pU (by rw[d.1];decide),aP rfl];exact⟨_,rfl,d⟩
end
theorem aac(t:Tok):dT .rL t=cG t iX:=rfl
theorem aad(t:Tok):dT .q5 t=cG t [125]:=rfl
theorem aae(t:Tok):dT .jY t=cG t fe:=rfl
theorem aaf(t:Tok):dT .pM t=cG t gU:=rfl
theorem Nd(t:Tok):dT .done t=cG t iO:=rfl
theorem Ga{t:Tok}{w:aa}(h:cG t w=true):t= .word w true:=by grind[cG]
theorem Gb{c:Ctx}{kw:aa}(h:∀t,dT c t=cG t kw)(a:kw≠[]/\kw.all gp=true):∀t,dT c t=true->∃w,t= .word w true/\w≠[]/\w.all gp=true:=by grind[Ga]
theorem Jt{b:UInt8}{t:aa}:(b=10/\av (b::t)= .line)\/(b≠10/\bs (b::t)≠[]/\av (b::t)= .op (bs (b::t)))\/(b≠10/\bs (b::t)=[]/\av (b::t)= .word (c8 (b::t)).1 (c8 (b::t)).2):=by rw[Da];grind
section
variable{R:bk}{n:Nat}(hD:kC R n){e:cg}(bc:e.ne=30- (n:Int))
include hD bc
theorem amB{r:aa}{pd:aq}{st:ah}(h:cC e r pd)(J:fZ e r pd st):bM false e r (pN (ba true n) r pd) (λst=>st) (λ_ _ _=>True) (E1 R st):=by
 unfold pN E1 a_;refine bM.rep (en:=λ_ r pd x=>fZ e r pd x) (λk s r pd x y z K hk=>?_) bC () r pd _ (we h) h J
 have E:∀x:ah,x.2.2.2.2.1≠0->k x=some x:=by intro x z;obtain⟨k',ad⟩:=K x;simp_all[LS]
 have he:=z.eta;unfold LS;dsimp only;rw[he.2.2.2.2.1,he.2.2.2.1,he.2.2.2.2.2.2.2];simp only[bA,aK];have A:(x.1,x.2.1,x.2.2.1,pd,(0:Int),x.2.2.2.2.2.1,x.2.2.2.2.2.2.1,([]:bt),x.2.2.2.2.2.2.2.2)=x:=by grind
 rw[A];rcases xx y z with⟨d,eF,B,C,L,f,l,M⟩|⟨B,C⟩
 ·rw[C,aP rfl,aZ (cB B)];obtain⟨c,rfl,N⟩:=L;have D:gw ((e.st d pd c).1,(e.st d pd c).2.1,(e.st d pd c).2.2.1,pd,(e.st d pd c).2.2.2.2.1,(e.st d pd c).2.2.2.2.2.1,(e.st d pd c).2.2.2.2.2.2.1,[],(e.st d pd c).2.2.2.2.2.2.2.2)=some (decide (d=[])):=qA e d pd c;have O:ik ((e.st d pd c).1,(e.st d pd c).2.1,(e.st d pd c).2.2.1,pd,(e.st d pd c).2.2.2.2.1,(e.st d pd c).2.2.2.2.2.1,(e.st d pd c).2.2.2.2.2.2.1,[],(e.st d pd c).2.2.2.2.2.2.2.2)=some (d.headD 0):=F6 f;have P:hF ((e.st d pd c).1,(e.st d pd c).2.1,(e.st d pd c).2.2.1,pd,(e.st d pd c).2.2.2.2.1,(e.st d pd c).2.2.2.2.2.1,(e.st d pd c).2.2.2.2.2.2.1,[],(e.st d pd c).2.2.2.2.2.2.2.2)=some (bs d):=rU f;rw[D,aP rfl];cases d with
  |nil=>simp only[bA,aK];obtain⟨g,j,m⟩:=uX (tr:=c) (x:=[]) f (by simp);have o:g_ ((e.st [] pd c).1,(e.st [] pd c).2.1,(e.st [] pd c).2.2.1,pd,(e.st [] pd c).2.2.2.2.1,(e.st [] pd c).2.2.2.2.2.1,(e.st [] pd c).2.2.2.2.2.2.1,[],(e.st [] pd c).2.2.2.2.2.2.2.2) []=some g:=j;rw[o,aP rfl];exact⟨g,rfl,(m.mono l).s⟩
  |cons b t=>
   simp only[reduceCtorEq,bF,aR];rw[O,aP rfl,P];simp only[zB,pR,n9];rcases Jt (b:=b) (t:=t) with⟨p,u⟩|⟨p,u,w⟩|⟨p,u,w⟩
   ·subst p;rw[u];simp only[bA,aK];exact⟨_,rfl,l,f,⟨c,rfl,N⟩,trivial⟩
   ·rw[w];simp only[p,bF,aR];by_cases F:bs (b::t)=[59]
    ·simp only[F,bA,aK,cD];have Q:av (b::t)= .op [59]:=by grind
     obtain⟨q,aD⟩:=(iq Q).2.1;have S:b=59/\t=q:=by grind
     obtain⟨rfl,rfl⟩:=S;have G:t<:+59::t:=ee 59 t;have T:W (az e.S (59::t)+1)=az e.S t:=iR y.b0 f.sfx;refine⟨e.st t pd c,?_,G.trans l,f.mono G,⟨c,rfl,λU=>absurd U (f.za (by decide))⟩,trivial⟩;show some (e.S,W (az e.S (59::t)+1),e.ne,pd,(0:Int),(0:Int),([]:aa),([]:bt),c)=_;rw[T];rfl
    ·simp only[F,u,bF,e8,aK,aR,cl];obtain⟨g,j,m⟩:=pW (tr:=c) ((e.st (b::t) pd c).2.1) f l;have o:hq ((e.st (b::t) pd c).1,(e.st (b::t) pd c).2.1,(e.st (b::t) pd c).2.2.1,pd,(e.st (b::t) pd c).2.2.2.2.1,(e.st (b::t) pd c).2.2.2.2.2.1,(e.st (b::t) pd c).2.2.2.2.2.2.1,[],(e.st (b::t) pd c).2.2.2.2.2.2.2.2) (e.st (b::t) pd c).2.1=some g:=j;rw[o,aP rfl];exact⟨_,rfl,by cases j;exact m⟩
   ·rw[w];simp only[p,u,bF,bA,gW,aR,reduceCtorEq];have V:=F3 hD bc (tr0:=c) f;have X:c3 (b::t)=false:=(y8 M w).2;refine bM.iF c4.k (V.mono l) (λa H Y i Z jy eY zf _=>?_) (λop nd ds i _ v=>?_) (λi v=>?_)
    ·have hl:=vU (mi true n) (by simp) X Z;have I:H.length<r.length:=by grind
     exact bM.inl I (hk () H Y i.2.2 jy eY I zf)
    ·exact⟨i.2.2,E i.2.2 (by rw[v.z.1];decide),v⟩
    ·exact⟨i.2.2,E i.2.2 (by rw[v.1];decide),v⟩
 ·rw[C,aP rfl,dh (op:=[]) (nd:=[]) (ds:=pd) (by rw[iE B];rfl)];have D:gw ((e.tt pd).1,(e.tt pd).2.1,(e.tt pd).2.2.1,pd,(e.tt pd).2.2.2.2.1,(e.tt pd).2.2.2.2.2.1,(e.tt pd).2.2.2.2.2.2.1,[],(e.tt pd).2.2.2.2.2.2.2.2)=some true:=o7 e pd;rw[D,aP rfl];simp only[aK];obtain⟨g,j,m⟩:=De (x:=[]) y.A5 (by simp);have o:g_ ((e.tt pd).1,(e.tt pd).2.1,(e.tt pd).2.2.1,pd,(e.tt pd).2.2.2.2.1,(e.tt pd).2.2.2.2.2.1,(e.tt pd).2.2.2.2.2.2.1,[],(e.tt pd).2.2.2.2.2.2.2.2) []=some g:=j;rw[o,aP rfl];exact⟨g,rfl,(m.mono oK).s⟩
end
theorem Ju{α β:Type}(a:ak α)(k:α->ak β)(x:aa):(ae a k).aM x=ae (a.aM x) (λv=>(k v).aM x):=by grind[ak.aM,ae]
theorem aag{α:Type}{p:Prop}[Decidable p](a b:ak α)(x:aa):(if p then a else b).aM x=if p then a.aM x else b.aM x:=by grind
theorem Tu{α:Type}(a:α)(x:aa):(aW a).aM x=aW a:=rfl
theorem aah(k:Nat)(x:aa):(b2 k).aM x=b2 k:=rfl
theorem Jv{α β:Type}(a:α)(k:α->ak β):ae (aW a) k=k a:=rfl
theorem aai{D:ak Unit}:∀(r w:aa)(pd:aq),c8 r=(w,true)->r.drop w.length≠[]->cQ D r pd= .ok () (r.drop w.length) pd
 |[],w,pd,h,ax=>by simp[c8] at h;subst h;exact absurd rfl ax
 |b::t,w,pd,h,ax=>by
  by_cases c:c3 (b::t)=true
  ·have:w=[]:=by unfold c8 at h;rw[bo c] at h;cases h;rfl
   subst this;unfold cQ;rw[cH];simp[c,cO]
  ·have d:c3 (b::t)=false:=by simpa using c
   have a:¬(b=92\/b=39\/b=34\/b=96\/gb (b::t)=true):=by intro e;rw[Tm d e] at h;cases h
   have h0:c8 (b::t)=(match c8 t with|(w,true)=>(b::w,true)|(_,false)=>([],false)):=by
    rw[c8,d,aS (by simp),aS a];cases c8 t with
    |mk w p=>cases p<;>rfl
   rw[h0] at h;cases aB:c8 t with
   |mk f p=>
    rw[aB] at h;cases p with
    |false=>cases h
    |true=>
     simp only at h;cases h;simp only[mA,GJ] at ax⊢;simp only[GO,Bool.not_eq_true] at a;have g:cE D (some (eN D)) (b::t) pd= .ok () t pd:=by unfold cE;simp only;rw[aS a.1,aS a.2.2.2.1,a.2.2.2.2,aS (by simp)];simp[a.2.1,a.2.2.1]
     rw[CT d g (by simp)];exact aai t f pd aB ax
noncomputable def A7(R:bk):ah->Option ah:=λx=>
 (bif(!(decide (x.2.2.2.2.1=0))) then(aw (gx x ([]) ([10,100,111,32,120,10,100,111,110,101]:aa)) λ(a:ah)=>some a) else(aw (pK R (x.1,(W (x.2.1+2)),x.2.2.1,x.2.2.2.1,x.2.2.2.2.1,x.2.2.2.2.2.1,x.2.2.2.2.2.2.1,x.2.2.2.2.2.2.2.1,x.2.2.2.2.2.2.2.2) ([([100,111,110,101]:aa)]:bt) ([10,100,111,110,101]:aa)) λ(c,b)=>some b))
noncomputable def A8(R:bk):ah->Option ah:=λa=>
 (cT ((decide (a.2.2.2.2.1=0))=true) (gw a) false λ(c:Bool)=>(cT ((bif(decide (a.2.2.2.2.1=0)) then(!c) else false)=true) (lL a) [] λ(d:aa)=>(bif(bif(bif(decide (a.2.2.2.2.1=0)) then(!c) else false) then(!(decide (d=([100,111]:aa)))) else false) then(aw (hq a a.2.1) λ(b:ah)=>some (b.1,b.2.1,b.2.2.1,a.2.2.2.1,b.2.2.2.2.1,b.2.2.2.2.2.1,b.2.2.2.2.2.2.1,a.2.2.2.2.2.2.2.1,b.2.2.2.2.2.2.2.2)) else(cT ((decide (a.2.2.2.2.1=0))=true) (gw a) false λ(e:Bool)=>(bif(bif(decide (a.2.2.2.2.1=0)) then e else false) then(aw (g_ a ([])) λ(f:ah)=>A7 R f) else A7 R a)))))
noncomputable def xH(R:bk):ah->Option ah:=λx=>
 (bif(!(decide (x.2.2.2.2.1=0))) then(aw (gx x ([]) ([10,100,111,32,120,10,100,111,110,101]:aa)) λ(a:ah)=>some a) else(aw (ow x) λ(b:ah)=>A8 R b))
theorem Ng:([10,100,111,32,120,10,100,111,110,101]:aa)=er:=rfl
theorem wj:(gU:aa)≠[]/\gU.all gp=true:=by decide
theorem Gc:(iO:aa)≠[]/\iO.all gp=true:=by decide
theorem A9:(fB:aa)≠[]/\fB.all gp=true:=by decide
section
variable{R:bk}{n:Nat}(bj:oG R n){e:cg}(bc:e.ne=30- (n:Int))
theorem aaj{r:aa}{nd:aa}{ds:aq}{st:ah}{d:aq}(h0:cC e r d)(hm:iG true e r nd ds st)(f:nd.length+et ds<=100*e.S.length+500):∃a,A8 R st=some a/\iG false e r (cP nd ds er).1 (cP nd ds er).2 a:=by
 have j:er.length=10:=rfl;rcases hm with ad|⟨_,rfl,rfl⟩
 ·obtain⟨a,b,c⟩:=xy (e:=e) (nm:=[]) (x:=er) (r1:=r) (r0:=r) (nd:=nd) (ds:=ds) ad fQ h0.sfx (.inl rfl) (by omega) h0.b0 (by omega);unfold A8;rw[ad.1];simp only[show¬((1:Int)=0) by decide,bF,cT,ew,cl,aR];unfold A7;rw[ad.1];simp only[show¬((1:Int)=0) by decide,bF,e8,aK];rw[Ng,b,aP rfl];exact⟨a,rfl,c.s⟩
 ·simp only[DE,Nat.zero_add] at f;have g:(e.tt ds).2.2.2.2.1=0:=rfl;unfold A8;rw[g,o7,fY];have k:=tK ds;have h:g_ (e.tt ds) []=some (e.S,(e.S.length:Int),e.ne,ds,1,0,[],[],true):=by unfold g_ a_ cg.tt;simp only[bA,aK];have:=h0.b0;rw[C_ _ _ _ _ _ _ _ _ _ _ (by simp) (by grind) (by omega),aP rfl];rfl
  have i:n8 e r [] ds (e.S,(e.S.length:Int),e.ne,ds,1,0,[],[],true):=by
   refine⟨rfl,rfl,rfl,⟨rfl,?_,?_,?_,?_⟩,?_⟩
   ·grind[az]
   ·grind
   ·grind
   ·simp
   simp
  simp only[bA,cD,gW,aK,aR,cT,ew,cl,n9];rw[h,aP rfl];obtain⟨a,b,c⟩:=xy (e:=e) (nm:=[]) (x:=er) (r1:=r) (r0:=r) (nd:=[]) (ds:=ds) i fQ h0.sfx (.inl rfl) (by grind) h0.b0 (by omega);unfold A7;simp only[show¬((1:Int)=0) by decide,bF,e8,aK];rw[Ng,b,aP rfl];exact⟨a,rfl,c.s⟩
theorem Tv{r:aa}{nd:aa}{ds:aq}{st:ah}{b:aq}(h0:cC e r b)(hm:iG true e r nd ds st)(c:nd.length+et ds<=100*e.S.length+500):∃a,xH R st=some a/\iG false e r (cP nd ds er).1 (cP nd ds er).2 a:=by
 have i:er.length=10:=rfl;rcases hm with ad|⟨d,rfl,rfl⟩
 ·obtain⟨a,f,g⟩:=xy (e:=e) (nm:=[]) (x:=er) (r1:=r) (r0:=r) (nd:=nd) (ds:=ds) ad fQ h0.sfx (.inl rfl) (by omega) h0.b0 (by omega);unfold xH;rw[ad.1,Ng];simp only[show¬((1:Int)=0) by decide,bF,e8,aK];rw[f,aP rfl];exact⟨a,rfl,g.s⟩
 ·have h:(e.tt ds).2.2.2.2.1=0:=rfl;unfold xH;rw[h];simp only[bA,gW,aR];rw[aaa,aP rfl];exact aaj h0 (.inr ⟨d,rfl,rfl⟩) c
theorem aak{r:aa}{st:ah}(hm:iS e r st):∃a,A8 R st=some a/\iS e r a:=by unfold A8;rw[hm.1];simp only[show¬((2:Int)=0) by decide,bF,cT,ew,cl,aR];unfold A7;rw[hm.1];simp only[show¬((2:Int)=0) by decide,bF,e8,aK];rw[pU (by rw[hm.1];decide),aP rfl];grind
theorem Tw{r:aa}{st:ah}(hm:iS e r st):∃a,xH R st=some a/\iS e r a:=by unfold xH;rw[hm.1];simp only[show¬((2:Int)=0) by decide,bF,e8,aK];rw[pU (by rw[hm.1];decide),aP rfl];grind
include bj bc
theorem amD{r r0:aa}{pd:aq}{tr:Bool}(h:cC e r pd)(h0:r<:+r0)(i:bx r=some r)(d:av r= .word gU true):bM false e r0 (iP (a1 true n) er r pd) (λst=>st) (λ_ _ _=>True) (A7 R (e.st r pd tr)):=by
 unfold iP A7;have j:(e.st r pd tr).2.2.2.2.1=0:=rfl;rw[j];simp only[bA,gW,aR];rw[aZ (jC.2 (F9 i d))];obtain⟨q,rfl⟩:=(qu d).1;rw[pf];have f:q<:+gU++q:=gY gU q;have k:W (az e.S (gU++q)+2)=az e.S q:=kB (w:=gU) h.b0 h.sfx;have l:q≠[]:=by have:=Ts (r:=gU++q);rw[(rT (h.nl.ia h.sfx) wj.1 wj.2).2 d] at this;grind[wj]
 have g:=h.mono f;have m:((e.st (gU++q) pd tr).1,W ((e.st (gU++q) pd tr).2.1+2),(e.st (gU++q) pd tr).2.2.1,(e.st (gU++q) pd tr).2.2.2.1,(0:Int),(e.st (gU++q) pd tr).2.2.2.2.2.1,(e.st (gU++q) pd tr).2.2.2.2.2.2.1,(e.st (gU++q) pd tr).2.2.2.2.2.2.2.1,(e.st (gU++q) pd tr).2.2.2.2.2.2.2.2)=e.st q pd tr:=by show(e.S,W (az e.S (gU++q)+2),e.ne,pd,(0:Int),(0:Int),([]:aa),([]:bt),tr)=_;rw[k];rfl
 rw[m,Tt (by simp) Nd Gc (h.nl.ia g.sfx)];refine bM.iF (C:=λx=>x) c4.id ((Df bj bc (c:= .done) rfl (by simp) (Gb Nd Gc) (by decide) g ⟨tr,rfl,λo=>absurd o l⟩).mono (f.trans h0)) (λa r1 t b u s1 p s _=>?_) (λop nd ds b _ v=>?_) (λb y=>?_)
 ·exact⟨b.2,rfl,s1,p,s,trivial⟩
 ·grind
 grind
theorem amE{r r0:aa}{pd:aq}{st:ah}(h:cC e r pd)(i:fZ e r pd st)(h0:r<:+r0)(j:r0<:+e.S)(k:bx r=some r):bM false e r0 (iP (a1 true n) er r pd) (λst=>st) (λ_ _ _=>True) (A8 R st):=by
 obtain⟨tr,rfl,t⟩:=i;unfold A8;have l:(e.st r pd tr).2.2.2.2.1=0:=rfl;rw[l,qA,fY,wg h,fY];by_cases c:r=[]
 ·subst c;simp only[bA,cD,gW,aK,aR,cT,ew,cl,n9];obtain⟨m,a,b⟩:=uX (tr:=tr) (x:=[]) h (by simp);rw[a,aP rfl];have d:iP (a1 true n) er [] pd= .more [] (cP [] pd er).1 (cP [] pd er).2:=by unfold iP;refine dh ?_;unfold ak.aM cY na;rw[aZ (cB mg)];rfl
  rw[d];have u:=tK pd;have aB:=h.jS;simp only[DE] at aB;obtain⟨o,p,q⟩:=xy (e:=e) (nm:=[]) (x:=er) (r1:=[]) (r0:=r0) (nd:=[]) (ds:=pd) b h0 j (.inl rfl) (by simp only[DE];have:er.length=10:=rfl;omega) h.b0 (by decide);unfold A7;rw[b.1];simp only[show¬((1:Int)=0) by decide,bF,e8,aK];rw[Ng,p,aP rfl];exact⟨o,rfl,q.s⟩
 ·simp only[c,bF,bA,e8,aK,cD];have g:=h.nl.ia h.sfx;by_cases aE:ja r=[100,111]
  ·have s:=(rT g wj.1 wj.2).1 aE;simp only[aE,bA,gW,aR];simp_all[fY,amD]
  ·simp only[aE,bF,e8,aK];have s:av r≠ .word gU true:=λf=>aE ((rT g wj.1 wj.2).2 f);have d:iP (a1 true n) er r pd= .bad r:=by unfold iP;refine g5 ?_;unfold ak.aM cY na;rw[aZ (cB k)];have ad:av r≠ .eof:=λf=>c (l2.1 f);rw[aS ad,aS (by grind[Ga])];rfl
   rw[d];obtain⟨m,a,b⟩:=pW (tr:=tr) ((e.st r pd tr).2.1) h h0;rw[a,aP rfl];exact⟨_,rfl,by cases a;exact b⟩
theorem Tx{r r0:aa}{pd:aq}{st:ah}(h:cC e r pd)(j:fZ e r pd st)(h0:r<:+r0)(o:r0<:+e.S):bM false e r0 (ae (cU.aM er) (λ_=>iP (a1 true n) er) r pd) (λst=>st) (λ_ _ _=>True) (xH R st):=by
 unfold xH;rw[j.eta.2.2.2.2.1];simp only[bA,gW,aR];have l:=FY h j;obtain⟨p,m,b⟩:=l;rw[m,aP rfl];have k:=aI.lines (c:=0) r pd;have aB:=h.jS;cases hm:cU r pd with
 |ok a r1 s=>grind[aZ,jC,amE]
 |more op nd ds=>
  rw[hm] at b k;simp only[ea] at k;have d:(cU.aM er) r pd= .more op (cP nd ds er).1 (cP nd ds er).2:=by grind[ak.aM]
  rw[dh d];obtain⟨f,g,i⟩:=aaj (R:=R) h b (by omega);exact⟨f,g,iG.mono i h0⟩
 |bad q=>
  rw[hm] at b;have d:(cU.aM er) r pd= .bad q:=by grind[ak.aM]
  rw[g5 d];obtain⟨f,g,i⟩:=aak (R:=R) b;exact⟨f,g,i.mono h0⟩
 |deep q=>
  rw[hm] at b;have d:(cU.aM er) r pd= .deep q:=by grind[ak.aM]
  rw[jV d];obtain⟨f,g,i⟩:=aak (R:=R) b;exact⟨f,g,i.mono h0⟩
end
theorem amF(l:dU)(D:ak Unit):pO l D=ae (bQ tq) (λt=>match t with
  | .eof=>b7 tq
  | .word w true=>if me w then ae (b2 w.length) λ_=>ae ((bQ []).aM er) λt=>if t= .op [59] then ae (b2 1) λ_=>ae (cU.aM er) λ_=>iP l er else
    ae (cU.aM er) λ_=>ae ((bQ []).aM er) λt=>if cG t fB then ae (b2 2) λ_=>ae ((pN D).aM er) λ_=>ae (cU.aM er) λ_=>iP l er else iP l er
   else bK
  |_=>bK):=by
 unfold pO;congr 1
 funext t
 cases t with
 |word w p=>
  cases p with
  |true=>
   simp only[Ju,kA];congr 1;congr 1
   funext _
   congr 1
   funext t
   rw[aag,yZ];congr 1
   ·simp[Ju,kA,aah,Tu,Jv]
   ·simp only[Ju,kA,Tu];congr 1
    funext _
    congr 1
    funext t
    rw[aag,yZ];simp[Ju,kA,aah,Tu,Jv]
  |false=>rfl
 |_=>rfl
theorem aal:∀(r w:aa),dx r->r≠[]->c8 r=(w,true)->r.drop w.length≠[]
 |[],w,_,c,_=>absurd rfl c
 |b::t,w,a,_,h=>by
  by_cases i:c3 (b::t)=true
  ·simp_all[c8]
  ·have d:c3 (b::t)=false:=by grind
   have e:¬(b=92\/b=39\/b=34\/b=96\/gb (b::t)=true):=by grind[Tm]
   have h0:c8 (b::t)=(match c8 t with|(w,true)=>(b::w,true)|(_,false)=>([],false)):=by rw[c8,d,aS (by simp),aS e];grind
   rw[h0] at h;have j:b≠10:=by simp_all[c3]
   have f:t≠[]:=by
    rintro rfl;rcases a with ad|⟨x,ad⟩
    ·cases ad
    ·cases x with
     |nil=>grind
     |cons y ys=>simp_all
   cases aB:c8 t with
   |mk g p=>
    rw[aB] at h;cases p with
    |false=>cases h
    |true=>simp only at h;cases h;simp only[mA,GJ];exact aal t g (a.ia (ee b t)) f aB
noncomputable def A_(R:bk):ah->Option ah:=λa=>
 (cT ((decide (a.2.2.2.2.1=0))=true) (lL a) [] λ(b:aa)=>(bif(bif(decide (a.2.2.2.2.1=0)) then(decide (b=([105,110]:aa))) else false) then(aw (E1 R (a.1,(W (a.2.1+2)),a.2.2.1,a.2.2.2.1,a.2.2.2.2.1,a.2.2.2.2.2.1,a.2.2.2.2.2.2.1,a.2.2.2.2.2.2.2.1,a.2.2.2.2.2.2.2.2)) λ(c:ah)=>xH R c) else xH R a))
noncomputable def Jw(R:bk):ah->Option ah:=λx=>
 (aw (hF x) λ(a:aa)=>(bif(decide (a=([59]:aa))) then xH R (x.1,(W (x.2.1+1)),x.2.2.1,x.2.2.2.1,x.2.2.2.2.1,x.2.2.2.2.2.1,x.2.2.2.2.2.2.1,x.2.2.2.2.2.2.2.1,x.2.2.2.2.2.2.2.2) else(aw (ow x) λ(b:ah)=>A_ R b)))
noncomputable def Nh(R:bk)(p:Int):(aa×Bool×ah)->Option ah:=λ(e,d,a)=>
 (cT ((bif(!(decide (a.2.2.2.2.1=0))) then true else(!d))=false) (AD e) false λ(f:Bool)=>(bif(bif(bif(!(decide (a.2.2.2.2.1=0))) then true else(!d)) then true else(!f)) then(aw (hq a p) λ(b:ah)=>some (b.1,b.2.1,b.2.2.1,a.2.2.2.1,b.2.2.2.2.1,b.2.2.2.2.2.1,b.2.2.2.2.2.2.1,a.2.2.2.2.2.2.2.1,b.2.2.2.2.2.2.2.2)) else(aw (g9 a) λ(c:ah)=>Jw R (c.1,c.2.1,c.2.2.1,a.2.2.2.1,c.2.2.2.2.1,c.2.2.2.2.2.1,c.2.2.2.2.2.2.1,a.2.2.2.2.2.2.2.1,c.2.2.2.2.2.2.2.2))))
noncomputable def Ty(R:bk):ah->Option ah:=λx=>
 (aw (gw x) λ(b:Bool)=>(bif b then(aw (g_ x ([120,10,100,111,32,120,10,100,111,110,101]:aa)) λ(c:ah)=>some c) else(aw (vR x) λ(d:Bool)=>(bif d then(aw (hq x x.2.1) λ(a:ah)=>some (a.1,a.2.1,a.2.2.1,x.2.2.2.1,a.2.2.2.2.1,a.2.2.2.2.2.1,a.2.2.2.2.2.2.1,x.2.2.2.2.2.2.2.1,a.2.2.2.2.2.2.2.2)) else(aw (qm R x) λy=>Nh R x.2.1 y)))))
theorem amG(R:bk)(x0:ah):E2 R x0=aw (g9 x0) λa=>Ty R (a.1,a.2.1,a.2.2.1,x0.2.2.2.1,a.2.2.2.2.1,a.2.2.2.2.2.1,a.2.2.2.2.2.2.1,x0.2.2.2.2.2.2.2.1,a.2.2.2.2.2.2.2.2):=rfl
theorem amH(fr:Bool)(n:Nat):(a1 fr n).dl=ba fr n:=by cases n<;>rfl
def Tz(l:dU)(D:ak Unit):ak Unit:=ae ((bQ []).aM er) λt=>if cG t fB then ae (b2 2) λ_=>ae ((pN D).aM er) λ_=>ae (cU.aM er) λ_=>iP l er else iP l er
def zg(l:dU)(D:ak Unit):ak Unit:=ae ((bQ []).aM er) λt=>if t= .op [59] then ae (b2 1) λ_=>ae (cU.aM er) λ_=>iP l er else ae (cU.aM er) λ_=>Tz l D
theorem amI(l:dU)(D:ak Unit):pO l D=ae (bQ tq) (λt=>match t with
 | .eof=>b7 tq
 | .word w true=>if me w then ae (b2 w.length) λ_=>zg l D else bK
 |_=>bK):=amF l D
theorem pX{α:Type}{m:ak α}{x:aa}{r:aa}{pd:aq}{a:α}{r1:aa}{b:aq}(h:m r pd= .ok a r1 b):(m.aM x) r pd= .ok a r1 b:=jC.2 h
theorem sR{α:Type}{m:ak α}{x:aa}{r:aa}{pd:aq}{op:bt}{nd:aa}{ds:aq}(h:m r pd= .more op nd ds):(m.aM x) r pd= .more op (cP nd ds x).1 (cP nd ds x).2:=by grind[ak.aM]
theorem uY{α:Type}{m:ak α}{x:aa}{r q:aa}{pd:aq}(h:m r pd= .bad q):(m.aM x) r pd= .bad q:=by grind[ak.aM]
theorem uZ{α:Type}{m:ak α}{x:aa}{r q:aa}{pd:aq}(h:m r pd= .deep q):(m.aM x) r pd= .deep q:=by grind[ak.aM]
theorem aI.low{α:Type}{c:Nat}{f:ak α}(aB:aI c f){e:cg}{r:aa}{pd:aq}(h:cC e r pd):∀(op:bt)(nd:aa)(ds:aq)(hm:f r pd= .more op nd ds),nd.length+et ds<=100*e.S.length+c:=by intro op nd ds hm;have:=aB r pd;rw[hm] at this;simp only[ea] at this;have:=h.jS;omega
theorem TA{e:cg}{ds a:aq}{r:aa}(h:cC e r a):lL (e.tt ds)=some []:=by
 have ad:lL (e.tt ds)=lL (e.tt a):=by rfl
 rw[ad];exact amy h.A5
theorem aam{r w:aa}{p:Bool}(h:av r= .word w p):c8 r=(w,p):=by
 cases r with
 |nil=>grind[l2]
 |cons b t=>grind[Jt]
theorem Ni{α:Type}{q:Bool}{e:cg}{r0 r1:aa}{st:ah}{cv:α->aa->ah->Prop}(p:Int)(h:n7 e r0 st):bM q e r0 (.bad r1:dw α) (λst=>st) cv (hq st p):=⟨_,rfl,rfl,h.s,h.lo,h.a8,h.nd,h.op⟩
theorem TB{R:bk}{p:Int}{b:aa}{c:Bool}{a:ah}(h:a.2.2.2.2.1≠0):Nh R p (b,c,a)=hq a p:=by unfold Nh;simp only[h,bF,e8,aK,cT,tU,cl];rfl
section
variable{R:bk}{n:Nat}(bj:oG R n)(hD:kC R n){e:cg}(bc:e.ne=30- (n:Int))
theorem aan{r:aa}{nd:aa}{ds:aq}{st:ah}{c:aq}(h0:cC e r c)(hm:iG true e r nd ds st)(a:nd.length+et ds<=100*e.S.length+500):∃b,A_ R st=some b/\iG false e r (cP nd ds er).1 (cP nd ds er).2 b:=by
 rcases hm with ad|⟨_,rfl,rfl⟩
 ·unfold A_;rw[ad.1];simp only[show¬((1:Int)=0) by decide,bF,cT,ew,cl,aR];exact Tv h0 (.inl ad) a
 ·unfold A_;have d:(e.tt ds).2.2.2.2.1=0:=rfl;rw[d,TA h0,fY];simp only[bA,cD,reduceCtorEq,bF,aK,aR];exact Tv h0 (.inr ⟨rfl,rfl,rfl⟩) a
theorem aao{r:aa}{st:ah}(hm:iS e r st):∃a,A_ R st=some a/\iS e r a:=by unfold A_;rw[hm.1];simp only[show¬((2:Int)=0) by decide,bF,cT,ew,cl,aR];exact Tw hm
include bj hD bc
theorem amJ{r r0:aa}{pd:aq}{st:ah}(h:cC e r pd)(k:fZ e r pd st)(h0:r<:+r0)(o:r0<:+e.S)(l:bx r=some r)(hl:av r≠ .line):bM false e r0 (Tz (a1 true n) (ba true n) r pd) (λst=>st) (λ_ _ _=>True) (A_ R st):=by
 have m:=h.nl.ia h.sfx;unfold Tz A_;rw[aZ (pX (cB l)),k.eta.2.2.2.2.1];obtain⟨tr,rfl,p⟩:=k;rw[wg h,fY];simp only[bA,cD,aK];by_cases aE:ja r=[105,110]
 ·have s:=(rT m A9.1 A9.2).1 aE;have a8:cG (av r) fB=true:=by grind[cG]
  simp only[aE,bA,aK];rw[bo a8];obtain⟨q,rfl⟩:=(qu s).1;have t:b2 2 (fB++q) pd= .ok () q pd:=rfl;rw[aZ t];have i:q<:+fB++q:=gY fB q;have u:W (az e.S (fB++q)+2)=az e.S q:=kB (w:=fB) h.b0 h.sfx;have v:q≠[]:=by grind[Ts,fB]
  have j:=h.mono i;have x:((e.st (fB++q) pd tr).1,W ((e.st (fB++q) pd tr).2.1+2),(e.st (fB++q) pd tr).2.2.1,(e.st (fB++q) pd tr).2.2.2.1,(0:Int),(e.st (fB++q) pd tr).2.2.2.2.2.1,(e.st (fB++q) pd tr).2.2.2.2.2.2.1,(e.st (fB++q) pd tr).2.2.2.2.2.2.2.1,(e.st (fB++q) pd tr).2.2.2.2.2.2.2.2)=e.st q pd tr:=by show(e.S,W (az e.S (fB++q)+2),e.ne,pd,(0:Int),(0:Int),([]:aa),([]:bt),tr)=_;rw[u];rfl
  rw[x];have c:=amB hD bc j ⟨tr,rfl,λy=>absurd y v⟩;obtain⟨b,z,c⟩:=c;rw[z,aP rfl];have A:=aI.low (aI.words (tJ true n)) j;rw[amH] at A;cases hm:pN (ba true n) q pd with
  |ok a r1 D=>grind[aZ,pX,Tx]
  |more op nd ds=>rw[hm] at c;rw[dh (sR hm)];obtain⟨d,f,g⟩:=Tv (R:=R) j (iG.up c) (by grind);exact⟨d,f,g.mono (i.trans h0)⟩
  |bad B=>rw[hm] at c;rw[g5 (uY hm)];obtain⟨d,f,g⟩:=Tw (R:=R) c;exact⟨d,f,g.mono (i.trans h0)⟩
  |deep B=>rw[hm] at c;rw[jV (uZ hm)];obtain⟨d,f,g⟩:=Tw (R:=R) c;exact⟨d,f,g.mono (i.trans h0)⟩
 ·have a8:cG (av r) fB=false:=by rw[<-Jn m A9.1 A9.2];exact e9 aE
  simp only[aE,bF,aR];rw[aS (by grind)];have C:ae (cU.aM er) (λ_=>iP (a1 true n) er) r pd=iP (a1 true n) er r pd:=aZ (pX (MQ l hl));rw[<-C];exact Tx bj bc h ⟨tr,rfl,p⟩ h0 o
theorem amK{r r0:aa}{pd:aq}{st:ah}(h:cC e r pd)(j:fZ e r pd st)(h0:r<:+r0)(p:r0<:+e.S)(s:bx r=some r):bM false e r0 (zg (a1 true n) (ba true n) r pd) (λst=>st) (λ_ _ _=>True) (Jw R st):=by
 unfold zg Jw;rw[aZ (pX (cB s))];have he:=j.eta;have u:hF st=some (bs r):=by obtain⟨tr,rfl,v⟩:=j;exact rU h
 rw[u,aP rfl];by_cases k:bs r=[59]
 ·have l:av r= .op [59]:=(mQ (by simp)).2 k;simp only[k,decide_true,cond_true];rw[if_pos l];obtain⟨q,rfl⟩:=(iq l).2.1;have x:b2 1 ([59]++q) pd= .ok () q pd:=rfl;rw[aZ x];have o:q<:+[59]++q:=List.suffix_append _ q;have y:=h.mono o;have z:q≠[]:=cC.za (b:=59) (t:=q) h (by decide);obtain⟨tr,rfl,v⟩:=j;have A:W (az e.S ([59]++q)+1)=az e.S q:=kB (w:=[59]) h.b0 h.sfx;have B:((e.st ([59]++q) pd tr).1,W ((e.st ([59]++q) pd tr).2.1+1),(e.st ([59]++q) pd tr).2.2.1,(e.st ([59]++q) pd tr).2.2.2.1,(e.st ([59]++q) pd tr).2.2.2.2.1,(e.st ([59]++q) pd tr).2.2.2.2.2.1,(e.st ([59]++q) pd tr).2.2.2.2.2.2.1,(e.st ([59]++q) pd tr).2.2.2.2.2.2.2.1,(e.st ([59]++q) pd tr).2.2.2.2.2.2.2.2)=e.st q pd tr:=by show(e.S,W (az e.S ([59]++q)+1),e.ne,pd,(0:Int),(0:Int),([]:aa),([]:bt),tr)=_;rw[A];rfl
  rw[B];exact Tx bj bc y ⟨tr,rfl,λm=>absurd m z⟩ (o.trans h0) p
 ·have l:av r≠ .op [59]:=λm=>k ((mQ (by simp)).1 m);simp only[k,decide_false,cond_false];rw[if_neg l];obtain⟨D,C,d⟩:=FY h j;rw[C,aP rfl];have E:=aI.low (aI.lines (c:=0)) h;cases hm:cU r pd with
  |ok a r1 F=>grind[aZ,pX,amJ]
  |more op nd ds=>rw[hm] at d;rw[dh (sR hm)];obtain⟨f,g,i⟩:=aan (R:=R) h d (by grind);exact⟨f,g,i.mono h0⟩
  |bad q=>rw[hm] at d;rw[g5 (uY hm)];obtain⟨f,g,i⟩:=aao (R:=R) d;exact⟨f,g,i.mono h0⟩
  |deep q=>rw[hm] at d;rw[jV (uZ hm)];obtain⟨f,g,i⟩:=aao (R:=R) d;exact⟨f,g,i.mono h0⟩
omit bj hD bc in
theorem amL{r r0:aa}{b pd:aq}(h:cC e r b)(h0:r<:+r0)(f:et pd<=100*e.S.length+400):∃a,Jw R (e.tt pd)=some a/\iG false e r0 (cP [] pd er).1 (cP [] pd er).2 a:=by unfold Jw;rw[F7 pd h.b0,aP rfl];simp only[reduceCtorEq,bF,aR];rw[aaa,aP rfl];obtain⟨a,c,d⟩:=aan (R:=R) h (iG.tt (e:=e) (r:=r) pd) (by grind);exact⟨a,c,d.mono h0⟩
theorem amM{r:aa}{pd:aq}{st:ah}(h:cC e r pd)(S:fZ e r pd st)(T:r<:+e.S):bM false e r (pO (a1 true n) (ba true n) r pd) (λst=>st) (λ_ _ _=>True) (E2 R st):=by
 rw[amI,amG];obtain⟨tr,rfl,U⟩:=S;rcases xx h ⟨tr,rfl,U⟩ with⟨b,eF,z,A,V,m,s,ih⟩|⟨z,A⟩
 ·rw[A,aP rfl,aZ (cB z)];obtain⟨d,rfl,Nf⟩:=V;have B:((e.st b pd d).1,(e.st b pd d).2.1,(e.st b pd d).2.2.1,(e.st r pd tr).2.2.2.1,(e.st b pd d).2.2.2.2.1,(e.st b pd d).2.2.2.2.2.1,(e.st b pd d).2.2.2.2.2.2.1,(e.st r pd tr).2.2.2.2.2.2.2.1,(e.st b pd d).2.2.2.2.2.2.2.2)=e.st b pd d:=rfl;rw[B];unfold Ty;rw[qA,aP rfl];by_cases t:b=[]
  ·subst t;simp only[bA,aK];obtain⟨g,f,k⟩:=uX (tr:=d) (x:=tq) m (by decide);rw[show([120,10,100,111,32,120,10,100,111,110,101]:aa)=tq from rfl,f,aP rfl];exact⟨g,rfl,(k.mono s).s⟩
  ·simp only[t,bF,aR];rw[M_ m t,aP rfl];have J:∃g,hq (e.st b pd d) (e.st b pd d).2.1=some g/\iS e r g:=pW _ m s
   have pT:av b≠ .eof:=λC=>t (l2.1 C);cases W:av b with
   |eof=>grind
   |line=>simp only[aK];obtain⟨g,f,k⟩:=J;rw[f,aP rfl];exact⟨_,rfl,by cases f;exact k⟩
   |op o=>simp only[aK];obtain⟨g,f,k⟩:=J;rw[f,aP rfl];exact⟨_,rfl,by cases f;exact k⟩
   |word w p=>
    simp only[aR];have v:=aam W;have X:=h.nl.ia m.sfx;obtain⟨⟨i,Y,K⟩,L,c⟩:=F3 hD bc (tr0:=d) m;rw[L,aP rfl];have M:K.1=e.S->i.length<=1000000:=λZ=>lQ (Tn m Z L).1 h.b0;unfold Nh;dsimp only at c⊢;by_cases N:p=true/\me w=true
    ·obtain⟨rfl,rS⟩:=N;dsimp only;have A6:=aal b w X t v;have xE:=aai (D:=ba true n) b w pd v A6;rw[xE] at c;obtain⟨E,a2,a3, -,j,l⟩:=c;rw[v] at j l;dsimp only at j l;have F:=l j;subst F j;have G:=(y7 i (M a3.eta.1)).2;rw[G,a3.eta.2.2.2.2.1,rS];simp only[bA,gW,aR,cD];rw[fY];simp only[cD,gW,aR];rw[aZ (show b2 i.length b pd= .ok () (b.drop i.length) pd from rfl)];obtain⟨O,rfl,P⟩:=a3;rcases xx a2 ⟨O,rfl,P⟩ with⟨bZ,amN,H,I,tz,ly,xC,Q⟩|⟨H,I⟩
     ·rw[I,aP rfl];obtain⟨hJ,rfl,Nk⟩:=tz;have u:zg (a1 true n) (ba true n) (b.drop i.length) pd=zg (a1 true n) (ba true n) bZ pd:=by unfold zg;rw[aZ (pX (cB H)),aZ (pX (cB Q))]
      rw[u];exact amK bj hD bc ly ⟨hJ,rfl,Nk⟩ (xC.trans (E.trans s)) T Q
     ·rw[I,aP rfl];have u:zg (a1 true n) (ba true n) (b.drop i.length) pd= .more [] (cP [] pd er).1 (cP [] pd er).2:=by unfold zg;exact dh (sR (by rw[iE H];rfl))
      rw[u];have v7:=h.jS;exact amL (R:=R) h fQ (by show et pd<=_;omega)
    ·have u:(match Tok.word w p with| .eof=>b7 tq| .word w true=>if me w then ae (b2 w.length) λ_=>zg (a1 true n) (ba true n) else bK|_=>bK:ak Unit) b pd= .bad b:=by
      cases p with
      |false=>rfl
      |true=>dsimp only;rw[if_neg (λC=>N ⟨rfl,C⟩)];rfl
     refine bM.dX (y:=hq K (e.st b pd d).2.1) ?_ ?_
     ·rw[u];cases hm:cQ (ba true n) b pd with
      |ok a cw b5=>rw[hm] at c;obtain⟨E,a2,⟨O,rfl,P⟩,_⟩:=c;grind[Ni,Z7]
      |more op nd ds=>rw[hm] at c;exact Ni _ (c.z.2.2.2.1.mono s)
      |bad q=>rw[hm] at c;exact Ni _ (c.2.mono s)
      |deep q=>rw[hm] at c;exact Ni _ (c.2.mono s)
     ·cases hm:cQ (ba true n) b pd with
      |ok a cw b5=>
       rw[hm] at c;obtain⟨E,a2,a3, -,j,l⟩:=c;rw[v] at j l;dsimp only at j l;subst j;have G:=(y7 i (M a3.eta.1)).2;rw[G,a3.eta.2.2.2.2.1];cases Y with
       |false=>rfl
       |true=>
        have F:=l rfl;subst F;have ax:me i=false:=by grind
        rw[ax];rfl
      |more op nd ds=>rw[hm] at c;exact TB (by rw[c.z.1];decide)
      |bad q=>rw[hm] at c;exact TB (by rw[c.1];decide)
      |deep q=>rw[hm] at c;exact TB (by rw[c.1];decide)
 ·rw[A,aP rfl,dh (op:=[]) (nd:=(cP [] pd tq).1) (ds:=(cP [] pd tq).2) (by rw[iE z];rfl)];have B:((e.tt pd).1,(e.tt pd).2.1,(e.tt pd).2.2.1,(e.st r pd tr).2.2.2.1,(e.tt pd).2.2.2.2.1,(e.tt pd).2.2.2.2.2.1,(e.tt pd).2.2.2.2.2.2.1,(e.st r pd tr).2.2.2.2.2.2.2.1,(e.tt pd).2.2.2.2.2.2.2.2)=e.tt pd:=rfl;rw[B];unfold Ty;rw[o7,aP rfl];simp only[aK];obtain⟨g,f,k⟩:=De (x:=tq) h.A5 (by decide);rw[show([120,10,100,111,32,120,10,100,111,110,101]:aa)=tq from rfl,f,aP rfl];exact⟨g,rfl,(k.mono oK).s⟩
end
theorem amO{σ α β:Type}(f:σ->ak (σ⊕α))(K:α->ak β):∀(N:Nat)(s:σ)(r:aa)(pd:aq),r.length<=N->ae (cb f s) K r pd=cb (λs=>ae (f s) λx=>match x with| .inl s'=>aW (.inl s')| .inr a=>ae (K a) λb=>aW (.inr b)) s r pd:=by
 intro N;induction N with
 |zero=>
  intro s r pd h;have e:r.length=0:=by omega
  rw[cH];unfold ae;rw[cH];cases ad:f s r pd with
  |ok x r1 c=>
   cases x with
   |inl s'=>grind[cO,aW]
   |inr a=>grind[cO,aW]
  |more op nd ds=>rfl
  |bad q=>rfl
  |deep q=>rfl
 |succ N d=>
  intro s r pd h;rw[cH];unfold ae;rw[cH];cases ad:f s r pd with
  |ok x r1 c=>
   cases x with
   |inl s'=>
    simp only[cO,aW];by_cases hl:r1.length<r.length
    ·rw[bo hl,bo hl];exact d s' r1 c (by omega)
    grind
   |inr a=>grind[cO,aW]
  |more op nd ds=>rfl
  |bad q=>rfl
  |deep q=>rfl
theorem amP{σ α β:Type}(f:σ->ak (σ⊕α))(K:α->ak β)(s:σ):ae (cb f s) K=cb (λs=>ae (f s) λx=>match x with| .inl s'=>aW (.inl s')| .inr a=>ae (K a) λb=>aW (.inr b)) s:=by
 funext r pd;exact amO f K r.length s r pd (cX _)
def Di(e:cg)(r:aa)(pd:aq)(x:ah):Prop:=(∃r' tr,bx r=some r'/\x=e.st r' pd tr/\(r'=[]->tr=false)/\cC e r' pd/\r'<:+r/\bx r'=some r')\/(bx r=none/\x=e.tt pd)
theorem xI{e:cg}{r:aa}{pd:aq}{st:ah}(h:cC e r pd)(d:fZ e r pd st):∃x,g9 st=some x/\Di e r pd x:=by
 rcases xx h d with⟨f,g,a,b,⟨tr,i,c⟩,j,k,l⟩|⟨a,b⟩
 ·exact⟨g,b,.inl ⟨f,tr,a,i,c,j,k,l⟩⟩
 ·exact⟨_,b,.inr ⟨a,rfl⟩⟩
theorem Gd{q:Bool}{e:cg}{r r0:aa}{nd:aa}{ds:aq}{st:ah}{b:aq}{x:aa}(h0:cC e r b)(hm:iG false e r nd ds st)(h:r<:+r0)(f:nd.length+et ds<=100*e.S.length+500)(g:x.length<=100):∃a,gx st [] x=some a/\iG q e r0 (cP nd ds x).1 (cP nd ds x).2 a:=by obtain⟨a,c,d⟩:=xy (e:=e) (nm:=[]) (x:=x) (r1:=r) (r0:=r) (nd:=nd) (ds:=ds) hm.z fQ h0.sfx (.inl rfl) (by omega) h0.b0 (by omega);exact⟨a,c,(n8.mono d h).s⟩
theorem rV{e:cg}{r:aa}{st:ah}{nm x:aa}(hm:iS e r st):gx st nm x=some st:=pU (by rw[hm.1];decide)
theorem sS{e:cg}{w q:aa}{pd:aq}{tr:Bool}(h:cC e (w++q) pd)(k:Nat)(hk:w.length=k):(e.S,W (az e.S (w++q)+(k:Int)),e.ne,pd,(0:Int),(0:Int),([]:aa),([]:bt),tr)=e.st q pd tr:=by subst hk;have a:W (az e.S (w++q)+(w.length:Int))=az e.S q:=kB (w:=w) h.b0 h.sfx;rw[a];rfl
theorem cC.tO{e:cg}{w q:aa}{pd:aq}(h:cC e (w++q) pd)(a:w≠[])(b:(10:UInt8)∉w):q≠[]:=by
 rintro rfl;rw[rl] at h;rcases h.nl.ia h.sfx with ad|⟨t,ad⟩
 ·grind
 grind
def Ge(l:dU):ak Unit:=ae (l.ls .item true) λ_=>ae (bQ []) λt=>if t= .op [59,59] then b2 2 else aW ()
def Bb(l:dU)(D:ak Unit)(t:Tok):ak Unit:=ae ((if t= .op [40] then b2 1 else aW ())) λ_=>ae (kZ D) λ_=>Ge l
def o9(l:dU)(D:ak Unit):Unit->ak (Unit⊕Unit):=λ_=>ae cU λ_=>ae (bQ []) λt=>if t= .eof then b7 [] else if cG t ev then ae (b2 4) λ_=>aW (.inr ()) else ae (Bb l D t) λ_=>aW (.inl ())
theorem aap(l:dU)(D:ak Unit):(λ(_:Unit)=>ae cU λ_=>ae (bQ []) λt=>if t= .eof then b7 [] else if cG t ev then ae (b2 4) λ_=>aW (.inr ()) else
 ae ((if t= .op [40] then b2 1 else aW ())) λ_=>ae (kZ D) λ_=>ae (l.ls .item true) λ_=>ae (bQ []) λt=>if t= .op [59,59] then ae (b2 2) λ_=>aW (.inl ()) else aW (.inl ()))=o9 l D:=by
 unfold o9
 funext _
 congr 1
 funext _
 congr 1
 funext t
 congr 1;congr 1;unfold Bb Ge;simp only[kA];congr 1
 funext _
 congr 1
 funext _
 congr 1
 funext _
 congr 1
 funext t
 rw[yZ];congr 1
theorem amR(l:dU)(D:ak Unit):nA l D=cb (o9 l D) ():=by simp[nA,aap]
theorem amS{n:Nat}{s':Unit}{r:aa}{pd:aq}{r':aa}{a:aq}(h:o9 (a1 true n) (ba true n) () r pd= .ok (.inl s') r' a):r'.length<r.length:=by rw[<-aap] at h;exact(XY (pQ true n) (mi true n)).lt (s:=()) h
noncomputable def zh(R:bk):ah->Option ah:=λx=>
 (aw (R.nP x ([59,59]:aa) ([]:bt) false) λ(c,a)=>(cT ((decide (a.2.2.2.2.1=0))=true) (hF a) [] λ(b:aa)=>(bif(bif(decide (a.2.2.2.2.1=0)) then(decide (b=([59,59]:aa))) else false) then some (a.1,(W (a.2.1+2)),a.2.2.1,a.2.2.2.1,a.2.2.2.2.1,a.2.2.2.2.2.1,a.2.2.2.2.2.2.1,a.2.2.2.2.2.2.2.1,a.2.2.2.2.2.2.2.2) else some a)))
noncomputable def Jx(R:bk)(x0 x:ah):Option ah:=fixF (AF R (zh R)) bC (x.1,x.2.1,x.2.2.1,x0.2.2.2.1,x.2.2.2.2.1,x.2.2.2.2.2.1,x.2.2.2.2.2.2.1,x0.2.2.2.2.2.2.2.1,x.2.2.2.2.2.2.2.2)
theorem amT(R:bk)(x0:ah):EY R x0=(aw (hF x0) λ(a:aa)=>
 (bif(decide (a=([40]:aa))) then
 (aw (g9 (x0.1,(W (x0.2.1+1)),x0.2.2.1,x0.2.2.2.1,x0.2.2.2.2.1,x0.2.2.2.2.2.1,x0.2.2.2.2.2.2.1,x0.2.2.2.2.2.2.2.1,x0.2.2.2.2.2.2.2.2)) λ(b:ah)=>Jx R x0 b)
 else Jx R x0 x0)):=rfl
section
variable{R:bk}{n:Nat}(bj:oG R n)(hD:kC R n){e:cg}(bc:e.ne=30- (n:Int))
include bj bc
theorem amU{r:aa}{pd:aq}{st:ah}(h:cC e r pd)(p:fZ e r pd st):bM false e r (Ge (a1 true n) r pd) (λst=>st) (λ_ _ _=>True) (zh R st):=by
 unfold Ge zh;refine bM.iF (C:=λx=>x) c4.id (bj.im e .item true rfl bc r pd st h p) (λa r1 u b k s1 c i _=>?_) (λop nd ds b _ l=>?_) (λb d=>?_)
 ·obtain⟨d,m⟩:=b;dsimp only at i⊢;obtain⟨ao,e7⟩:=A0 true n;rw[e7] at k;obtain⟨s,v⟩:=y4 (by simp) k;rw[aZ (cB s),i.eta.2.2.2.2.1];obtain⟨tr,rfl,t⟩:=i;rw[rU c,fY];simp only[bA,cD,aK];by_cases f:bs r1=[59,59]
  ·have g:av r1= .op [59,59]:=(mQ (by simp)).2 f;simp only[f,bA,aK];rw[bo g];obtain⟨q,rfl⟩:=(iq g).2.1;have o:q<:+[59,59]++q:=gY _ q;exact⟨_,mj some (sS c 2 rfl),o.trans s1,c.mono o,⟨tr,rfl,λj=>absurd j (c.tO (by simp) (by decide))⟩,trivial⟩
  ·have g:av r1≠ .op [59,59]:=λj=>f ((mQ (by simp)).1 j);simp only[f,bF,aR];rw[aS g];exact⟨_,rfl,s1,c,⟨tr,rfl,t⟩,trivial⟩
 ·obtain⟨d,m⟩:=b;dsimp only at l⊢;rw[l.z.1];simp only[show¬((1:Int)=0) by decide,bF,cT,ew,cl,aR];grind
 ·obtain⟨e_,m⟩:=b;dsimp only at d⊢;rw[d.1];simp only[show¬((2:Int)=0) by decide,bF,cT,ew,cl,aR];grind
include hD
theorem aaq{r0 r:aa}{pd:aq}{x:ah}(h:cC e r pd)(L:Di e r pd x):bM false e r (ae (kZ (ba true n)) (λ_=>Ge (a1 true n)) r pd) (λst=>st) (λ_ _ _=>True) (fixF (AF R (zh R)) bC x):=by
 unfold kZ;rw[amP];refine bM.rep (en:=λ_ r pd x=>Di e r pd x) (λk s r pd x ay L mO hk=>?_) bC () r pd _ (we h) h L;simp only[kA] at hk⊢;rcases L with⟨i,m,M,rfl,Nf,E,F,ih⟩|⟨M,rfl⟩
 ·rw[aZ (cB M)];unfold AF;have N:((e.st i pd m).1,(e.st i pd m).2.1,(e.st i pd m).2.2.1,(e.st i pd m).2.2.2.1,(e.st i pd m).2.2.2.2.1,(e.st i pd m).2.2.2.2.2.1,(e.st i pd m).2.2.2.2.2.2.1,(e.st i pd m).2.2.2.2.2.2.2.1,(e.st i pd m).2.2.2.2.2.2.2.2)=e.st i pd m:=rfl;dsimp only;rw[N,qA,aP rfl];by_cases H:i=[]
  ·subst H;simp only[bA,aK];obtain⟨f,j,t⟩:=uX (tr:=m) (x:=[120,41]) E (by decide);rw[j,aP rfl];exact⟨f,rfl,(t.mono F).s⟩
  ·simp only[H,bF,aR];rw[M_ E H,aP rfl];have X:∃f,hq (e.st i pd m) (e.st i pd m).2.1=some f/\iS e r f:=pW _ E F
   have pT:av i≠ .eof:=λC=>H (l2.1 C);cases ht:av i with
   |eof=>grind
   |line=>simp only[aK];obtain⟨f,j,t⟩:=X;rw[j,aP rfl];exact⟨_,rfl,by cases j;exact t⟩
   |op o=>simp only[aK];obtain⟨f,j,t⟩:=X;rw[j,aP rfl];exact⟨_,rfl,by cases j;exact t⟩
   |word w p=>
    simp only[aR,kA];have gO:c3 i=false:=(y8 ih ht).2;have l:=F3 hD bc (tr0:=m) E;have hy:=aI.low (aI.cQ (xo true n▸(tJ true n).dl)) E;obtain⟨⟨dc,fy,iZ⟩,hb,l⟩:=l;rw[hb,aP rfl];dsimp only at l⊢;cases hm:cQ (ba true n) i pd with
    |ok a v c=>
     rw[hm] at l;obtain⟨cV,a2,a3, -, -, -⟩:=l;rw[aZ (pX hm),a3.eta.2.2.2.2.1];simp only[bA,gW,aR];have hl:=vU (mi true n) H gO hm;obtain⟨u,rfl,Nj⟩:=a3;obtain⟨jU,O,pV⟩:=xI a2 ⟨u,rfl,Nj⟩;rw[O,aP rfl];rcases pV with⟨g,d,P,rfl,Nk,y,xC,Dh⟩|⟨P,rfl⟩
     ·rw[aZ (cB P)];have Q:((e.st g c d).1,(e.st g c d).2.1,(e.st g c d).2.2.1,(e.st v c u).2.2.2.1,(e.st g c d).2.2.2.2.1,(e.st g c d).2.2.2.2.2.1,(e.st g c d).2.2.2.2.2.2.1,(e.st v c u).2.2.2.2.2.2.2.1,(e.st g c d).2.2.2.2.2.2.2.2)=e.st g c d:=rfl;rw[Q,qA,aP rfl];have I:g<:+r:=xC.trans (cV.trans F);by_cases S:g=[]
      ·subst S;simp only[bA,aK];obtain⟨f,j,t⟩:=uX (tr:=d) (x:=[41]) y (by decide);rw[j,aP rfl];exact⟨f,rfl,(t.mono I).s⟩
      ·simp only[S,bF,aR];rw[rU y,aP rfl];have arZ:av g≠ .eof:=λC=>S (l2.1 C);have T:∃f,hq (e.st g c d) (e.st g c d).2.1=some f/\iS e r f:=pW _ y I
       by_cases J:bs g=[124]
       ·have D:av g= .op [124]:=(mQ (by simp)).2 J;obtain⟨q,rfl⟩:=(iq D).2.1;rw[D,J];simp only[bA,gW,aR,cD,kA,Dz,and_true,show¬((124:UInt8)=41) by decide,bF,e8];have G:q<:+[124]++q:=gY _ q;have U:=y.tO (by simp) (by decide);rw[aZ (show b2 1 ([124]++q) c= .ok () q c from rfl)];obtain⟨z,Jy,Y⟩:=xI (y.mono G) ⟨d,rfl,λC=>absurd C U⟩;have V:g9 ((e.st ([124]++q) c d).1,W ((e.st ([124]++q) c d).2.1+1),(e.st ([124]++q) c d).2.2.1,(e.st v c u).2.2.2.1,(e.st ([124]++q) c d).2.2.2.2.1,(e.st ([124]++q) c d).2.2.2.2.2.1,(e.st ([124]++q) c d).2.2.2.2.2.2.1,(e.st v c u).2.2.2.2.2.2.2.1,(e.st ([124]++q) c d).2.2.2.2.2.2.2.2)=some z:=by rw[<-Jy];exact mj g9 (sS y 1 rfl)
        rw[V,aP rfl];have Z:q.length<r.length:=by grind
        have Dk:(z.1,z.2.1,z.2.2.1,(e.st v c u).2.2.2.1,z.2.2.2.2.1,z.2.2.2.2.2.1,z.2.2.2.2.2.2.1,(e.st v c u).2.2.2.2.2.2.2.1,z.2.2.2.2.2.2.2.2)=z:=by rcases Y with⟨nM,TE, -,rfl, -⟩|⟨-,rfl⟩<;>rfl
        rw[Dk];exact bM.inl Z (hk () q c z (G.trans I) (y.mono G) Z Y)
       ·by_cases K:bs g=[41]
        ·have D:av g= .op [41]:=(mQ (by simp)).2 K;obtain⟨q,rfl⟩:=(iq D).2.1;rw[D,K];simp only[bA,gW,aR,cD,kA,Dz,and_true,show¬((41:UInt8)=124) by decide,bF,e8,aK,cl];have G:q<:+[41]++q:=gY _ q;have U:=y.tO (by simp) (by decide);rw[aZ (show b2 1 ([41]++q) c= .ok () q c from rfl)];have bY:=amU bj bc (y.mono G) (st:=e.st q c d) ⟨d,rfl,λC=>absurd C U⟩;have V:zh R ((e.st ([41]++q) c d).1,W ((e.st ([41]++q) c d).2.1+1),(e.st ([41]++q) c d).2.2.1,(e.st v c u).2.2.2.1,(e.st ([41]++q) c d).2.2.2.2.1,(e.st ([41]++q) c d).2.2.2.2.2.1,(e.st ([41]++q) c d).2.2.2.2.2.2.1,(e.st v c u).2.2.2.2.2.2.2.1,(e.st ([41]++q) c d).2.2.2.2.2.2.2.2)=zh R (e.st q c d):=mj (zh R) (sS y 1 rfl);rw[V];obtain⟨b,oN,A⟩:=bY.mono (G.trans I);rw[oN,Jv];dsimp only;cases B:Ge (a1 true n) q c with
         |ok a eL lu=>rw[B] at A;rw[aZ B];exact⟨b,rfl,A⟩
         |more op nd ds=>rw[B] at A;rw[dh B];exact⟨b,rfl,A⟩
         |bad q=>rw[B] at A;rw[g5 B];exact⟨b,rfl,A⟩
         |deep q=>rw[B] at A;rw[jV B];exact⟨b,rfl,A⟩
        ·simp only[J,K,bF,e8,aK];obtain⟨f,j,t⟩:=T;rw[j,aP rfl]
         have fin:∃b:ah,some (f.1,f.2.1,f.2.2.1,(e.st v c u).2.2.2.1,f.2.2.2.2.1,f.2.2.2.2.2.1,f.2.2.2.2.2.2.1,(e.st v c u).2.2.2.2.2.2.2.1,f.2.2.2.2.2.2.2.2)=some b/\iS e r b:=⟨_,rfl,by cases j;exact t⟩
         cases D:av g with
         |eof=>grind
         |line=>exact fin
         |word _ _=>exact fin
         |op o=>have aN:=(iq D).1;subst aN;simp only[J,K,cl];exact fin
     ·rw[dh (op:=[]) (by rw[iE P];rfl)];have Q:((e.tt c).1,(e.tt c).2.1,(e.tt c).2.2.1,(e.st v c u).2.2.2.1,(e.tt c).2.2.2.2.1,(e.tt c).2.2.2.2.2.1,(e.tt c).2.2.2.2.2.2.1,(e.st v c u).2.2.2.2.2.2.2.1,(e.tt c).2.2.2.2.2.2.2.2)=e.tt c:=rfl;rw[Q,o7,aP rfl];simp only[aK];obtain⟨f,j,t⟩:=De (x:=[41]) a2.A5 (by decide);rw[j,aP rfl];exact⟨f,rfl,(t.mono oK).s⟩
    |more op nd ds=>rw[hm] at l;rw[dh (sR hm),l.z.1];simp only[show¬((1:Int)=0) by decide,bF,e8,aK];obtain⟨f,al,bh⟩:=Gd (q:=false) (x:=[41]) E l F (by grind) (by decide);rw[al,aP rfl];exact⟨f,rfl,bh⟩
    |bad q=>rw[hm] at l;rw[g5 (uY hm),l.1];simp only[show¬((2:Int)=0) by decide,bF,e8,aK];rw[rV l,aP rfl];exact⟨_,rfl,l.mono F⟩
    |deep q=>rw[hm] at l;rw[jV (uZ hm),l.1];simp only[show¬((2:Int)=0) by decide,bF,e8,aK];rw[rV l,aP rfl];exact⟨_,rfl,l.mono F⟩
 ·rw[dh (op:=[]) (by rw[iE M];rfl)];unfold AF;have N:((e.tt pd).1,(e.tt pd).2.1,(e.tt pd).2.2.1,(e.tt pd).2.2.2.1,(e.tt pd).2.2.2.2.1,(e.tt pd).2.2.2.2.2.1,(e.tt pd).2.2.2.2.2.2.1,(e.tt pd).2.2.2.2.2.2.2.1,(e.tt pd).2.2.2.2.2.2.2.2)=e.tt pd:=rfl;dsimp only;rw[N,o7,aP rfl];simp only[aK];obtain⟨f,j,t⟩:=De (x:=[120,41]) ay.A5 (by decide);rw[j,aP rfl];exact⟨f,rfl,(t.mono oK).s⟩
end
theorem Jz:(ev:aa)≠[]/\ev.all gp=true:=by decide
def zi:aa:=10::ev
def Gf:aa:=[32]++fB++[10]++ev
def Bd:aa:=[120,32]++fB++[10]++ev
theorem amX{σ α:Type}(f:σ->ak (σ⊕α))(x:aa):∀(N:Nat)(s:σ)(r:aa)(pd:aq),r.length<=N->(cb f s).aM x r pd=cb (λs=>(f s).aM x) s r pd:=by
 intro N;induction N with
 |zero=>
  intro s r pd h;have d:r.length=0:=by omega
  rw[cH];unfold ak.aM;rw[cH];cases ad:f s r pd with
  |ok y r1 b=>grind[cO]
  |more op nd ds=>rfl
  |bad q=>rfl
  |deep q=>rfl
 |succ N c=>
  intro s r pd h;rw[cH];unfold ak.aM;rw[cH];cases ad:f s r pd with
  |ok y r1 b=>
   cases y with
   |inl s'=>
    simp only[cO];by_cases hl:r1.length<r.length
    ·rw[bo hl,bo hl];exact c s' r1 b (by omega)
    grind
   |inr a=>rfl
  |more op nd ds=>rfl
  |bad q=>rfl
  |deep q=>rfl
noncomputable def zj:ah->Option ah:=λx=>(aw (gx x ([]) ([10,101,115,97,99]:aa)) λ(a:ah)=>some a)
noncomputable def JA(R:bk)(a:ah->Option ah):ah->Option ah:=λx=>
 (cT ((decide (x.2.2.2.2.1=0))=true) (lL x) [] λ(b:aa)=>(bif(bif(decide (x.2.2.2.2.1=0)) then(decide (b=([101,115,97,99]:aa))) else false) then some (x.1,(W (x.2.1+4)),x.2.2.1,x.2.2.2.1,x.2.2.2.2.1,x.2.2.2.2.2.1,x.2.2.2.2.2.2.1,x.2.2.2.2.2.2.2.1,x.2.2.2.2.2.2.2.2) else(bif(decide (x.2.2.2.2.1=0)) then(aw (EY R x) λ(c:ah)=>a c) else a x)))
noncomputable def JB(R:bk)(b:ah->Option ah):ah->Option ah:=λa=>
 (cT ((decide (a.2.2.2.2.1=0))=true) (gw a) false λ(c:Bool)=>(bif(bif(decide (a.2.2.2.2.1=0)) then c else false) then(aw (g_ a ([])) λ(d:ah)=>JA R b d) else JA R b a))
theorem aar(R:bk)(j k:ah->Option ah)(x:ah):EZ R j k x=(bif(decide (x.2.2.2.2.1=0)) then(aw (ow x) λ(a:ah)=>JB R k a) else j x):=rfl
noncomputable def xJ(R:bk):ah->Option ah:=λx=>
 (bif(!(decide (x.2.2.2.2.1=0))) then(aw (gx x ([]) ([32,105,110,10,101,115,97,99]:aa)) λ(b:ah)=>some b) else(aw (lL x) λ(c:aa)=>(bif(!(decide (c=([105,110]:aa)))) then(aw (hq x x.2.1) λ(a:ah)=>some (a.1,a.2.1,a.2.2.1,x.2.2.2.1,a.2.2.2.2.1,a.2.2.2.2.2.1,a.2.2.2.2.2.2.1,x.2.2.2.2.2.2.2.1,a.2.2.2.2.2.2.2.2)) else(fixF (EZ R zj) bC (x.1,(W (x.2.1+2)),x.2.2.1,x.2.2.2.1,x.2.2.2.2.1,x.2.2.2.2.2.1,x.2.2.2.2.2.2.1,x.2.2.2.2.2.2.2.1,x.2.2.2.2.2.2.2.2)))))
noncomputable def JC(R:bk):ah->Option ah:=λb=>
 (bif(decide (b.2.2.2.2.1=0)) then(aw (ow b) λ(a:ah)=>(cT ((decide (a.2.2.2.2.1=0))=true) (gw a) false λ(c:Bool)=>(bif(bif(decide (a.2.2.2.2.1=0)) then c else false) then(aw (g_ a ([])) λ(d:ah)=>xJ R d) else xJ R a))) else xJ R b)
noncomputable def TF(R:bk):ah->Option ah:=λx=>
 (aw (gw x) λ(b:Bool)=>(bif b then(aw (g_ x ([120,32,105,110,10,101,115,97,99]:aa)) λ(c:ah)=>some c) else(aw (vR x) λ(d:Bool)=>(bif d then(aw (hq x x.2.1) λ(a:ah)=>some (a.1,a.2.1,a.2.2.1,x.2.2.2.1,a.2.2.2.2.1,a.2.2.2.2.2.1,a.2.2.2.2.2.2.1,x.2.2.2.2.2.2.2.1,a.2.2.2.2.2.2.2.2)) else(aw (qm R x) λy=>JC R y.2.2)))))
theorem amY(R:bk)(x0:ah):E0 R x0=aw (g9 x0) λa=>TF R (a.1,a.2.1,a.2.2.1,x0.2.2.2.1,a.2.2.2.2.1,a.2.2.2.2.2.1,a.2.2.2.2.2.2.1,x0.2.2.2.2.2.2.2.1,a.2.2.2.2.2.2.2.2):=rfl
theorem Gg{e:cg}{r:aa}{b pd:aq}{x:aa}(h:cC e r b)(d:et pd<=100*e.S.length+800)(f:x.length<=100):∃a,g_ (e.tt pd) x=some a/\n8 e r (cP [] pd x).1 (cP [] pd x).2 a:=by
 have h0:=h.b0;have g:=tK pd;have c:=A3 x [] pd;refine⟨(e.S,(e.S.length:Int),e.ne,(cP [] pd x).2,1,0,(cP [] pd x).1,[],true),?_,rfl,rfl,rfl,⟨rfl,?_,?_,?_,?_⟩,?_⟩
 ·unfold g_ a_ cg.tt;simp only[bA,aK];rw[C_ _ _ _ _ _ _ _ _ _ _ (by omega) (by grind) (by omega),aP rfl]
 ·grind[az]
 ·grind
 ·grind
 ·simp
 simp
theorem amZ{l:dU}{D:ak Unit}(aE:l.dl=D)(hl:y_ l)(t:Tok):aI 50 (Bb l D t):=by subst aE;exact(aI.ite (aI.dm _) (aI.ret _)).ae λ_=>((aI.xj hl).mono (by decide)).ae λ_=>(hl.ls _ _).ae λ_=>(aI.dJ (by simp)).ae λt=>aI.ite (aI.dm _) (aI.ret _)
section
variable{R:bk}{n:Nat}(bj:oG R n)(hD:kC R n){e:cg}(bc:e.ne=30- (n:Int))
include bj hD bc
theorem am0{r:aa}{pd:aq}{st:ah}(h:cC e r pd)(k:fZ e r pd st)(i:bx r=some r):bM false e r (Bb (a1 true n) (ba true n) (av r) r pd) (λst=>st) (λ_ _ _=>True) (EY R st):=by
 unfold Bb;rw[amT];obtain⟨tr,rfl,l⟩:=k;rw[rU h,aP rfl];by_cases a:bs r=[40]
 ·have b:av r= .op [40]:=(mQ (by simp)).2 a;simp only[a,b,bA,aK,cD];obtain⟨q,rfl⟩:=(iq b).2.1;rw[aZ (show b2 1 ([40]++q) pd= .ok () q pd from rfl)];have c:q<:+[40]++q:=gY _ q;have m:=h.tO (by simp) (by decide);obtain⟨d,o,j⟩:=xI (h.mono c) (st:=e.st q pd tr) ⟨tr,rfl,λf=>absurd f m⟩;have p:g9 ((e.st ([40]++q) pd tr).1,W ((e.st ([40]++q) pd tr).2.1+1),(e.st ([40]++q) pd tr).2.2.1,(e.st ([40]++q) pd tr).2.2.2.1,(e.st ([40]++q) pd tr).2.2.2.2.1,(e.st ([40]++q) pd tr).2.2.2.2.2.1,(e.st ([40]++q) pd tr).2.2.2.2.2.2.1,(e.st ([40]++q) pd tr).2.2.2.2.2.2.2.1,(e.st ([40]++q) pd tr).2.2.2.2.2.2.2.2)=some d:=by rw[<-o];exact mj g9 (sS h 1 rfl)
  rw[p,aP rfl];have g:Jx R (e.st ([40]++q) pd tr) d=fixF (AF R (zh R)) bC d:=by unfold Jx;rcases j with⟨s,t, -,rfl, -⟩|⟨-,rfl⟩<;>rfl
  rw[g];exact(aaq (r0:=[40]++q) bj hD bc (h.mono c) j).mono c
 ·have b:av r≠ .op [40]:=λf=>a ((mQ (by simp)).1 f);simp only[a,b,bF,aR,cl];rw[Jv];have g:Jx R (e.st r pd tr) (e.st r pd tr)=fixF (AF R (zh R)) bC (e.st r pd tr):=rfl;rw[g];exact aaq (r0:=r) bj hD bc h (.inl ⟨r,tr,i,rfl,l,h,fQ,i⟩)
omit bj hD bc in
theorem TG{k:ah->Option ah}{x:ah}(h:x.2.2.2.2.1≠0):JA R k x=k x:=by unfold JA;simp_all[cT]
omit bj hD bc in
theorem TH{k:ah->Option ah}{x:ah}(h:x.2.2.2.2.1≠0):JB R k x=k x:=by unfold JB;simp only[h,bF,cT,ew,cl,aR];exact TG h
theorem am1{r:aa}{pd:aq}{st:ah}(h:cC e r pd)(I:fZ e r pd st):bM false e r ((nA (a1 true n) (ba true n)).aM zi r pd) (λst=>st) (λ_ _ _=>True) (fixF (EZ R zj) bC st):=by
 rw[amR,amX _ _ _ _ _ _ (cX _)];refine bM.rep (en:=λ_ r pd x=>fZ e r pd x) (λk s r pd x p w J hk=>?_) bC () r pd _ (we h) h I
 have m:∀x:ah,x.2.2.2.2.1≠0->k x=zj x:=by intro x w;obtain⟨k',ad⟩:=J x;simp_all[aar]
 have K:zi.length<=100:=by decide
 have y:∀{r1:aa}{nd:aa}{ds:aq}{st:ah}{op:bt},r1<:+r->iG false e r1 nd ds st->nd.length+et ds<=100*e.S.length+500->o9 (a1 true n) (ba true n) s r pd= .more op nd ds->bM false e r (cO (λs=>(o9 (a1 true n) (ba true n) s).aM zi) r ((o9 (a1 true n) (ba true n) s).aM zi r pd)) (λst=>st) (λ_ _ _=>True) (k st):=by intro r1 nd ds st op ad D L M;rw[sR M,m st (by rw[D.z.1];decide)];obtain⟨z,N,O⟩:=Gd (q:=false) (x:=zi) (p.mono ad) D ad L K;unfold zj;rw[show([10,101,115,97,99]:aa)=zi from rfl,N];exact⟨z,rfl,O⟩
 rw[aar,w.eta.2.2.2.2.1];simp only[bA,aK];obtain⟨V,P,f⟩:=FY p w;rw[P,aP rfl];have Q:=aI.low (aI.lines (c:=0)) p;cases hm:cU r pd with
 |ok a r1 i=>
  rw[hm] at f;obtain⟨t,a2,a3,u,W⟩:=f;obtain⟨tr,rfl,S⟩:=a3;unfold JB;have v:(e.st r1 i tr).2.2.2.2.1=0:=rfl;rw[v,qA,fY];simp only[bA,cD,aK];by_cases A:r1=[]
  ·subst A;simp only[bA,aK];obtain⟨z,B,o⟩:=uX (tr:=tr) (x:=[]) a2 (by decide);rw[B,aP rfl,TG (by rw[o.1];decide)];have g:o9 (a1 true n) (ba true n) s r pd= .more [] [] i:=by unfold o9;rw[aZ hm,aZ (cB u)];rfl
   exact y t o.s (by have:=a2.jS;show([]:aa).length+et i<=_;omega) g
  ·simp only[A,bF,aR];unfold JA;rw[v,wg a2,fY];simp only[bA,cD,aK];have E:=h.nl.ia a2.sfx;have T:av r1≠ .eof:=λC=>A (l2.1 C);by_cases aE:ja r1=[101,115,97,99]
   ·have F:=(rT E Jz.1 Jz.2).1 aE;simp only[aE,bA,aK];obtain⟨q,rfl⟩:=(qu F).1;have G:q<:+ev++q:=gY _ q;have g:o9 (a1 true n) (ba true n) s r pd= .ok (.inr ()) q i:=by unfold o9;rw[aZ hm,aZ (cB u),F];rfl
    rw[pX g];exact⟨_,mj some (sS a2 4 rfl),G.trans t,a2.mono G,⟨tr,rfl,λC=>absurd C (a2.tO (by decide) (by decide))⟩,trivial⟩
   ·have a8:cG (av r1) ev=false:=by rw[<-Jn E Jz.1 Jz.2];exact e9 aE
    simp only[aE,bF,aR];have j:o9 (a1 true n) (ba true n) s r pd=ae (Bb (a1 true n) (ba true n) (av r1)) (λ_=>aW (.inl ())) r1 i:=by unfold o9;rw[aZ hm,aZ (cB u),aS T,aS (by grind)]
    have d:=am0 bj hD bc a2 ⟨tr,rfl,S⟩ u;obtain⟨b,H,d⟩:=d;rw[H,aP rfl];have U:∀op nd ds,Bb (a1 true n) (ba true n) (av r1) r1 i= .more op nd ds->nd.length+et ds<=100*e.S.length+50:=aI.low (amZ (xo true n) (tJ true n) _) a2
    cases l:Bb (a1 true n) (ba true n) (av r1) r1 i with
    |ok a2 X Y=>rw[l] at d;obtain⟨Z,fy,iZ,_⟩:=d;rw[aZ l] at j;have hl:=amS (s':=()) j;rw[pX j];grind[bM.inl]
    |more op nd ds=>grind[dh]
    |bad q=>rw[l] at d;rw[g5 l] at j;rw[uY j];rw[m b (by rw[d.1];decide)];unfold zj;rw[rV d];exact⟨_,rfl,d.mono t⟩
    |deep q=>rw[l] at d;rw[jV l] at j;rw[uZ j];rw[m b (by rw[d.1];decide)];unfold zj;rw[rV d];exact⟨_,rfl,d.mono t⟩
 |more op nd ds=>
  rw[hm] at f;have g:o9 (a1 true n) (ba true n) s r pd= .more op nd ds:=by unfold o9;grind[dh]
  have H:=Q _ _ _ hm;rcases f with f|⟨_,rfl,rfl⟩
  ·rw[TH (by grind)];exact y List.suffix_rfl (.inl f) (by omega) g
  ·unfold JB;have v:(e.tt ds).2.2.2.2.1=0:=rfl;rw[v,o7,fY];simp only[decide_true,if_true,cond_true];obtain⟨z,B,o⟩:=Gg (pd:=ds) (x:=[]) p (by omega) (by simp);rw[B,aP rfl,TG (by rw[o.1];decide)];exact y fQ o.s (by show([]:aa).length+et ds<=_;omega) g
 |bad q=>
  rw[hm] at f;have g:o9 (a1 true n) (ba true n) s r pd= .bad q:=by simp_all[o9,g5]
  rw[uY g,TH (by rw[f.1];decide),m _ (by rw[f.1];decide)];unfold zj;rw[rV f];exact⟨_,rfl,f⟩
 |deep q=>
  rw[hm] at f;have g:o9 (a1 true n) (ba true n) s r pd= .deep q:=by simp_all[o9,jV]
  rw[uZ g,TH (by rw[f.1];decide),m _ (by rw[f.1];decide)];unfold zj;rw[rV f];exact⟨_,rfl,f⟩
end
def pY(D:ak Unit):ak Tok:=ae (cQ D) λ_=>ae cU λ_=>ae (bQ []) λt=>if t= .eof then b7 [] else aW t
theorem am2(l:dU)(D:ak Unit):q7 l D=ae (bQ Bd) λt=>match t with
 | .eof=>b7 Bd
 | .word _ _=>ae ((pY D).aM Gf) λt=>if cG t fB then ae (b2 2) λ_=>(nA l D).aM zi else bK
 |_=>bK:=rfl
section
variable{R:bk}{n:Nat}(bj:oG R n)(hD:kC R n){e:cg}(bc:e.ne=30- (n:Int))
theorem Nm{r r0:aa}{nd:aa}{ds:aq}{st:ah}{b:aq}(h0:cC e r b)(hm:iG false e r nd ds st)(c:r<:+r0)(d:nd.length+et ds<=100*e.S.length+500):∃a,xJ R st=some a/\iG false e r0 (cP nd ds Gf).1 (cP nd ds Gf).2 a:=by obtain⟨a,f,g⟩:=Gd (q:=false) (x:=Gf) h0 hm c d (by decide);unfold xJ;rw[hm.z.1];simp only[show¬((1:Int)=0) by decide,bF,e8,aK];rw[show([32,105,110,10,101,115,97,99]:aa)=Gf from rfl,f];exact⟨a,rfl,g⟩
theorem Nn{r:aa}{st:ah}(hm:iS e r st):xJ R st=some st:=by unfold xJ;rw[hm.1];simp only[show¬((2:Int)=0) by decide,bF,e8,aK];rw[rV hm];rfl
theorem TI{st:ah}(hm:st.2.2.2.2.1≠0):JC R st=xJ R st:=by simp_all[JC]
include bj hD bc
theorem am3{r r0:aa}{pd:aq}{st:ah}(h:cC e r pd)(d:fZ e r pd st)(h0:r<:+r0)(k:bx r=some r)(l:r≠[]):bM false e r0 ((if cG (av r) fB then ae (b2 2) λ_=>(nA (a1 true n) (ba true n)).aM zi else bK:ak Unit) r pd) (λst=>st) (λ_ _ _=>True) (xJ R st):=by
 obtain⟨tr,rfl,m⟩:=d;have f:(e.st r pd tr).2.2.2.2.1=0:=rfl;unfold xJ;rw[f,wg h,aP rfl];simp only[bA,gW,aR];have a:=h.nl.ia h.sfx;by_cases aE:ja r=[105,110]
 ·have g:=(rT a A9.1 A9.2).1 aE;simp only[aE,bA,gW,aR];have a8:cG (av r) fB=true:=by grind[cG]
  rw[bo a8];obtain⟨q,rfl⟩:=(qu g).1;rw[aZ (show b2 2 (fB++q) pd= .ok () q pd from rfl)];have b:q<:+fB++q:=gY _ q;have aF:=am1 bj hD bc (h.mono b) (st:=e.st q pd tr) ⟨tr,rfl,λi=>absurd i (h.tO (by decide) (by decide))⟩;refine bM.dX (aF.mono (b.trans h0)) ?_;exact mj (fixF (EZ R zj) bC) (sS h 2 rfl)
 ·have a8:cG (av r) fB=false:=by rw[<-Jn a A9.1 A9.2];exact e9 aE
  simp only[aE,bF,e8,aK];rw[aS (by grind)];obtain⟨o,c,j⟩:=pW (tr:=tr) (e.st r pd tr).2.1 h h0;rw[c,aP rfl];exact⟨_,rfl,by cases c;exact j⟩
theorem am4{r r0:aa}{pd:aq}{tr0:Bool}(h:cC e r pd)(g:r<:+r0){w:aa}{p:Bool}(N:av r= .word w p):bM false e r0 (ae ((pY (ba true n)).aM Gf) (λt=>if cG t fB then ae (b2 2) λ_=>(nA (a1 true n) (ba true n)).aM zi else bK) r pd) (λst=>st) (λ_ _ _=>True) (aw (qm R (e.st r pd tr0)) λy=>JC R y.2.2):=by
 have b:=F3 hD bc (tr0:=tr0) h;have O:=aI.low (aI.cQ (xo true n▸(tJ true n).dl)) h;obtain⟨⟨P,Q,S⟩,E,b⟩:=b;rw[E,aP rfl];dsimp only at b⊢;cases hm:cQ (ba true n) r pd with
 |ok a F G=>
  rw[hm] at b;obtain⟨m,a2,a3, -, -, -⟩:=b;unfold JC;rw[a3.eta.2.2.2.2.1];simp only[bA,aK];obtain⟨T,H,d⟩:=FY a2 a3;rw[H,aP rfl];have z:=aI.low (aI.lines (c:=0)) a2;cases i:cU F G with
  |ok U o s=>
   rw[i] at d;obtain⟨e_,u,I,A,V⟩:=d;obtain⟨tr,rfl,J⟩:=I;have B:(e.st o s tr).2.2.2.2.1=0:=rfl;rw[B,qA,fY];simp only[bA,cD,aK];by_cases v:o=[]
   ·subst v;simp only[bA,aK];obtain⟨K,C,D⟩:=uX (tr:=tr) (x:=[]) u (by decide);rw[C,aP rfl];have f:pY (ba true n) r pd= .more [] [] s:=by unfold pY;rw[aZ hm,aZ i,aZ (cB A)];rfl
    rw[dh (sR f)];have:=u.jS;obtain⟨j,k,l⟩:=Nm (R:=R) u D.s (e_.trans (m.trans g)) (by show([]:aa).length+et s<=_;omega);exact⟨j,k,l⟩
   ·simp only[v,bF,aR];have L:av o≠ .eof:=λM=>v (l2.1 M);have f:pY (ba true n) r pd= .ok (av o) o s:=by unfold pY;rw[aZ hm,aZ i,aZ (cB A),aS L];rfl
    rw[aZ (pX f)];exact am3 bj hD bc u ⟨tr,rfl,J⟩ (e_.trans (m.trans g)) A v
  |more op nd ds=>
   rw[i] at d;have f:pY (ba true n) r pd= .more op nd ds:=by unfold pY;grind[aZ,dh]
   rw[dh (sR f)];have W:=z _ _ _ i;rcases d with d|⟨_,rfl,rfl⟩
   ·rw[d.1];simp only[show¬((1:Int)=0) by decide,bF,cT,ew,cl,aR];obtain⟨j,k,l⟩:=Nm (R:=R) a2 (.inl d) (m.trans g) (by omega);exact⟨j,k,l⟩
   ·have B:(e.tt ds).2.2.2.2.1=0:=rfl;rw[B,o7,fY];simp only[bA,cD,aK];obtain⟨K,C,D⟩:=Gg (pd:=ds) (x:=[]) a2 (by omega) (by simp);rw[C,aP rfl];obtain⟨j,k,l⟩:=Nm (R:=R) a2 D.s (m.trans g) (by show([]:aa).length+et ds<=_;omega);exact⟨j,k,l⟩
  |bad q=>
   rw[i] at d;have f:pY (ba true n) r pd= .bad q:=by unfold pY;grind[aZ,g5]
   rw[g5 (uY f),d.1];simp only[show¬((2:Int)=0) by decide,bF,cT,ew,cl,aR];rw[Nn d];exact⟨_,rfl,d.mono (m.trans g)⟩
  |deep q=>
   rw[i] at d;have f:pY (ba true n) r pd= .deep q:=by unfold pY;grind[aZ,jV]
   rw[jV (uZ f),d.1];simp only[show¬((2:Int)=0) by decide,bF,cT,ew,cl,aR];rw[Nn d];exact⟨_,rfl,d.mono (m.trans g)⟩
 |more op nd ds=>
  rw[hm] at b;have f:pY (ba true n) r pd= .more op nd ds:=by unfold pY;rw[dh hm]
  rw[dh (sR f),TI (by rw[b.z.1];decide)];obtain⟨j,k,l⟩:=Nm (R:=R) h b g (by grind);exact⟨j,k,l⟩
 |bad q=>
  rw[hm] at b;have f:pY (ba true n) r pd= .bad q:=by simp_all[pY,g5]
  rw[g5 (uY f),TI (by rw[b.1];decide),Nn b];exact⟨_,rfl,b.mono g⟩
 |deep q=>
  rw[hm] at b;have f:pY (ba true n) r pd= .deep q:=by simp_all[pY,jV]
  rw[jV (uZ f),TI (by rw[b.1];decide),Nn b];exact⟨_,rfl,b.mono g⟩
theorem am5{r:aa}{pd:aq}{st:ah}(h:cC e r pd)(s:fZ e r pd st):bM false e r (q7 (a1 true n) (ba true n) r pd) (λst=>st) (λ_ _ _=>True) (E0 R st):=by
 rw[am2,amY];obtain⟨tr,rfl,t⟩:=s;rcases xx h ⟨tr,rfl,t⟩ with⟨a,y,i,j,u,k,m,z⟩|⟨i,j⟩
 ·rw[j,aP rfl,aZ (cB i)];obtain⟨b,rfl,A⟩:=u;have l:((e.st a pd b).1,(e.st a pd b).2.1,(e.st a pd b).2.2.1,(e.st r pd tr).2.2.2.1,(e.st a pd b).2.2.2.2.1,(e.st a pd b).2.2.2.2.2.1,(e.st a pd b).2.2.2.2.2.2.1,(e.st r pd tr).2.2.2.2.2.2.2.1,(e.st a pd b).2.2.2.2.2.2.2.2)=e.st a pd b:=rfl;rw[l];unfold TF;rw[qA,aP rfl];by_cases g:a=[]
  ·subst g;simp only[bA,aK];obtain⟨d,c,f⟩:=uX (tr:=b) (x:=Bd) k (by decide);rw[show([120,32,105,110,10,101,115,97,99]:aa)=Bd from rfl,c,aP rfl];exact⟨d,rfl,(f.mono m).s⟩
  ·simp only[g,bF,aR];rw[M_ k g,aP rfl];have q:∃d,hq (e.st a pd b) (e.st a pd b).2.1=some d/\iS e r d:=pW _ k m
   have B:av a≠ .eof:=λv=>g (l2.1 v);cases C:av a with
   |eof=>grind
   |line=>simp only[aK];obtain⟨d,c,f⟩:=q;rw[c,aP rfl];exact⟨_,rfl,by cases c;exact f⟩
   |op o=>simp only[aK];obtain⟨d,c,f⟩:=q;rw[c,aP rfl];exact⟨_,rfl,by cases c;exact f⟩
   |word w p=>simp only[aR];grind[am4]
 ·rw[j,aP rfl,dh (op:=[]) (nd:=(cP [] pd Bd).1) (ds:=(cP [] pd Bd).2) (by rw[iE i];rfl)];have l:((e.tt pd).1,(e.tt pd).2.1,(e.tt pd).2.2.1,(e.st r pd tr).2.2.2.1,(e.tt pd).2.2.2.2.1,(e.tt pd).2.2.2.2.2.1,(e.tt pd).2.2.2.2.2.2.1,(e.st r pd tr).2.2.2.2.2.2.2.1,(e.tt pd).2.2.2.2.2.2.2.2)=e.tt pd:=rfl;rw[l];unfold TF;rw[o7,aP rfl];simp only[aK];obtain⟨d,c,f⟩:=De (x:=Bd) h.A5 (by decide);rw[show([120,32,105,110,10,101,115,97,99]:aa)=Bd from rfl,c,aP rfl];exact⟨d,rfl,(f.mono oK).s⟩
end
theorem No:(iX:aa)≠[]/\iX.all gp=true:=by decide
theorem Dm:(fe:aa)≠[]/\fe.all gp=true:=by decide
theorem TJ:(hR:aa)≠[]/\hR.all gp=true:=by decide
theorem TK:(il:aa)≠[]/\il.all gp=true:=by decide
theorem Np:([125]:aa)≠[]/\([125]:aa).all gp=true:=by decide
theorem TL(t:Tok)(h:dT .qo t=true):∃w,t= .word w true/\w≠[]/\w.all gp=true/\(w=il\/w=hR\/w=fe):=by
 simp only[dT,Bm] at h;rcases h with(h|h)|h
 ·exact⟨il,Ga h,TK.1,TK.2,.inl rfl⟩
 ·exact⟨hR,Ga h,TJ.1,TJ.2,.inr (.inl rfl)⟩
 ·exact⟨fe,Ga h,Dm.1,Dm.2,.inr (.inr rfl)⟩
theorem am6{β:Type}{m:Nat}{c:Ctx}{no:Bool}{kw x y:aa}{K:ak β}(aF:c≠ .text)(b:∀t,dT c t=cG t kw)(e:kw≠[]/\kw.all gp=true){r:aa}{pd:aq}(f:dx r):
  ae (((a1 true m).ls c no).aM x) (λ_=>ae ((cY kw).aM y) (λ_=>K)) r pd=ae (ae (((a1 true m).ls c no).aM x) (λ_=>sQ)) (λ_=>K) r pd:=by
 rw[<-Nc aF b e f];cases hm:(((a1 true m).ls c no).aM x) r pd with
 |ok a r1 g=>
  rw[aZ hm,aZ hm];have d:=jC.1 hm;obtain⟨ao,e7⟩:=A0 true m;rw[e7] at d;obtain⟨h,i⟩:=y4 aF d;rw[b] at i;have j:av r1= .word kw true:=by grind[cG]
  have:=F9 (pd:=g) h j;grind[aZ,pX]
 |more op nd ds=>grind[dh]
 |bad q=>grind[g5]
 |deep q=>grind[jV]
def TM:aa:=[10]++iX++[32,120,10]++fe
def xK:aa:=10::fe
def Nq(l:dU):Unit->ak (Unit⊕Unit):=λ_=>ae ((l.ls .rL false).aM TM) λ_=>ae (cY iX) λ_=>ae ((l.ls .qo false).aM xK) λ_=>
    ae (bQ []) λt=>if cG t il then ae (cY il) λ_=>aW (.inl ()) else
     if cG t hR then ae (cY hR) λ_=>ae ((l.ls .jY false).aM xK) λ_=>ae (cY fe) λ_=>aW (.inr ()) else ae (cY fe) λ_=>aW (.inr ())
theorem am7(l:dU):q6 l=cb (Nq l) ():=rfl
theorem am8{n:Nat}{s':Unit}{r:aa}{pd:aq}{r':aa}{a:aq}(h:Nq (a1 true n) () r pd= .ok (.inl s') r' a):r'.length<r.length:=(XX (pQ true n)).lt (s:=()) h
def Nr(l:dU):ak (Unit⊕Unit):=ae ((l.ls .qo false).aM xK) λ_=>
    ae (bQ []) λt=>if cG t il then ae (cY il) λ_=>aW (.inl ()) else
     if cG t hR then ae (cY hR) λ_=>ae ((l.ls .jY false).aM xK) λ_=>ae (cY fe) λ_=>aW (.inr ()) else ae (cY fe) λ_=>aW (.inr ())
def TN(l:dU):ak (Unit⊕Unit):=ae (ae ((l.ls .qo false).aM xK) λ_=>sQ) λa=>if a=il then aW (.inl ()) else if a=hR then ae (ae ((l.ls .jY false).aM xK) λ_=>sQ) λ_=>aW (.inr ()) else aW (.inr ())
theorem am9{n:Nat}{s:Unit}{r:aa}{pd:aq}(a:dx r):Nq (a1 true n) s r pd=ae (ae (((a1 true n).ls .rL false).aM TM) λ_=>sQ) (λ_=>Nr (a1 true n)) r pd:=by show ae (((a1 true n).ls .rL false).aM TM) (λ_=>ae (cY iX) λ_=>Nr (a1 true n)) r pd=_;exact Nc (by simp) aac No a
theorem am_{r:aa}{pd:aq}{w:aa}(a:dx r)(b:w≠[]/\w.all gp=true)(c:av r= .word w true):sQ r pd= .ok w (r.drop w.length) pd:=by grind[rT,sQ]
theorem ana{n:Nat}{r:aa}{pd:aq}(g:dx r):Nr (a1 true n) r pd=TN (a1 true n) r pd:=by
 unfold Nr TN;rw[kA];cases hm:(((a1 true n).ls .qo false).aM xK) r pd with
 |ok a r1 h=>
  rw[aZ hm,aZ hm];have f:=jC.1 hm;have i:=((pQ true n).ls .qo false).sfx f;have b:=g.ia i;obtain⟨ao,e7⟩:=A0 true n;rw[e7] at f;obtain⟨e,j⟩:=y4 (by simp) f;obtain⟨w,d,k,l,o⟩:=TL _ j;rw[aZ (cB e),aZ (am_ b ⟨k,l⟩ d),d];rcases o with rfl|rfl|rfl
  ·rw[bo (by decide),bo rfl,aZ (F9 e d)]
  ·rw[aS (by decide),bo (by decide),aS (by decide),bo rfl,aZ (F9 e d)];have aE:dx (r1.drop hR.length):=b.ia (lP _ _);have:=Nc (β:=Unit⊕Unit) (m:=n) (no:=false) (x:=xK) (K:=aW (.inr ())) (c:= .jY) (by simp) aae Dm aE (pd:=h);omega
  ·rw[aS (by decide),aS (by decide),aS (by decide),aS (by decide),aZ (F9 e d)]
 |more op nd ds=>grind[dh]
 |bad q=>grind[g5]
 |deep q=>grind[jV]
noncomputable def Dn(R:bk):aa×ah->Option ah:=λy=>
 (bif(bif(decide (y.2.2.2.2.2.1=0)) then(decide (y.1=([101,108,115,101]:aa))) else false) then(aw (pK R y.2 ([([102,105]:aa)]:bt) ([10,102,105]:aa)) λ(b,a)=>some a) else some y.2)
theorem aav(R:bk)(j:aa×ah->Option ah)(k:aa×ah->Option ah)(y:aa×ah):IB R j k y=(bif(bif(decide (y.2.2.2.2.2.1=0)) then(decide (y.1=([101,108,105,102]:aa))) else false) then
 (aw (pK R y.2 ([([116,104,101,110]:aa)]:bt) ([10,116,104,101,110,32,120,10,102,105]:aa)) λz=>
 (bif(decide (z.2.2.2.2.2.1=0)) then
 (aw (pK R z.2 ([([101,108,105,102]:aa),([101,108,115,101]:aa),([102,105]:aa)]:bt) ([10,102,105]:aa)) λv=>k v)
 else k (y.1,z.2)))
 else j y):=rfl
section
variable{R:bk}{n:Nat}(bj:oG R n)(hD:kC R n){e:cg}(bc:e.ne=30- (n:Int))
theorem Ns{y:aa×ah}(h:y.2.2.2.2.2.1≠0):Dn R y=some y.2:=by simp_all[Dn]
include bj bc
theorem anb{r:aa}{pd:aq}{st:ah}(h:cC e r pd)(E:fZ e r pd st):bM false e r (q6 (a1 true n) r pd) (λst=>st) (λ_ _ _=>True) (fixF (IB R (Dn R)) bC (il,st)):=by
 rw[am7];refine bM.rep (en:=λ_ r pd (x:aa×ah)=>x.1=il/\fZ e r pd x.2) (λk s r pd x l i F hk=>?_) bC () r pd _ (we h) h ⟨rfl,E⟩;obtain⟨W,x⟩:=x;obtain⟨rfl,i⟩:=i;dsimp only at i
 have g:∀y:aa×ah,(y.2.2.2.2.2.1≠0\/y.1≠il)->k y=Dn R y:=by
  intro y bp;obtain⟨k',ad⟩:=F y;rw[ad,aav];rcases bp with bp|bp
  ·grind
  ·have:decide (y.1=([101,108,105,102]:aa))=false:=e9 bp;grind
 rw[aav];dsimp only;rw[i.eta.2.2.2.2.1,decide_eq_true (show(il:aa)=[101,108,105,102] from rfl)];simp only[bA,aK];have d:∀{u:aa}{m:aq},Nq (a1 true n) s r pd= .ok (.inl ()) u m->u.length<r.length:=λG=>am8 (s':=()) G
 rw[am9 (l.nl.ia l.sfx)] at d⊢;refine bM.iF (C:=cO _ r) c4.k (Df bj bc (c:= .rL) rfl (by simp) (Gb aac No) (by decide) l i) (λa r1 X b H s1 o z Y=>?_) (λop nd ds b _ p=>?_) (λb q=>?_)
 ·rw[aZ H] at d;rw[z.eta.2.2.2.2.1];simp only[bA,aK];rw[ana (o.nl.ia o.sfx)] at d⊢;unfold TN at d⊢;have I:=(Df bj bc (c:= .qo) (x:=xK) rfl (by simp) (λt Z=>by grind[TL]) (by decide) o z).mono s1;refine bM.iF (C:=cO _ r) c4.k I (λa2 J K f L s2 v j M=>?_) (λop nd ds f _ A=>?_) (λf B=>?_)
  ·rw[aZ L] at d;obtain⟨rfl, -,N, -⟩:=M;obtain⟨w,O,fE,iQ,P⟩:=TL _ N;cases O;rcases P with sP|sP|sP
   ·rw[sP] at d⊢;rw[bo rfl] at d⊢;have hl:=d rfl;exact bM.inl hl (hk () J K f s2 v hl ⟨sP,j⟩)
   ·rw[sP,aS (by decide),bo rfl,g f (.inr (by rw[sP];decide))];unfold Dn;rw[j.eta.2.2.2.2.1,sP,decide_eq_true (show(hR:aa)=[101,108,115,101] from rfl)];simp only[bA,aK];have Q:=(Df bj bc (c:= .jY) (x:=xK) rfl (by simp) (Gb aae Dm) (by decide) v j).mono s2;refine bM.iF (C:=cO _ r) c4.k Q (λa3 cw b5 D MR S T U V=>?_) (λop nd ds D _ o0=>?_) (λD kD=>?_)
    ·exact⟨_,rfl,S,T,U,trivial⟩
    ·grind
    grind
   ·rw[sP,aS (by decide),aS (by decide),g f (.inr (by rw[sP];decide))];unfold Dn;rw[sP,e9 (show¬(fe:aa)=[101,108,115,101] by decide)]
    have:∀b:Bool,(bif b then false else false)=false:=by decide
    rw[this];exact⟨_,rfl,s2,v,j,trivial⟩
  ·rw[g f (.inl (by rw[A.z.1];decide)),Ns (by rw[A.z.1];decide)];grind
  ·rw[g f (.inl (by rw[B.1];decide)),Ns (by rw[B.1];decide)];grind
 ·rw[p.z.1];simp only[show¬((1:Int)=0) by decide,bF,aR];rw[g _ (.inl (by show b.2.2.2.2.2.1≠0;rw[p.z.1];decide)),Ns (by show b.2.2.2.2.2.1≠0;rw[p.z.1];decide)];grind
 ·rw[q.1];simp only[show¬((2:Int)=0) by decide,bF,aR];rw[g _ (.inl (by show b.2.2.2.2.2.1≠0;rw[q.1];decide)),Ns (by show b.2.2.2.2.2.1≠0;rw[q.1];decide)];grind
end
theorem Dp{α:Type}(m:Option α):aw m (λy=>some y)=m:=by cases m<;>rfl
def zk(l:dU)(w:aa):ak Unit:=if w=[123] then ae ((l.ls .q5 false).aM [10,125]) λ_=>cY [125]
 else if w=m_ then q6 l
 else if w=ny then pO l l.dl
 else if w=pL then q7 l l.dl
 else ae ((l.ls .pM false).aM er) λ_=>iP l er
section
variable{R:bk}{n:Nat}(bj:oG R n)(hD:kC R n){e:cg}(bc:e.ne=30- (n:Int))
noncomputable def TP(R:bk)(x0:ah):Option ah:=
 (aw (pK R x0 ([([100,111]:aa)]:bt) ([10,100,111,32,120,10,100,111,110,101]:aa)) λz=>(bif(decide (z.2.2.2.2.2.1=0)) then(aw (pK R z.2 ([([100,111,110,101]:aa)]:bt) ([10,100,111,110,101]:aa)) λv=>some v.2) else some z.2))
theorem ane(R:bk)(x0:ah)(w:aa):CB R x0 w=(bif(decide (w=([123]:aa))) then(aw (pK R x0 ([([125]:aa)]:bt) ([10,125]:aa)) λz=>some z.2) else
 (bif(bif(decide (w=([119,104,105,108,101]:aa))) then(decide (w=([119,104,105,108,101]:aa))) else(decide (w=([117,110,116,105,108]:aa)))) then TP R x0 else
 (bif(decide (w=([105,102]:aa))) then fixF (IB R (Dn R)) bC (il,x0) else
 (bif(decide (w=([102,111,114]:aa))) then(aw (E2 R x0) λy=>some y) else
 (bif(decide (w=([99,97,115,101]:aa))) then(aw (E0 R x0) λy=>some y) else some x0))))):=by
 unfold CB a_;cases decide (w=([123]:aa)) with
 |true=>rfl
 |false=>cases decide (w=([119,104,105,108,101]:aa))<;>rfl
include bj bc
theorem aaw{r:aa}{pd:aq}{st:ah}(h:cC e r pd)(i:fZ e r pd st):bM false e r (ae (((a1 true n).ls .pM false).aM er) (λ_=>iP (a1 true n) er) r pd) (λst=>st) (λ_ _ _=>True) (TP R st):=by
 have j:ae (((a1 true n).ls .pM false).aM er) (λ_=>iP (a1 true n) er) r pd=ae (ae (((a1 true n).ls .pM false).aM er) (λ_=>sQ)) (λ_=>ae (((a1 true n).ls .done false).aM (10::iO)) λ_=>cY iO) r pd:=by unfold iP;exact am6 (by simp) aaf wj (h.nl.ia h.sfx)
 rw[j];unfold TP;refine bM.iF (C:=λx=>x) c4.id (Df bj bc (c:= .pM) rfl (by simp) (Gb aaf wj) (by decide) h i) (λa r1 p b q s1 d f s=>?_) (λop nd ds b _ k=>?_) (λb l=>?_)
 ·rw[f.eta.2.2.2.2.1];simp only[bA,aK];rw[Tt (by simp) Nd Gc (d.nl.ia d.sfx)];refine bM.iF (C:=λx=>x) c4.id ((Df bj bc (c:= .done) rfl (by simp) (Gb Nd Gc) (by decide) d f).mono s1) (λa t u g v s2 m o w=>?_) (λop nd ds g _ y=>?_) (λg z=>?_)
  ·exact⟨_,rfl,s2,m,o,trivial⟩
  ·grind
  grind
 ·rw[k.z.1];grind
 ·rw[l.1];grind
include hD
theorem anf{r:aa}{pd:aq}{st:ah}(h:cC e r pd)(b:fZ e r pd st){w:aa}(j:q4 w=true):bM false e r (zk (a1 true n) w r pd) (λst=>st) (λ_ _ _=>True) (CB R st w):=by
 rw[ane];unfold zk;have f:w=m_\/w=xg\/w=IP\/w=ny\/w=pL\/w=[123]:=by grind[q4]
 rcases f with rfl|rfl|rfl|rfl|rfl|rfl
 ·rw[aS (by decide),bo rfl];exact anb bj bc h b
 ·rw[aS (by decide),aS (by decide),aS (by decide),aS (by decide)];exact aaw bj bc h b
 ·rw[aS (by decide),aS (by decide),aS (by decide),aS (by decide)];exact aaw bj bc h b
 ·rw[aS (by decide),aS (by decide),bo rfl,xo];refine bM.dX (amM bj hD bc h b h.sfx) ?_;exact Dp _
 ·rw[aS (by decide),aS (by decide),aS (by decide),bo rfl,xo];refine bM.dX (am5 bj hD bc h b) ?_;exact Dp _
 ·rw[bo rfl,Tt (by simp) aad Np (h.nl.ia h.sfx)];refine bM.iF (C:=λx=>x) c4.id (Df bj bc (c:= .q5) rfl (by simp) (Gb aad Np) (by decide) h b) (λa k l d m s2 g i o=>?_) (λop nd ds d _ p=>?_) (λd q=>?_)
  ·exact⟨_,rfl,s2,g,i,trivial⟩
  ·grind
  grind
end
def setAt(y:ah)(a:Int):ah:=(y.1,a,y.2.2.1,y.2.2.2.1,y.2.2.2.2.1,y.2.2.2.2.2.1,y.2.2.2.2.2.2.1,y.2.2.2.2.2.2.2.1,y.2.2.2.2.2.2.2.2)
noncomputable def Be(R:bk)(nm:aa):ah->Option ah:=λx=>
 (aw (gx x nm ([])) λ(a:ah)=>(bif(decide (a.2.2.2.2.1=0)) then(aw (CD R (sO a)) λ(b:ah)=>some b) else some (sO a)))
noncomputable def aax(R:bk):ah->Option ah:=λx=>
 (aw (hF x) λ(c:aa)=>(bif(decide (c=([40]:aa))) then(aw (R.nP (setAt x (W (x.2.1+1))) ([41]:aa) ([]:bt) true) λz=>(aw (gx z.2 ([]) ([41]:aa)) λ(b:ah)=>Be R [40] (setAt b (W (b.2.1+1))))) else(aw (lL x) λ(a:aa)=>(aw (CB R (setAt x (W (x.2.1+(a.length:Int)))) a) λ(d:ah)=>Be R a d))))
theorem ang(R:bk)(x0:ah):yT R x0=(aw (yM x0 x0.2.1) λz=>
 (bif(!z.1) then
 some (z.2.1,z.2.2.1,z.2.2.2.1,x0.2.2.2.1,z.2.2.2.2.2.1,z.2.2.2.2.2.2.1,z.2.2.2.2.2.2.2.1,x0.2.2.2.2.2.2.2.1,z.2.2.2.2.2.2.2.2.2)
 else aax R (z.2.1,z.2.2.1,z.2.2.2.1,x0.2.2.2.1,z.2.2.2.2.2.1,z.2.2.2.2.2.2.1,z.2.2.2.2.2.2.2.1,x0.2.2.2.2.2.2.2.1,z.2.2.2.2.2.2.2.2.2))):=rfl
theorem aay{st:ah}{nm:aa}(h:st.2.2.2.2.1=1)(ax:nm≠[])(i:st.2.2.2.2.2.2.2.1.length<=2000000)(j:st.2.2.2.2.2.2.1.length+et st.2.2.2.1<=1000000000):gx st nm []=some (st.1,st.2.1,st.2.2.1,st.2.2.2.1,st.2.2.2.2.1,st.2.2.2.2.2.1,st.2.2.2.2.2.2.1,[nm]++st.2.2.2.2.2.2.2.1,st.2.2.2.2.2.2.2.2):=by
 obtain⟨a,b,c,d,uW,f,g,op,tr⟩:=st;simp only at h i j⊢;subst h;have l:=tK d
 have k:∀e,vN (a,b,c,d,1,f,g,e,tr) []=some (a,b,c,(cP g d []).2,1,f,(cP g d []).1,e,tr):=λe=>C_ _ _ _ _ _ _ _ _ _ _ (by simp) (by omega) (by omega)
 unfold gx a_;simp only[bA,aK];simp only[ax,bF,e8,aK];rw[b9 (by grind),k,aP rfl];rfl
theorem aaz{R:bk}{e:cg}{q r:aa}{nd:aa}{ds:aq}{y:ah}{nm:aa}(hm:n8 e.up q nd ds y)(i:q<:+r)(hl:q.length<r.length)(f:r<:+e.S)(j:e.S.length<=1000000)(k:nd.length+et ds<=100*e.S.length+1000)(ax:nm≠[])(a:Int)(l:y.2.1<=a/\a<=y.2.1+1):∃c,Be R nm (setAt y a)=some c/\iG true e r nd ds c:=by
 obtain⟨ad,g,h,b,m⟩:=hm;have d:=f.length_le;have n:=b.op;unfold Be;rw[aay (st:=setAt y a) ad ax (by show y.2.2.2.2.2.2.2.1.length<=_;omega) (by show y.2.2.2.2.2.2.1.length+et y.2.2.2.1<=_;grind),aP rfl];show∃c,(bif decide (y.2.2.2.2.1=0) then _ else _)=some c/\_
 rw[ad];simp only[show¬((1:Int)=0) by decide,decide_false,cond_false];refine⟨_,rfl,.inl ⟨ad,g,h,⟨b.s,?_,?_,b.nd,?_⟩,?_⟩⟩
 ·show az e.S r<=a;have:az e.S r<=az e.S q:=by grind[az]
  have:=b.lo;have hu:az e.up.S q=az e.S q:=rfl;omega
 ·show a<=_;have:=b.a8;have hu:e.up.S=e.S:=rfl;grind
 ·show([nm]++y.2.2.2.2.2.2.2.1).length<=_;grind
 ·show _<=a;have hu:e.up.S=e.S:=rfl;grind
theorem Nt{R:bk}{e:cg}{q r:aa}{y:ah}{nm:aa}(hm:iS e.up q y)(d:q<:+r)(hl:q.length<r.length)(a:Int)(f:y.2.1<=a/\a<=y.2.1+1):∃c,Be R nm (setAt y a)=some c/\iS e r c:=by
 obtain⟨ad,b⟩:=hm;have g:=b.op;unfold Be;rw[pU (st:=setAt y a) (by show y.2.2.2.2.1≠1;omega),aP rfl];show∃c,(bif decide (y.2.2.2.2.1=0) then _ else _)=some c/\_
 rw[ad];simp only[show¬((2:Int)=0) by decide,bF,aR];refine⟨_,rfl,ad,⟨b.s,?_,?_,b.nd,?_⟩⟩
 ·show az e.S r<=a;have:az e.S r<=az e.S q:=by grind[az]
  have:=b.lo;have hu:az e.up.S q=az e.S q:=rfl;omega
 ·show a<=_;have:=b.a8;have hu:e.up.S=e.S:=rfl;grind
 ·show y.2.2.2.2.2.2.2.1.length<=_;omega
theorem aaA{R:bk}{e:cg}{q:aa}{pd:aq}{tr:Bool}{nm:aa}{n:Nat}(bc:e.ne=30- (n:Int))(ax:n<=30):Be R nm (e.up.st q pd tr)=CD R (e.st q pd tr):=by
 unfold Be;rw[pU (by show(0:Int)≠1;decide),aP rfl];have h0:(e.up.st q pd tr).2.2.2.2.1=0:=rfl;rw[h0];simp only[bA,aK];have:sO (e.up.st q pd tr)=e.st q pd tr:=by
  show(e.S,az e.S q,W (e.ne+1-1),pd,(0:Int),(0:Int),([]:aa),([]:bt),tr)=_;have ad:e.ne+1-1=e.ne:=by omega
  rw[ad,dW (by omega) (by omega)];rfl
 grind[Dp]
section
variable{R:bk}{n:Nat}(gL:∀m,n=m+1->kC R m/\oG R m)(hD:kC R n)(ax:n<=30){e:cg}(bc:e.ne=30- (n:Int))
include gL hD ax bc
theorem aaB{r:aa}{pd:aq}{st:ah}(h:cC e r pd)(Y:fZ e r pd st)(ag:bx r=some r)(aF:hG (av r)=true):bM true e r (ae ((a1 true n).cp (av r)) (λ_=>gV (ba true n)) r pd) (λst=>st) (λ_ _ _=>True) (yT R st):=by
 obtain⟨tr,rfl,g6⟩:=Y;rw[ang];unfold yM;have Z:=h.nl.ia h.sfx;cases n with
 |zero=>
  have D:decide (30<=(e.st r pd tr).2.2.1)=true:=by show decide (30<=e.ne)=true;grind
  rw[D];have aB:(a1 true 0).cp (av r) r pd= .deep r:=rfl;rw[jV aB];obtain⟨st,j,c⟩:=pW (tr:=tr) ((e.st r pd tr).2.1) h fQ;simp only[aK,sN];rw[j,aP rfl,aP rfl];exact⟨_,rfl,by cases j;exact c⟩
 |succ m=>
  obtain⟨M6,O⟩:=gL m rfl;have D:decide (30<=(e.st r pd tr).2.2.1)=false:=by show decide (30<=e.ne)=false;grind
  rw[D];simp only[aR,n9,gW];have xB:W ((e.st r pd tr).2.2.1+1)=e.ne+1:=dW (by show-_<=e.ne+1;omega) (by grind);rw[xB];have Jp:((e.st r pd tr).1,(e.st r pd tr).2.1,e.ne+1,(e.st r pd tr).2.2.2.1,(e.st r pd tr).2.2.2.2.1,(e.st r pd tr).2.2.2.2.2.1,(e.st r pd tr).2.2.2.2.2.2.1,(e.st r pd tr).2.2.2.2.2.2.2.1,(e.st r pd tr).2.2.2.2.2.2.2.2)=e.up.st r pd tr:=rfl;rw[Jp];unfold aax;rw[rU h.xA,aP rfl];have P:e.up.ne=30- (m:Int):=by show e.ne+1=_;omega
  have FT:(a1 true (m+1)).cp (av r)=(hS (a1 true m) (av r)).named (mH (av r)):=rfl;rw[FT];by_cases B:bs r=[40]
  ·have Q:av r= .op [40]:=(mQ (by simp)).2 B;simp only[B,bA,aK];rw[Q];obtain⟨q,rfl⟩:=(iq Q).2.1;have f:q<:+[40]++q:=gY _ q;have hl:q.length<([40]++q).length:=by simp
   have E:=h.tO (by simp) (by decide);have k:=(h.mono f).xA;have F:setAt (e.up.st ([40]++q) pd tr) (W ((e.up.st ([40]++q) pd tr).2.1+1))=e.up.st q pd tr:=sS h.xA 1 rfl;rw[F];obtain⟨b,j,c⟩:=O.im e.up .paren false rfl P q pd (e.up.st q pd tr) k ⟨tr,rfl,λi=>absurd i E⟩;have wi:R.nP (e.up.st q pd tr) [41] [] true=some b:=j;rw[wi,aP rfl];have p:=aI.low ((tJ true m).ls .paren false) k;have G:∀x,((hS (a1 true m) (.op [40])).named x) ([40]++q) pd=((ae (((a1 true m).ls .paren false).aM [41]) (λ_=>jR [41])).named x) q pd:=λx=>rfl
   have H:∀(x:aa),(ae ((hS (a1 true m) (.op [40])).named x) (λ_=>gV (ba true (m+1)))) ([40]++q) pd=ae ((ae (((a1 true m).ls .paren false).aM [41]) (λ_=>jR [41])).named x) (λ_=>gV (ba true (m+1))) q pd:=λx=>rfl
   rw[H];have s:e.up.S=e.S:=rfl;cases hk:(a1 true m).ls .paren false q pd with
   |ok a r1 l=>
    rw[hk] at c;obtain⟨I,a2,⟨o,a3,S⟩,e3⟩:=c;dsimp only at a3;have mO:=hk;obtain⟨ao,e7⟩:=A0 true m;rw[e7] at hk;obtain⟨g8,lG⟩:=y4 (by simp) hk;have J:av r1= .op [41]:=by grind[dT]
    obtain⟨v,rfl⟩:=(iq J).2.1;have d:(ae (((a1 true m).ls .paren false).aM [41]) (λ_=>jR [41])).named (mH (.op [40])) q pd= .ok () v l:=by grind[ak.named,aZ,pX,FJ]
    rw[aZ d];have nC:gx b.2 [] [41]=some b.2:=pU (by rw[a3];show(0:Int)≠1;decide);rw[nC,aP rfl,a3];have T:v<:+[41]++v:=gY [41] v;have K:setAt (e.up.st ([41]++v) l o) (W ((e.up.st ([41]++v) l o).2.1+1))=e.up.st v l o:=sS a2 1 rfl;rw[K,aaA bc ax];have sM:=a2.tO (by simp) (by decide);exact(aab hD bc (a2.tM.mono T) ⟨o,rfl,λi=>absurd i sM⟩).mono (T.trans (I.trans f))
   |more op nd ds=>
    rw[hk] at c;have hb:=p _ _ _ hk;rw[s] at hb;have d:(ae (((a1 true m).ls .paren false).aM [41]) (λ_=>jR [41])).named (mH (.op [40])) q pd= .more ([40]::op) (cP nd ds [41]).1 (cP nd ds [41]).2:=by unfold ak.named;rw[dh (sR hk)];rfl
    rw[dh d];obtain⟨U,al,L⟩:=xy (e:=e.up) (nm:=[]) (x:=[41]) (r1:=q) (r0:=q) c.z fQ k.sfx (.inl rfl) (by grind) k.b0 (by simp);rw[al,aP rfl];have aas:=A3 [41] nd ds;have t:=L.2.2.2.1.a8;have j8:=L.2.2.2.1.lo;have y:=f.length_le;have hle:=h.sfx.length_le;have V:0<=az e.up.S q:=by grind[az]
    have X:=h.b0;rw[s] at t;have z:W (U.2.1+1)=U.2.1+1:=dW (by omega) (by omega);rw[z];exact aaz L f hl h.sfx h.b0 (by grind) (by simp) _ ⟨by omega,by omega⟩
   |bad u=>
    rw[hk] at c;have d:(ae (((a1 true m).ls .paren false).aM [41]) (λ_=>jR [41])).named (mH (.op [40])) q pd= .bad u:=by grind[ak.named,g5,uY]
    rw[g5 d,rV c,aP rfl];have g:iS e.up q b.2:=c;have t:=g.2.a8;have j8:=g.2.lo;have hle:=h.sfx.length_le;have y:=f.length_le;have V:0<=az e.up.S q:=by grind[az]
    have X:=h.b0;rw[s] at t;have z:W (b.2.2.1+1)=b.2.2.1+1:=dW (by omega) (by omega);rw[z];exact Nt g f hl _ ⟨by omega,by omega⟩
   |deep u=>
    rw[hk] at c;have d:(ae (((a1 true m).ls .paren false).aM [41]) (λ_=>jR [41])).named (mH (.op [40])) q pd= .deep u:=by grind[ak.named,jV,uZ]
    rw[jV d,rV c,aP rfl];have g:iS e.up q b.2:=c;have t:=g.2.a8;have j8:=g.2.lo;have hle:=h.sfx.length_le;have y:=f.length_le;have V:0<=az e.up.S q:=by grind[az]
    have X:=h.b0;rw[s] at t;have z:W (b.2.2.1+1)=b.2.2.1+1:=dW (by omega) (by omega);rw[z];exact Nt g f hl _ ⟨by omega,by omega⟩
  ·have ar1:av r≠ .op [40]:=λi=>B ((mQ (by simp)).1 i);simp only[B,bF,aR];rw[wg h.xA,aP rfl]
   obtain⟨w,A,M⟩:∃w,av r= .word w true/\q4 w=true:=by unfold hG at aF;grind
   have C:w≠[]/\w.all gp=true:=by
    have gO:w=m_\/w=xg\/w=IP\/w=ny\/w=pL\/w=[123]:=by grind[q4]
    rcases gO with rfl|rfl|rfl|rfl|rfl|rfl<;>decide
   have aB:=(rT Z C.1 C.2).2 A;rw[aB,A];have hE:=(qu A).1;have mh:=(qu A).2;obtain⟨q,rfl⟩:=hE;have f:q<:+w++q:=gY _ q;have hl:q.length<(w++q).length:=by grind[List.length_pos_iff]
   have E:=h.tO C.1 mh;have k:=(h.mono f).xA;have F:setAt (e.up.st (w++q) pd tr) (W ((e.up.st (w++q) pd tr).2.1+(w.length:Int)))=e.up.st q pd tr:=sS h.xA w.length rfl;rw[F];obtain⟨b,j,c⟩:=anf O M6 P k (st:=e.up.st q pd tr) ⟨tr,rfl,λi=>absurd i E⟩ M;rw[j,aP rfl];have G:(hS (a1 true m) (.word w true)) (w++q) pd=zk (a1 true m) w q pd:=by show ae (b2 w.length) (λ_=>zk (a1 true m) w) (w++q) pd=_;rw[aZ (show b2 w.length (w++q) pd= .ok () q pd from by simp[b2])]
   have p:=ea.kind (tJ true m) (r:=w++q) (pd:=pd) (by omega);rw[A,G] at p;have s:e.up.S=e.S:=rfl;have v7:=h.jS;have N:setAt b b.2.1=b:=rfl;cases hk:zk (a1 true m) w q pd with
   |ok a r1 l=>
    rw[hk] at c;obtain⟨I,a2,⟨o,a3,S⟩,e3⟩:=c;have d:((hS (a1 true m) (.word w true)).named (mH (.word w true))) (w++q) pd= .ok () r1 l:=by grind[ak.named]
    rw[aZ d];dsimp only at a3;rw[a3,aaA bc ax];exact(aab hD bc a2.tM ⟨o,rfl,S⟩).mono (I.trans f)
   |more op nd ds=>
    rw[hk] at c p;simp only[ea] at p;have d:((hS (a1 true m) (.word w true)).named (mH (.word w true))) (w++q) pd= .more (w::op) nd ds:=by unfold ak.named;rw[G,hk];rfl
    rw[dh d];have g:iG false e.up q nd ds b:=c;have:=aaz (R:=R) (nm:=w) g.z f hl h.sfx h.b0 (by omega) C.1 b.2.1 ⟨by omega,by omega⟩;rw[N] at this;exact this
   |bad u=>
    rw[hk] at c;have d:((hS (a1 true m) (.word w true)).named (mH (.word w true))) (w++q) pd= .bad u:=by grind[ak.named]
    rw[g5 d];have g:iS e.up q b:=c;have:=Nt (R:=R) (nm:=w) g f hl b.2.1 ⟨by omega,by omega⟩;rw[N] at this;exact this
   |deep u=>
    rw[hk] at c;have d:((hS (a1 true m) (.word w true)).named (mH (.word w true))) (w++q) pd= .deep u:=by grind[ak.named]
    rw[jV d];have g:iS e.up q b:=c;have:=Nt (R:=R) (nm:=w) g f hl b.2.1 ⟨by omega,by omega⟩;rw[N] at this;exact this
end
noncomputable def rk:ah->Option ah:=λx=>
 (aw (gx x ([102,40,41]:aa) ([])) λ(a:ah)=>some (sO a))
theorem anl{e:cg}{q r:aa}{nd:aa}{ds:aq}{y:ah}(hm:n8 e.up q nd ds y)(k:q<:+r)(hl:q.length<r.length)(f:r<:+e.S)(l:e.S.length<=1000000)(m:nd.length+et ds<=100*e.S.length+1000):∃b,rk y=some b/\iG true e r nd ds b:=by
 obtain⟨ad,g,h,a,c⟩:=hm;have d:=f.length_le;have n:=a.op;have hu:e.up.S=e.S:=rfl;have i:az e.up.S q=az e.S q:=rfl;unfold rk;rw[aay (st:=y) ad (by simp) (by omega) (by grind),aP rfl];have o:az e.S r<=az e.S q:=by grind[az]
 have j8:=a.lo;have j:=a.a8;rw[hu] at j c;refine⟨_,rfl,.inl ⟨ad,g,h,⟨a.s,?_,?_,a.nd,?_⟩,c⟩⟩
 ·show az e.S r<=y.2.1;omega
 ·show y.2.1<=_;omega
 ·show([[102,40,41]]++y.2.2.2.2.2.2.2.1).length<=_;grind
theorem aaD{e:cg}{q r:aa}{y:ah}(hm:iS e.up q y)(b:q<:+r):∃a,rk y=some a/\iS e r a:=by unfold rk;rw[rV hm,aP rfl];exact⟨_,rfl,(iS.mono (e:=e) ⟨hm.1,hm.2.tM.sO⟩ b)⟩
theorem anm{e:cg}{q:aa}{pd:aq}{tr:Bool}{n:Nat}(bc:e.ne=30- (n:Int))(ax:n<=30):sO (e.up.st q pd tr)=e.st q pd tr:=by
 show(e.S,az e.S q,W (e.ne+1-1),pd,(0:Int),(0:Int),([]:aa),([]:bt),tr)=_;have ad:e.ne+1-1=e.ne:=by omega
 rw[ad,dW (by omega) (by omega)];rfl
theorem aaE{e:cg}{q:aa}{pd:aq}{tr:Bool}{n:Nat}(bc:e.ne=30- (n:Int))(ax:n<=30):rk (e.up.st q pd tr)=some (e.st q pd tr):=by unfold rk;rw[pU (by show(0:Int)≠1;decide),aP rfl,anm bc ax]
theorem ann{e:cg}{pd:aq}{n:Nat}(bc:e.ne=30- (n:Int))(ax:n<=30):rk (e.up.tt pd)=some (e.tt pd):=by grind[xw,aaE]
noncomputable def TR(R:bk):ah->Option ah:=λa=>
 (aw (gw a) λ(d:Bool)=>(bif d then(aw (g_ a ([123,32,120,10,125]:aa)) λ(e:ah)=>rk e) else(aw (hF a) λ(c:aa)=>(cT ((decide (c=([40]:aa)))=false) (lL a) [] λ(f:aa)=>(cT ((decide (c=([40]:aa)))=false) (yJ f) false λ(g:Bool)=>(bif(bif(decide (c=([40]:aa))) then true else g) then(aw (yT R a) λ(h:ah)=>rk h) else(aw (hq a a.2.1) λ(b:ah)=>rk (b.1,b.2.1,b.2.2.1,a.2.2.2.1,b.2.2.2.2.1,b.2.2.2.2.2.1,b.2.2.2.2.2.2.1,a.2.2.2.2.2.2.2.1,b.2.2.2.2.2.2.2.2))))))))
noncomputable def TS(R:bk):ah->Option ah:=λx=>
 (aw (gw x) λ(c:Bool)=>(bif c then(aw (g_ x ([41,32,123,32,120,10,125]:aa)) λ(d:ah)=>rk d) else(aw (hF x) λ(e:aa)=>(bif(!(decide (e=([41]:aa)))) then(aw (hq x x.2.1) λ(a:ah)=>rk (a.1,a.2.1,a.2.2.1,x.2.2.2.1,a.2.2.2.2.1,a.2.2.2.2.2.1,a.2.2.2.2.2.2.1,x.2.2.2.2.2.2.2.1,a.2.2.2.2.2.2.2.2)) else(aw (ow (setAt x (W (x.2.1+1)))) λ(b:ah)=>(bif(!(decide (b.2.2.2.2.1=0))) then(aw (gx b ([]) ([123,32,120,10,125]:aa)) λ(f:ah)=>rk f) else TR R b))))))
theorem ano(R:bk)(x0:ah):E4 R x0=(bif(decide (28<x0.2.2.1)) then
 (aw (hq x0 x0.2.1) λ(a:ah)=>
 some (a.1,a.2.1,a.2.2.1,x0.2.2.2.1,a.2.2.2.2.1,a.2.2.2.2.2.1,a.2.2.2.2.2.2.1,x0.2.2.2.2.2.2.2.1,a.2.2.2.2.2.2.2.2))
 else
 (aw (g9 (x0.1,(W (x0.2.1+1)),(W (x0.2.2.1+1)),x0.2.2.2.1,x0.2.2.2.2.1,x0.2.2.2.2.2.1,x0.2.2.2.2.2.2.1,x0.2.2.2.2.2.2.2.1,x0.2.2.2.2.2.2.2.2)) λ(b:ah)=>
 TS R (b.1,b.2.1,b.2.2.1,x0.2.2.2.1,b.2.2.2.2.1,b.2.2.2.2.2.1,b.2.2.2.2.2.2.1,x0.2.2.2.2.2.2.2.1,b.2.2.2.2.2.2.2.2))):=rfl
noncomputable def Gh(R:bk):ah->Option ah:=λa=>
 (aw (gw a) λ(d:Bool)=>(bif d then g_ a ([123,32,120,10,125]:aa) else(aw (hF a) λ(c:aa)=>(cT ((decide (c=([40]:aa)))=false) (lL a) [] λ(e:aa)=>(cT ((decide (c=([40]:aa)))=false) (yJ e) false λ(f:Bool)=>(bif(bif(decide (c=([40]:aa))) then true else f) then yT R a else(aw (hq a a.2.1) λ(b:ah)=>some (b.1,b.2.1,b.2.2.1,a.2.2.2.1,b.2.2.2.2.1,b.2.2.2.2.2.1,b.2.2.2.2.2.2.1,a.2.2.2.2.2.2.2.1,b.2.2.2.2.2.2.2.2))))))))
noncomputable def Nv(R:bk):ah->Option ah:=λx=>
 (aw (gw x) λ(c:Bool)=>(bif c then g_ x ([41,32,123,32,120,10,125]:aa) else(aw (hF x) λ(d:aa)=>(bif(!(decide (d=([41]:aa)))) then(aw (hq x x.2.1) λ(a:ah)=>some (a.1,a.2.1,a.2.2.1,x.2.2.2.1,a.2.2.2.2.1,a.2.2.2.2.2.1,a.2.2.2.2.2.2.1,x.2.2.2.2.2.2.2.1,a.2.2.2.2.2.2.2.2)) else(aw (ow (setAt x (W (x.2.1+1)))) λ(b:ah)=>(bif(!(decide (b.2.2.2.2.1=0))) then gx b ([]) ([123,32,120,10,125]:aa) else Gh R b))))))
theorem aaF{α β:Type}(c:Bool)(a b:Option α)(k:α->Option β):aw (bif c then a else b) k=bif c then aw a k else aw b k:=by grind
theorem anp(R:bk)(x:ah):TR R x=aw (Gh R x) rk:=by unfold TR Gh;simp[sN,aaF,ZY,n9]
theorem anq(R:bk)(x:ah):TS R x=aw (Nv R x) rk:=by unfold TS Nv;simp[sN,aaF,n9,anp]
theorem anr{q:Bool}{e:cg}{r1 r:aa}{X:dw Unit}{y:Option ah}{n:Nat}(bc:e.ne=30- (n:Int))(ax:n<=30)(h:bM q e.up r1 X (λst=>st) (λ_ _ _=>True) y)(ad:r1<:+r)(hl:r1.length<r.length)(f:r<:+e.S)(g:e.S.length<=1000000):bM true e r X (λst=>st) (λ_ _ _=>True) (aw y rk):=by
 obtain⟨b,rfl,h⟩:=h;rw[aP rfl];cases X with
 |ok a r' l=>obtain⟨i,a2,⟨tr,a3,j⟩,_⟩:=h;dsimp only at a3;subst a3;rw[aaE bc ax];exact⟨_,rfl,i.trans ad,a2.tM,⟨tr,rfl,j⟩,trivial⟩
 |more op nd ds=>
  rcases h with h|⟨_,k,d⟩
  ·have c:n8 e.up r1 nd ds b:=h;exact anl c ad hl f g (by have:=c.2.2.2.1.nd;rw[c.2.1,c.2.2.1] at this;exact this)
  ·dsimp only at d;subst k d;rw[ann bc ax];exact⟨_,rfl,.inr ⟨rfl,rfl,rfl⟩⟩
 |bad u=>exact aaD h ad
 |deep u=>exact aaD h ad
theorem bM.named{q:Bool}{α β:Type}{e:cg}{r0 r:aa}{pd:aq}{m:ak α}{x:aa}{pr:β->ah}{cv:α->aa->β->Prop}{y:Option β}(h:bM q e r0 (m r pd) pr cv y):bM q e r0 (m.named x r pd) pr cv y:=by unfold ak.named;cases hm:m r pd<;>rw[hm] at h<;>exact h
def Gi:aa:=[41,32,123,32,120,10,125]
def zl:aa:=[123,32,120,10,125]
def TT(l:dU):ak Unit:=ae (bQ zl) λt=>if t= .eof then b7 zl else if hG t then ae (l.cp t) λ_=>l.rd else bK
def TU(l:dU):ak Unit:=ae (bQ Gi) λt=>if t= .eof then b7 Gi else if t= .op [41] then ae (b2 1) λ_=>ae (cU.aM zl) λ_=>TT l else bK
section
variable{R:bk}{n:Nat}(gL:∀m,n=m+1->kC R m/\oG R m)(hD:kC R n)(ax:n<=30){e:cg}(bc:e.ne=30- (n:Int))
include gL hD ax bc
theorem ans{r:aa}{pd:aq}{st:ah}(h:cC e r pd)(f:fZ e r pd st)(g:bx r=some r):bM true e r (TT (a1 true n) r pd) (λst=>st) (λ_ _ _=>True) (Gh R st):=by
 unfold TT;rw[aZ (cB g)];have k:= @aaB R n gL hD ax e bc r pd st h f g;obtain⟨tr,rfl,q⟩:=f;unfold Gh;rw[qA,aP rfl];by_cases b:r=[]
 ·subst b;simp only[bA,aK];obtain⟨i,a,c⟩:=uX (tr:=tr) (x:=zl) h (by decide);rw[show([123,32,120,10,125]:aa)=zl from rfl,a];exact⟨i,rfl,c.s⟩
 ·simp only[b,bF,aR];have l:av r≠ .eof:=λm=>b (l2.1 m);rw[aS l,rU h,aP rfl,wg h];have o:=h.nl.ia h.sfx;have s:=ZN o;by_cases j:bs r=[40]
  ·simp only[j,bA,cT,tU,cl,aK];have aF:hG (av r)=true:=by grind
   rw[bo aF];have p:(a1 true n).rd=gV (ba true n):=by cases n<;>rfl
   grind
  ·simp only[j,bF];rw[fY,ZE,fY];simp only[cD,aR];have d:q4 (ja r)=hG (av r):=by grind
   rw[d];by_cases aF:hG (av r)=true
   ·rw[aF,bo rfl];have p:(a1 true n).rd=gV (ba true n):=by cases n<;>rfl
    grind
   ·rw[aS aF,GC.2 aF];simp only[aR];obtain⟨i,a,c⟩:=pW (tr:=tr) (e.st r pd tr).2.1 h fQ;rw[a,aP rfl];exact⟨_,rfl,by cases a;exact c⟩
theorem anu{u:aa}{pd:aq}{x:ah}(h:cC e u pd)(z:Di e u pd x):bM true e u (TU (a1 true n) u pd) (λst=>st) (λ_ _ _=>True) (Nv R x):=by
 unfold TU Nv;rcases z with⟨r,tr,p,rfl,K,i,s,L⟩|⟨p,rfl⟩
 ·rw[aZ (cB p),qA,aP rfl];by_cases t:r=[]
  ·subst t;simp only[bA,aK];obtain⟨d,f,g⟩:=uX (tr:=tr) (x:=Gi) i (by decide);rw[show([41,32,123,32,120,10,125]:aa)=Gi from rfl,f];exact⟨d,rfl,(g.mono s).s⟩
  ·simp only[t,bF,aR];have A:av r≠ .eof:=λj=>t (l2.1 j);rw[aS A,rU i,aP rfl];by_cases l:bs r=[41]
   ·have m:av r= .op [41]:=(mQ (by simp)).2 l;simp only[l,bA,gW,aR];rw[bo m];obtain⟨v,rfl⟩:=(iq m).2.1;have y:v<:+[41]++v:=gY [41] v;have B:=i.tO (by simp) (by decide);have C:setAt (e.st ([41]++v) pd tr) (W ((e.st ([41]++v) pd tr).2.1+1))=e.st v pd tr:=sS i 1 rfl;rw[C,aZ (show b2 1 ([41]++v) pd= .ok () v pd from rfl)];have o:=i.mono y;obtain⟨M,D,b⟩:=FY o (st:=e.st v pd tr) ⟨tr,rfl,λj=>absurd j B⟩;rw[D,aP rfl];have E:=aI.low (aI.lines (c:=0)) o;have k:v<:+u:=y.trans s;cases hm:cU v pd with
    |ok a r1 N=>rw[hm] at b;obtain⟨F,a2,a3,G,O⟩:=b;rw[aZ (pX hm),a3.eta.2.2.2.2.1];simp only[bA,gW,aR];exact(ans gL hD ax bc a2 a3 G).mono (F.trans k)
    |more op nd ds=>
     rw[hm] at b;rw[dh (sR hm)];have P:=E _ _ _ hm;rcases b with b|⟨_,rfl,rfl⟩
     ·rw[b.1];simp only[show¬((1:Int)=0) by decide,bF,e8,aK];obtain⟨d,H,I⟩:=Gd (q:=true) (x:=zl) o (.inl b) k (by omega) (by decide);rw[show([123,32,120,10,125]:aa)=zl from rfl,H];exact⟨d,rfl,I⟩
     ·have J:(e.tt ds).2.2.2.2.1=0:=rfl;rw[J];simp only[bA,gW,aR];unfold Gh;rw[o7,aP rfl];simp only[aK];obtain⟨d,f,g⟩:=Gg (pd:=ds) (x:=zl) o (by omega) (by decide);rw[show([123,32,120,10,125]:aa)=zl from rfl,f];exact⟨d,rfl,(g.mono k).s⟩
    |bad w=>rw[hm] at b;rw[g5 (uY hm),b.1];simp only[show¬((2:Int)=0) by decide,bF,e8,aK];rw[rV b];exact⟨_,rfl,b.mono k⟩
    |deep w=>rw[hm] at b;rw[jV (uZ hm),b.1];simp only[show¬((2:Int)=0) by decide,bF,e8,aK];rw[rV b];exact⟨_,rfl,b.mono k⟩
   ·have m:av r≠ .op [41]:=λj=>l ((mQ (by simp)).1 j);simp only[l,bF,e8,aK];rw[aS m];obtain⟨d,f,g⟩:=pW (tr:=tr) (e.st r pd tr).2.1 i s;rw[f,aP rfl];exact⟨_,rfl,by cases f;exact g⟩
 ·rw[dh (op:=[]) (by rw[iE p];rfl),o7,aP rfl];simp only[aK];obtain⟨d,f,g⟩:=De (x:=Gi) h.A5 (by decide);rw[show([41,32,123,32,120,10,125]:aa)=Gi from rfl,f];exact⟨d,rfl,(g.mono oK).s⟩
omit gL hD in
theorem anv(a:n<2)(r:aa)(pd:aq):mf true (jz true n) r pd= .deep r:=by
 match n,a with
 |0,_=>rfl
 |1,_=>rfl
end
section
variable{R:bk}{n:Nat}(gL:∀k m,n=m+1+k->kC R m/\oG R m)(ax:n<=30){e:cg}(bc:e.ne=30- (n:Int))
include gL ax bc
theorem anw{u:aa}{pd:aq}{tr:Bool}(h:cC e (40::u) pd):bM true e (40::u) (mf true (jz true n) (40::u) pd) (λst=>st) (λ_ _ _=>True) (E4 R (e.st (40::u) pd tr)):=by
 rw[ano];by_cases i:n<2
 ·have b:decide (28<(e.st (40::u) pd tr).2.2.1)=true:=by show decide (28<e.ne)=true;grind
  rw[b,anv ax bc i];simp only[aK];obtain⟨y,c,j⟩:=pW (tr:=tr) (e.st (40::u) pd tr).2.1 h fQ;rw[c,aP rfl];exact⟨_,rfl,by cases c;exact j⟩
 ·have b:decide (28<(e.st (40::u) pd tr).2.2.1)=false:=by show decide (28<e.ne)=false;grind
  rw[b];simp only[aR]
  obtain⟨m,rfl⟩:∃m,n=m+2:=⟨n-2,by omega⟩
  have l:W ((e.st (40::u) pd tr).2.2.1+1)=e.ne+1:=dW (by show-_<=e.ne+1;omega) (by grind);rw[l];have d:u<:+40::u:=ee _ u;have o:u≠[]:=h.za (by decide);have f:=(h.mono d).xA;obtain⟨a,p,g⟩:=xI f (st:=e.up.st u pd tr) ⟨tr,rfl,λr=>absurd r o⟩;have s:g9 ((e.st (40::u) pd tr).1,W ((e.st (40::u) pd tr).2.1+1),e.ne+1,(e.st (40::u) pd tr).2.2.2.1,(e.st (40::u) pd tr).2.2.2.2.1,(e.st (40::u) pd tr).2.2.2.2.2.1,(e.st (40::u) pd tr).2.2.2.2.2.2.1,(e.st (40::u) pd tr).2.2.2.2.2.2.2.1,(e.st (40::u) pd tr).2.2.2.2.2.2.2.2)=some a:=by rw[<-p];exact mj g9 (sS (w:=[40]) (q:=u) h.xA 1 rfl)
  rw[s,aP rfl];have t:(a.1,a.2.1,a.2.2.1,(e.st (40::u) pd tr).2.2.2.1,a.2.2.2.2.1,a.2.2.2.2.2.1,a.2.2.2.2.2.2.1,(e.st (40::u) pd tr).2.2.2.2.2.2.2.1,a.2.2.2.2.2.2.2.2)=a:=by rcases g with⟨z,A, -,rfl, -⟩|⟨-,rfl⟩<;>rfl
  rw[t,anq];have v:mf true (jz true (m+2)) (40::u) pd=((TU (a1 true (m+1))).named [102,40,41]) u pd:=rfl;rw[v]
  have x:∀k,m+1=k+1->kC R k/\oG R k:=λk hk=>gL 1 k (by omega)
  have:=anu x (gL 0 (m+1) (by omega)).1 (by omega) (e:=e.up) (by show e.ne+1=_;omega) f g;exact(anr bc ax this d (by simp) h.sfx h.b0).named
end
def wk{X:Type}(D:ak Unit)(A:ak X)(B:aa->Bool->ak X)(E:ak X):ak X:=ae (dF D) λb=>if b then A else ae (bQ []) λt=>match t with
 | .word w p=>ae (cQ D) λ_=>B w p
 | .op o=>if o=[40] then bK else E
 |_=>E
noncomputable def Gj(R:bk)(k:(Int×Int×Bool×ah)->Option ah)(a b:Int)(f:Bool):ah->Option ah:=λx=>
 (aw (gw x) λ(e:Bool)=>(cT (e=false) (ik x) (0:UInt8) λ(h:UInt8)=>(bif(bif e then true else(decide ((h.toNat:Int)=(10:Int)))) then some x else(aw (hF x) λ(d:aa)=>(bif(decide (d=([40]:aa))) then(bif(bif(bif(decide (a=1)) then(decide (b=0)) else false) then f else false) then(aw (E4 R x) λ(i:ah)=>some i) else(aw (hq x x.2.1) λ(c:ah)=>some (c.1,c.2.1,c.2.2.1,x.2.2.2.1,c.2.2.2.2.1,c.2.2.2.2.2.1,c.2.2.2.2.2.2.1,x.2.2.2.2.2.2.2.1,c.2.2.2.2.2.2.2.2))) else(aw (vP d) λ(g:Bool)=>(cT (g=false) (Aw x) false λ(j:Bool)=>(bif(bif g then true else j) then(aw (Cu R x) λ(l:ah)=>k (a,(W (b+1)),f,l)) else(bif(!(decide (d=[]))) then some x else(aw (qm R x) λ(z:aa×Bool×ah)=>(cT (z.2.1=true) (AD z.1) false λ(m:Bool)=>k ((W (a+1)),b,(bif z.2.1 then m else false),z.2.2))))))))))))
theorem aaG(R:bk)(j:ah->Option ah)(k:(Int×Int×Bool×ah)->Option ah)(a b:Int)(f:Bool)(x:ah):IC R j k (a,b,f,x)=(bif(decide (x.2.2.2.2.1=0)) then
 (aw (g9 x) λ(c:ah)=>Gj R k a b f (c.1,c.2.1,c.2.2.1,x.2.2.2.1,c.2.2.2.2.1,c.2.2.2.2.2.1,c.2.2.2.2.2.2.1,x.2.2.2.2.2.2.2.1,c.2.2.2.2.2.2.2.2)) else j x):=rfl
section
variable{R:bk}{n:Nat}(hD:kC R n){e:cg}(bc:e.ne=30- (n:Int))
include hD bc
theorem TX{X:Type}{C:dw X->dw Unit}(y:c4 C){A:ak X}{B:aa->Bool->ak X}{E:ak X}(uL:∀r pd,C (E r pd)= .ok () r pd)
  {k:(Int×Int×Bool×ah)->Option ah} {a b:Int} {f:Bool} {r:aa} {pd:aq} {x:ah} (h:cC e r pd) (hx:Di e r pd x)
  (z:∀a b f (x:ah),x.2.2.2.2.1≠0->k (a,b,f,x)=some x)
  (hA:∀r' D J,r'<:+r->cC e r' D->r'.length<r.length->fZ e r' D J->bM true e r (C (A r' D)) (λst=>st) (λ_ _ _=>True) (k (a,W (b+1),f,J)))
  (eb:∀j w p r' D J,bx r=some j->av j= .word w p->r'<:+r->cC e r' D->r'.length<r.length->fZ e r' D J->bM true e r (C (B w p r' D)) (λst=>st) (λ_ _ _=>True) (k (W (a+1),b,p&&me w,J)))
  (bf:∀j,bx r=some j->bs j=[40]->(bif(bif(decide (a=1)) then(decide (b=0)) else false) then f else false)=false):
  bM true e r (C (wk (ba true n) A B E r pd)) (λst=>st) (λ_ _ _=>True) (Gj R k a b f x):=by
 unfold wk Gj;rcases hx with⟨j,tr,K,rfl,U,d,l,L⟩|⟨K,rfl⟩
 ·rw[qA,aP rfl,F6 d];by_cases V:j=[]
  ·subst V;simp only[bA,aK,cT,tU,cl];rw[aZ (uV K (by decide))];simp only[ew,cl];rw[aZ (cB L)];show bM true e r (C (E [] pd)) _ _ _;rw[uL];exact⟨_,rfl,l,d,⟨tr,rfl,U⟩,trivial⟩
  ·rw[e9 V,fY];simp only[cD,aR];have pT:av j≠ .eof:=λY=>V (l2.1 Y);cases j with
   |nil=>grind
   |cons c t=>
    simp only[zB,pR];have Q:=M3 (c::t);have S:e2 (bs ((c::t).dropWhile cd))=false->ae (dF (ba true n)) (λb=>if b then A else ae (bQ []) λt=>match t with
      | .word w p=>ae (cQ (ba true n)) λ_=>B w p
      | .op o=>if o=[40] then bK else E
      |_=>E) r pd=(match av (c::t) with
      | .word w p=>ae (cQ (ba true n)) λ_=>B w p
      | .op o=>if o=[40] then bK else E
      |_=>E) (c::t) pd:=by
     intro Y;rw[aZ (uV K Y)];simp only[ew,cl];rw[aZ (cB L)]
    have ej:hF (e.st (c::t) pd tr)=some (bs (c::t)):=rU d;rcases Jt (b:=c) (t:=t) with⟨M,N⟩|⟨M,N,O⟩|⟨M,N,O⟩
    ·subst M;have aE:e2 (bs ((10::t).dropWhile cd))=false:=by rfl
     rw[S aE,N];simp only[bA,aK];rw[uL];exact⟨_,rfl,l,d,⟨tr,rfl,U⟩,trivial⟩
    ·simp only[M,bF,aR];rw[ej,aP rfl];by_cases H:bs (c::t)=[40]
     ·have aE:e2 (bs ((c::t).dropWhile cd))=false:=by
       have aF:c=40:=by
        have gM:av (c::t)= .op [40]:=by grind
        obtain⟨v,ay⟩:=(iq gM).2.1;grind
       subst aF;rfl
      rw[S aE,O,H,bf (c::t) K H];simp only[bA,aK,aR,cD];show bM true e r (C (.bad (c::t))) _ _ _;rw[y.bad];obtain⟨aQ,a4,bn⟩:=pW (tr:=tr) (e.st (c::t) pd tr).2.1 d l;rw[a4,aP rfl];exact⟨_,rfl,by cases a4;exact bn⟩
     ·simp only[H,bF,aR];rw[FV,aP rfl,Td d,fY];cases m:e2 (bs ((c::t).dropWhile cd)) with
      |true=>
       rw[m] at Q;have F:(bif e2 (bs (c::t)) then true else if e2 (bs (c::t))=false then(decide ((c::t).dropWhile cd≠c::t)&&true) else false)=true:=by grind
       rw[F];simp only[aK];have MU:dF (ba true n) r pd=dF (ba true n) (c::t) pd:=by simp_all[dF,ae,fJ]
       have Z:ae (dF (ba true n)) (λb=>if b then A else ae (bQ []) λt=>match t with
         | .word w p=>ae (cQ (ba true n)) λ_=>B w p
         | .op o=>if o=[40] then bK else E
         |_=>E) r pd=ae (dF (ba true n)) (λb=>if b then A else ae (bQ []) λt=>match t with
         | .word w p=>ae (cQ (ba true n)) λ_=>B w p
         | .op o=>if o=[40] then bK else E
         |_=>E) (c::t) pd:=by
        grind[ae]
       rw[Z];refine bM.iF y ((Tp hD bc (tr:=tr) d L m).mono l) (λvi r1 aH s Jl s1 v1 gT re=>?_) (λop nd ds s _ P=>?_) (λs g=>?_)
       ·subst re;rw[bo rfl];grind[sD,mi]
       ·exact⟨s,z _ _ _ _ (by rw[P.z.1];decide),P.up⟩
       ·exact⟨s,z _ _ _ _ (by rw[g.1];decide),g⟩
      |false=>
       rw[m] at Q;have F:(bif e2 (bs (c::t)) then true else if e2 (bs (c::t))=false then(decide ((c::t).dropWhile cd≠c::t)&&false) else false)=false:=by grind
       rw[F,S m,O];simp only[N,H,aR,bF,e8,aK,cl];rw[uL];exact⟨_,rfl,l,d,⟨tr,rfl,U⟩,trivial⟩
    ·simp only[M,bF,aR];rw[ej,aP rfl];have H:¬bs (c::t)=[40]:=by grind
     simp only[H,bF,aR];rw[FV,aP rfl,Td d,fY];cases m:e2 (bs ((c::t).dropWhile cd)) with
     |true=>
      rw[m] at Q;have F:(bif e2 (bs (c::t)) then true else if e2 (bs (c::t))=false then(decide ((c::t).dropWhile cd≠c::t)&&true) else false)=true:=by grind
      rw[F];simp only[aK];have MU:dF (ba true n) r pd=dF (ba true n) (c::t) pd:=by simp_all[dF,ae,fJ]
      have Z:ae (dF (ba true n)) (λb=>if b then A else ae (bQ []) λt=>match t with
        | .word w p=>ae (cQ (ba true n)) λ_=>B w p
        | .op o=>if o=[40] then bK else E
        |_=>E) r pd=ae (dF (ba true n)) (λb=>if b then A else ae (bQ []) λt=>match t with
        | .word w p=>ae (cQ (ba true n)) λ_=>B w p
        | .op o=>if o=[40] then bK else E
        |_=>E) (c::t) pd:=by
       grind[ae]
      rw[Z];refine bM.iF y ((Tp hD bc (tr:=tr) d L m).mono l) (λvi r1 aH s Jl s1 v1 gT re=>?_) (λop nd ds s _ P=>?_) (λs g=>?_)
      ·subst re;rw[bo rfl];grind[sD,mi]
      ·exact⟨s,z _ _ _ _ (by rw[P.z.1];decide),P.up⟩
      ·exact⟨s,z _ _ _ _ (by rw[g.1];decide),g⟩
     |false=>
      rw[m] at Q;have F:(bif e2 (bs (c::t)) then true else if e2 (bs (c::t))=false then(decide ((c::t).dropWhile cd≠c::t)&&false) else false)=false:=by grind
      rw[F,S m,O];simp only[N,aR,bA,gW];have gO:c3 (c::t)=false:=(y8 L O).2;obtain⟨⟨g,fy,G⟩,hb,u⟩:=F3 hD bc (tr0:=tr) d;have T:G.1=e.S->g.length<=1000000:=λag=>lQ (Tn d ag hb).1 h.b0;rw[hb,aP rfl];dsimp only at u⊢;cases hm:cQ (ba true n) (c::t) pd with
      |ok anx r1 aH=>rw[hm] at u;obtain⟨cV,a2,a3, -,bP,e3⟩:=u;rw[aZ hm];have I:=(y7 g (T a3.eta.1)).2;grind[vU,mi,fY]
      |more op nd ds=>rw[hm] at u;have i:iG false e (c::t) nd ds G:=u;have I:=(y7 g (T i.z.2.2.2.1.s)).2;rw[dh hm,y.more,I,fY,z _ _ _ _ (by rw[i.z.1];decide)];exact⟨G,rfl,(i.mono l).up⟩
      |bad q=>rw[hm] at u;have i:iS e (c::t) G:=u;have I:=(y7 g (T i.2.s)).2;rw[g5 hm,y.bad,I,fY,z _ _ _ _ (by rw[i.1];decide)];exact⟨G,rfl,i.mono l⟩
      |deep q=>rw[hm] at u;have i:iS e (c::t) G:=u;have I:=(y7 g (T i.2.s)).2;rw[jV hm,y.deep,I,fY,z _ _ _ _ (by rw[i.1];decide)];exact⟨G,rfl,i.mono l⟩
 ·have Fp:dF (ba true n) r pd= .more [] [] pd:=by
   unfold dF;have:fJ r pd= .more [] [] pd:=by unfold fJ;rw[K];rfl
   grind[dh]
  rw[dh Fp,y.more,o7,aP rfl];simp only[cT,tU,cl,aK];exact⟨_,rfl,.inr ⟨rfl,rfl,rfl⟩⟩
end
def zn(D:ak Unit):Unit->ak (Unit⊕Unit):=λ_=>wk D (aW (.inl ())) (λ_ _=>aW (.inl ())) (aW (.inr ()))
theorem JF(D:ak Unit):hH true D=cb (zn D) ():=by unfold hH zn wk;grind
structure Gk(a b:Int)(f:Bool)(r:aa):Prop where
 g:1<=b\/2<=a\/(a=1/\f=false)
 a0:0<=a
 aaH:0<=b
 anz:a+r.length<=1000001
 anA:b+r.length<=1000001
theorem Gk.no{a b:Int}{f:Bool}{r:aa}(h:Gk a b f r):(bif(bif(decide (a=1)) then(decide (b=0)) else false) then f else false)=false:=by obtain⟨g,a0,aaH,_,_⟩:=h;grind
theorem Gl{a:Int}(h0:0<=a)(h:a<=1000001):W (a+1)=a+1:=dW (by omega) (by omega)
noncomputable abbrev u2(R:bk):((Int×Int×Bool×ah)->Option ah)->(Int×Int×Bool×ah)->Option ah:=IC R (λx=>some x)
section
variable{R:bk}{n:Nat}(hD:kC R n){e:cg}(bc:e.ne=30- (n:Int))
theorem Gm{r:aa}{pd:aq}{x y:ah}(a:Di e r pd y)(b:fZ e r pd x):(y.1,y.2.1,y.2.2.1,x.2.2.2.1,y.2.2.2.2.1,y.2.2.2.2.2.1,y.2.2.2.2.2.2.1,x.2.2.2.2.2.2.2.1,y.2.2.2.2.2.2.2.2)=y:=by obtain⟨tr,rfl,_⟩:=b;rcases a with⟨c,d, -,rfl, -⟩|⟨-,rfl⟩<;>rfl
theorem TY{k:(Int×Int×Bool×ah)->Option ah}{a b:Int}{f:Bool}{r:aa}{pd:aq}{x:ah}(h:cC e r pd)(c:fZ e r pd x):∃y,Di e r pd y/\u2 R k (a,b,f,x)=Gj R k a b f y:=by obtain⟨y,ad,d⟩:=xI h c;refine⟨y,d,?_⟩;show IC R (λx=>some x) k (a,b,f,x)=_;rw[aaG,c.eta.2.2.2.2.1];simp only[bA,aK];rw[ad,aP rfl,Gm d c]
theorem aaI{k:(Int×Int×Bool×ah)->Option ah}{a b:Int}{f:Bool}{x:ah}(h:x.2.2.2.2.1≠0):u2 R k (a,b,f,x)=some x:=by simp_all[aaG]
include hD bc
theorem aaJ{N:Nat}{a b:Int}{f:Bool}{r:aa}{pd:aq}{x:ah}(u:r.length+1<N)(h:cC e r pd)(c:fZ e r pd x)(bf:Gk a b f r):bM true e r (hH true (ba true n) r pd) (λst=>st) (λ_ _ _=>True) (fixF (u2 R) N (a,b,f,x)):=by
 rw[JF];refine bM.rep (en:=λ_ r pd (y:Int×Int×Bool×ah)=>fZ e r pd y.2.2.2/\Gk y.1 y.2.1 y.2.2.1 r) (λk s r pd y t l v hk=>?_) N () r pd _ u h ⟨c,bf⟩;obtain⟨a,b,f,x⟩:=y;obtain⟨c,bf⟩:=l;dsimp only at c bf
 have z:∀a b f (x:ah),x.2.2.2.2.1≠0->k (a,b,f,x)=some x:=by intro a b f x c;obtain⟨k',ad⟩:=v (a,b,f,x);grind[aaI]
 obtain⟨y,l,he⟩:=TY (R:=R) (k:=k) (a:=a) (b:=b) (f:=f) t c;rw[he];have E:=bf.anA;have A:=bf.anz;have d:=bf.a0;have i:=bf.aaH;refine TX hD bc (C:=cO (zn (ba true n)) r) c4.k (λ_ _=>rfl) t l z (λr' m B s1 o j q=>?_) (λD w p r' m B F G s1 o j q=>?_) (λD _ _=>bf.no)
 ·refine bM.inl j (hk () r' m _ s1 o j ⟨q,?_⟩);dsimp only;rw[Gl i (by omega)];exact⟨.inl (by omega),d,by omega,by omega,by omega⟩
 ·refine bM.inl j (hk () r' m _ s1 o j ⟨q,?_⟩);dsimp only;rw[Gl d (by omega)];refine⟨?_,by omega,i,by omega,by omega⟩;rcases bf.g with g|g|g
  ·omega
  ·omega
  omega
end
def Ds(lo:Option dU)(D:ak Unit):ak Unit:=ae (bQ []) λt=>if t= .op [40] then ae (mf true lo) λ_=>aW () else hH true D
theorem JG{D:ak Unit}{r:aa}{pd:aq}(d:bx r=some r)(e:e2 (bs (r.dropWhile cd))=true){b:Bool}{r1:aa}{a:aq}(h:dF D r pd= .ok b r1 a):b=true:=by
 have c:fJ r pd= .ok (some (bs (r.dropWhile cd))) ((r.dropWhile cd).drop (bs (r.dropWhile cd)).length) pd:=by simp_all[fJ]
 unfold dF at h;rw[aZ c] at h;obtain⟨_,f,g,_,h⟩:=b3 h;cases h;rfl
theorem anB{D:ak Unit}{r d:aa}{pd:aq}(n:bx r=some d)(f:bx d=some d)(hl:d.length<=r.length)(hD:hU D):hH true D r pd=hH true D d pd:=by
 have s:dF D r pd=dF D d pd:=by simp_all[dF,ae,fJ]
 have h:zn D () r pd=zn D () d pd:=by simp_all[zn,wk,ae]
 rw[JF,cH,cH,h];unfold cO;cases hm:zn D () d pd with
 |ok x r' t=>
  cases x with
  |inr a=>rfl
  |inl u=>
   have v:r'.length<d.length:=by
    have bf:=hm;unfold zn wk at bf;obtain⟨b,i,j,k,c⟩:=b3 bf;cases b with
    |true=>simp only[cD] at c;cases c;exact sD hD k
    |false=>
     simp only[ew,cl] at c;have g:i=d/\j=pd:=by
      cases y:e2 (bs (d.dropWhile cd)) with
      |true=>grind[JG]
      |false=>simp_all[uV]
     rw[g.1,g.2,aZ (cB f)] at c;cases e:av d with
     |eof=>rw[e] at c;cases c
     |line=>rw[e] at c;cases c
     |op o=>rw[e] at c;simp only at c;split at c<;>cases c
     |word w p=>rw[e] at c;simp only at c;obtain⟨_,z,A,l,m⟩:=b3 c;cases m;exact vU hD (y8 f e).1 (y8 f e).2 l
   grind
 |more op nd ds=>rfl
 |bad q=>rfl
 |deep q=>rfl
section
variable{R:bk}{n:Nat}(gL:∀k m,n=m+1+k->kC R m/\oG R m)(hD:kC R n)(ax:n<=30){e:cg}(bc:e.ne=30- (n:Int))
theorem aaM{M:Nat}(c:0<M):∀a b f (x:ah),x.2.2.2.2.1≠0->fixF (u2 R) M (a,b,f,x)=some x:=by
 intro a b f x d
 obtain⟨m,rfl⟩:∃m,M=m+1:=⟨M-1,by omega⟩
 grind[e5,aaI]
include gL hD ax bc
theorem anC{N:Nat}{r:aa}{pd:aq}{x:ah}(U:r.length+1<N)(h:cC e r pd)(F:fZ e r pd x):bM true e r (Ds (jz true n) (ba true n) r pd) (λst=>st) (λ_ _ _=>True) (fixF (u2 R) N (1,0,true,x)):=by
 obtain⟨M,rfl⟩:∃m,N=m+1:=⟨N-1,by omega⟩
 rw[e5];have D:=aaM (R:=R) (M:=M) (by omega)
 have l:∀{a b:Int}{f:Bool}{r':aa}{c:aq}{i:ah},r'.length<r.length->cC e r' c->fZ e r' c i->Gk a b f r'->bM true e r' (hH true (ba true n) r' c) (λst=>st) (λ_ _ _=>True) (fixF (u2 R) M (a,b,f,i)):=λad G H I=>aaJ hD bc (by omega) G H I
 generalize fixF (u2 R) M=k at D l;obtain⟨y,J,he⟩:=TY (R:=R) (k:=k) (a:=1) (b:=0) (f:=true) h F;rw[he];have V:=h.b0;have hle:=h.sfx.length_le;rcases J with⟨d,tr,o,rfl,K,g,q,E⟩|⟨o,rfl⟩
 ·unfold Ds;rw[aZ (cB o)];by_cases s:bs d=[40]
  ·have j:av d= .op [40]:=(mQ (by simp)).2 s;rw[bo j];obtain⟨u,rfl⟩:=(iq j).2.1;have L:=anw gL ax bc (tr:=tr) (u:=u) g;unfold Gj;rw[qA,aP rfl,F6 g,e9 (by simp),fY];have O:(decide ((((40:UInt8)).toNat:Int)=(10:Int)))=false:=by decide
   have t:(([40]++u:aa)).headD 0=40:=rfl;simp only[cD,aR,t,O];rw[rU g,aP rfl,s];simp only[bA,aK];have v:ae (mf true (jz true n)) (λ_=>aW ()) ([40]++u) pd=mf true (jz true n) ([40]++u) pd:=FI _ _ _;rw[v];exact bM.dX (L.mono q) (Dp _)
  ·have j:av d≠ .op [40]:=λP=>s ((mQ (by simp)).1 P);rw[aS j,JF,cH];have W:=q.length_le;refine bM.mono ?_ q;refine TX hD bc (C:=cO (zn (ba true n)) d) c4.k (λ_ _=>rfl) g (.inl ⟨d,tr,E,rfl,K,g,fQ,E⟩) D (λr' c i s1 z A B=>?_) (λQ w p r' c i S T s1 z A B=>?_) (λQ S T=>?_)
   ·refine bM.inl A ?_;rw[<-JF];refine(l (by omega) z B ?_).mono s1;rw[Gl (by omega) (by omega)];exact⟨.inl (by omega),by omega,by omega,by omega,by omega⟩
   ·refine bM.inl A ?_;rw[<-JF];refine(l (by omega) z B ?_).mono s1;rw[Gl (by omega) (by omega)];exact⟨.inr (.inl (by omega)),by omega,by omega,by omega,by omega⟩
   grind
 ·unfold Ds;rw[dh (op:=[]) (nd:=[]) (ds:=pd) (by rw[iE o];rfl)];unfold Gj;rw[o7,aP rfl];simp only[cT,tU,cl,aK];exact⟨_,rfl,.inr ⟨rfl,rfl,rfl⟩⟩
end
noncomputable def Nx(R:bk):ah->Option ah:=λx=>
 (aw (gw x) λ(e:Bool)=>(bif e then(aw (g_ x ([120]:aa)) λ(f:ah)=>some f) else(aw (hF x) λ(b:aa)=>(aw (lL x) λ(y23:aa)=>(cT ((decide (b=([40]:aa)))=false) (yJ y23) false λ(g:Bool)=>(bif(bif(decide (b=([40]:aa))) then true else g) then(aw (yT R x) λ(h:ah)=>some h) else(aw (ik x) λ(c:UInt8)=>(cT ((!(decide (b=[])))=true/\(decide ((c.toNat:Int)=(10:Int)))=false) (vP b) false λ(d:Bool)=>(cT ((bif(decide ((c.toNat:Int)=(10:Int))) then true else(bif(!(decide (b=[]))) then(!d) else false))=false) (EO y23) false λ(i:Bool)=>(bif(bif(bif(decide ((c.toNat:Int)=(10:Int))) then true else(bif(!(decide (b=[]))) then(!d) else false)) then true else i) then(aw (hq x x.2.1) λ(a:ah)=>some (a.1,a.2.1,a.2.2.1,x.2.2.2.1,a.2.2.2.2.1,a.2.2.2.2.2.1,a.2.2.2.2.2.2.1,x.2.2.2.2.2.2.2.1,a.2.2.2.2.2.2.2.2)) else(aw (fixF (u2 R) bC (0,0,false,x)) λ(j:ah)=>some j)))))))))))
theorem aaN(R:bk)(x0:ah):sw R x0=aw (g9 x0) λa=>Nx R (a.1,a.2.1,a.2.2.1,x0.2.2.2.1,a.2.2.2.2.1,a.2.2.2.2.2.1,a.2.2.2.2.2.2.1,x0.2.2.2.2.2.2.2.1,a.2.2.2.2.2.2.2.2):=rfl
theorem TZ{R:bk}{e:cg}{r:aa}{b pd:aq}(h:cC e r b)(c:et pd<=100*e.S.length+800):∃a,sw R (e.tt pd)=some a/\n8 e r (cP [] pd [120]).1 (cP [] pd [120]).2 a:=by rw[aaN,C9,aP rfl];obtain⟨a,f,g⟩:=Gg (pd:=pd) (x:=[120]) h c (by simp);have d:((e.tt pd).1,(e.tt pd).2.1,(e.tt pd).2.2.1,(e.tt pd).2.2.2.1,(e.tt pd).2.2.2.2.1,(e.tt pd).2.2.2.2.2.1,(e.tt pd).2.2.2.2.2.2.1,(e.tt pd).2.2.2.2.2.2.2.1,(e.tt pd).2.2.2.2.2.2.2.2)=e.tt pd:=rfl;rw[d];simp_all[Nx,o7,aP]
section
variable{R:bk}{n:Nat}(gL:∀k m,n=m+1+k->kC R m/\oG R m)(hD:kC R n)(ax:n<=30){e:cg}(bc:e.ne=30- (n:Int))
include gL hD ax bc
theorem anF{r:aa}{pd:aq}{tr:Bool}(h:cC e r pd)(v:fZ e r pd (e.st r pd tr))(G:bx r=some r)(H:bs r≠[40]):bM true e r (wk (ba true n) (hH true (ba true n)) (λw p=>if p&&me w then Ds (jz true n) (ba true n) else hH true (ba true n)) (aW ()) r pd) (λst=>st) (λ_ _ _=>True) (fixF (u2 R) bC (0,0,false,e.st r pd tr)):=by
 have z:r.length+1<bC:=we h
 obtain⟨M,o⟩:∃m,bC=m+1:=⟨bC-1,by omega⟩
 rw[o,e5];rw[o] at z;clear o;have u:=aaM (R:=R) (M:=M) (by omega)
 have q:∀{a b:Int}{f:Bool}{r':aa}{c:aq}{d:ah},r'.length<r.length->cC e r' c->fZ e r' c d->Gk a b f r'->bM true e r' (hH true (ba true n) r' c) (λst=>st) (λ_ _ _=>True) (fixF (u2 R) M (a,b,f,d)):=λad s t A=>aaJ hD bc (by omega) s t A
 have g:∀{r':aa}{c:aq}{d:ah},r'.length<r.length->cC e r' c->fZ e r' c d->bM true e r' (Ds (jz true n) (ba true n) r' c) (λst=>st) (λ_ _ _=>True) (fixF (u2 R) M (1,0,true,d)):=λad s t=>anC gL hD ax bc (by omega) s t
 generalize fixF (u2 R) M=k at u q g;obtain⟨y,B,he⟩:=TY (R:=R) (k:=k) (a:=0) (b:=0) (f:=false) h v;rw[he];have I:=h.b0;have hle:=h.sfx.length_le;refine TX hD bc (C:=λx=>x) c4.id (λ_ _=>rfl) h B u (λr' c d s1 i j l=>?_) (λD w p r' c d E F s1 i j l=>?_) (λD E F=>?_)
 ·refine(q j i l ?_).mono s1;rw[Gl (by omega) (by omega)];exact⟨.inl (by omega),by omega,by omega,by omega,by omega⟩
 ·rw[Gl (by omega) (by omega)];cases aB:(p&&me w) with
  |true=>rw[bo rfl];exact(g j i l).mono s1
  |false=>rw[aS (by simp)];exact(q j i l ⟨.inr (.inr ⟨rfl,rfl⟩),by omega,by omega,by omega,by omega⟩).mono s1
 ·rfl
theorem aaP{r:aa}{pd:aq}{st:ah}(h:cC e r pd)(I:fZ e r pd st):bM true e r (gm true (jz true n) (ba true n) r pd) (λst=>st) (λ_ _ _=>True) (sw R st):=by
 rw[aaN];obtain⟨y,O,J⟩:=xI h I;rw[O,aP rfl,Gm J I];rcases J with⟨a,tr,v,rfl,K,d,i,o⟩|⟨v,rfl⟩
 ·unfold gm;rw[aZ (cB v)];unfold Nx;rw[qA,aP rfl];by_cases z:a=[]
  ·subst z;simp only[bA,aK];obtain⟨s,g,j⟩:=uX (tr:=tr) (x:=[120]) d (by decide);rw[g];exact⟨s,rfl,(j.mono i).s⟩
  ·simp only[z,bF,aR];have P:av a≠ .eof:=λA=>z (l2.1 A);rw[aS P,rU d,aP rfl,wg d,aP rfl,ZE,fY];have L:=h.nl.ia d.sfx;have Z:=ZN L;have B:(bif decide (bs a=[40]) then true else if decide (bs a=[40])=false then q4 (ja a) else false)=hG (av a):=by grind
   rw[B];cases aF:hG (av a) with
   |true=>
    simp only[aK,cD]
    have Q:∀m,n=m+1->kC R m/\oG R m:=λm hm=>gL 0 m (by omega)
    have C:=aaB Q hD ax bc d ⟨tr,rfl,K⟩ o aF;have S:sA (jz true n) (av a)=(a1 true n).cp (av a):=by rw[Zh]
    rw[S];exact bM.dX (C.mono i) (Dp _)
   |false=>
    simp only[aR,ew,cl];rw[F6 d,aP rfl];have D:av a≠ .op [40]:=by grind[hG]
    have T:bs a≠[40]:=λA=>D ((mQ (by simp)).2 A);have U:=anF gL hD ax bc d ⟨tr,rfl,K⟩ o T;have y6:=alT L;have E:∀X:dw Unit,X= .bad a->bM true e r X (λst=>st) (λ_ _ _=>True) (aw (hq (e.st a pd tr) (e.st a pd tr).2.1) λ(f:ah)=>
      some (f.1,f.2.1,f.2.2.1,(e.st a pd tr).2.2.2.1,f.2.2.2.2.1,f.2.2.2.2.2.1,f.2.2.2.2.2.2.1,(e.st a pd tr).2.2.2.2.2.2.2.1,f.2.2.2.2.2.2.2.2)):=by
     rintro X rfl;obtain⟨s,g,j⟩:=pW (tr:=tr) (e.st a pd tr).2.1 d i;rw[g,aP rfl];exact⟨_,rfl,by cases g;exact j⟩
    cases a with
    |nil=>grind
    |cons c t=>
     simp only[zB,pR];rcases Jt (b:=c) (t:=t) with⟨k,l⟩|⟨k,l,u⟩|⟨k,l,u⟩
     ·subst k;rw[l];simp only[bA,cT,tU,and_false,cl,aK];exact E _ rfl
     ·rw[u];have F:rK (ja (c::t))=false:=by grind
      rw[FV,fY,ZF,fY,F];have V:decide (bs (c::t)=[])=false:=e9 l;simp only[k,V,bF,e8,nI,cD,aK,aR];have G:(if(!e2 (bs (c::t)))=false then false else false)=false:=by simp
      rw[G];cases W:e2 (bs (c::t)) with
      |false=>simp only[e8,aK,ew,cl];exact E _ rfl
      |true=>
       simp only[gW,aR,cD];refine bM.dX (bM.mono ?_ i) (Dp _);have H:e2 (bs ((c::t).dropWhile cd))=true:=by grind[M3]
       have Y:ae (dF (ba true n)) (λ_=>hH true (ba true n)) (c::t) pd=wk (ba true n) (hH true (ba true n)) (λw p=>if p&&me w then Ds (jz true n) (ba true n) else hH true (ba true n)) (aW ()) (c::t) pd:=by
        unfold wk;cases hm:dF (ba true n) (c::t) pd with
        |ok b r1 M=>have:=JG o H hm;subst this;rw[aZ hm,aZ hm,bo rfl]
        |more op nd ds=>grind[dh]
        |bad q=>grind[g5]
        |deep q=>grind[jV]
       grind
     ·rw[u];have F:rK (ja (c::t))=((c8 (c::t)).2&&rK (c8 (c::t)).1):=by grind
      rw[FV,fY,ZF,fY,F];simp only[k,l,bA,bF,gW,aR,ew,false_and,cD];cases MU:((c8 (c::t)).2&&rK (c8 (c::t)).1) with
      |true=>simp only[aK,cD];exact E _ rfl
      |false=>
       simp only[aR,ew,cl];refine bM.dX (bM.mono ?_ i) (Dp _);have Y:ae (dF (ba true n)) (λb=>if b then hH true (ba true n) else ae (cQ (ba true n)) λ_=>
         if(c8 (c::t)).2&&me (c8 (c::t)).1 then ae (bQ []) λt=>if t= .op [40] then ae (mf true (jz true n)) λ_=>aW () else hH true (ba true n) else hH true (ba true n)) (c::t) pd=wk (ba true n) (hH true (ba true n)) (λw p=>if p&&me w then Ds (jz true n) (ba true n) else hH true (ba true n)) (aW ()) (c::t) pd:=by
        unfold wk;cases hm:dF (ba true n) (c::t) pd with
        |ok b r1 M=>
         rw[aZ hm,aZ hm];cases b with
         |true=>rfl
         |false=>
          simp only[ew,cl,cD];have N:r1=c::t/\M=pd:=by
           cases W:e2 (bs ((c::t).dropWhile cd)) with
           |true=>grind[JG]
           |false=>simp_all[uV]
          rw[N.1,N.2,aZ (cB o),u];rfl
        |more op nd ds=>grind[dh]
        |bad q=>grind[g5]
        |deep q=>grind[jV]
       grind
 ·unfold gm;rw[dh (op:=[]) (by rw[iE v];rfl)];unfold Nx;rw[o7,aP rfl];simp only[aK];obtain⟨s,g,j⟩:=De (x:=[120]) h.A5 (by decide);rw[g];exact⟨s,rfl,(j.mono oK).s⟩
end
structure T0(e:cg)(df:ak Unit)(F:ah->Option ah):Prop where
 im:∀{r:aa}{pd:aq}{st:ah},cC e r pd->fZ e r pd st->bM true e r (df r pd) (λst=>st) (λ_ _ _=>True) (F st)
 tt:∀{r:aa}{gn pd:aq},cC e r gn->et pd<=100*e.S.length+800->∃aQ,F (e.tt pd)=some aQ/\n8 e r (cP [] pd [120]).1 (cP [] pd [120]).2 aQ
 sfx:∀{r:aa}{pd:aq}{a:Unit}{r':aa}{aG:aq},df r pd= .ok a r' aG->r'<:+r
 pb:aI 50 df
noncomputable def Ny(tst:aa->Bool)(w:Int)(F k:ah->Option ah):ah->Option ah:=λx=>
 (aw (hF x) λ(b:aa)=>(bif tst b then some x else(aw (ow (setAt x (W (x.2.1+w)))) λ(a:ah)=>(bif(!(decide (a.2.2.2.2.1=0))) then(aw (gx a ([]) ([120]:aa)) λ(c:ah)=>some c) else(aw (F a) λ(d:ah)=>k d)))))
noncomputable def xL(tst:aa->Bool)(w:Int)(F:ah->Option ah)(k:ah->Option ah):ah->Option ah:=λx=>
 (bif(decide (x.2.2.2.2.1=0)) then(aw (g9 x) λ(a:ah)=>Ny tst w F k (a.1,a.2.1,a.2.2.1,x.2.2.2.1,a.2.2.2.2.1,a.2.2.2.2.2.1,a.2.2.2.2.2.2.1,x.2.2.2.2.2.2.2.1,a.2.2.2.2.2.2.2.2)) else some x)
def qB(p:Tok->Bool)(w:Nat)(df:ak Unit):ak Unit:=cb (λ_=>ae (bQ []) λt=>if p t=true then ae (b2 w) λ_=>ae (cU.aM [120]) λ_=>ae df λ_=>aW (.inl ()) else aW (.inr ())) ()
section
variable{e:cg}{df:ak Unit}{F:ah->Option ah}(di:T0 e df F){p:Tok->Bool}{tst:aa->Bool}{w:Nat}
 (aB:∀t,p t=true->∃o,t= .op o/\o.length=w/\0<w/\tst o=false) (xu:∀r,tst (bs r)=false->p (av r)=true) (T1:tst []=true)
include di aB xu T1
theorem aaQ{r:aa}{pd:aq}{st:ah}(h:cC e r pd)(S:fZ e r pd st):bM true e r (qB p w df r pd) (λst=>st) (λ_ _ _=>True) (fixF (xL tst w F) bC st):=by
 unfold qB;refine bM.rep (en:=λ_ r pd x=>fZ e r pd x) (λk s r pd x m f E hk=>?_) bC () r pd _ (we h) h S
 have n:∀x:ah,x.2.2.2.2.1≠0->k x=some x:=by intro x f;obtain⟨k',ad⟩:=E x;simp_all[xL]
 have vk:∀ds,k (e.tt ds)=some (e.tt ds):=by intro ds;obtain⟨k',ad⟩:=E (e.tt ds);rw[ad];unfold xL;have t:(e.tt ds).2.2.2.2.1=0:=rfl;rw[t,C9,aP rfl];have T:((e.tt ds).1,(e.tt ds).2.1,(e.tt ds).2.2.1,(e.tt ds).2.2.2.1,(e.tt ds).2.2.2.2.1,(e.tt ds).2.2.2.2.2.1,(e.tt ds).2.2.2.2.2.2.1,(e.tt ds).2.2.2.2.2.2.2.1,(e.tt ds).2.2.2.2.2.2.2.2)=e.tt ds:=rfl;rw[T];unfold Ny;rw[F7 ds m.b0,aP rfl,T1];rfl
 unfold xL;rw[f.eta.2.2.2.2.1];simp only[bA,aK];obtain⟨y,U,G⟩:=xI m f;have H:=Gm G f;rw[f.eta.2.2.2.1] at H;rw[U,aP rfl,f.eta.2.2.2.1,H];unfold Ny;rcases G with⟨I,tr,z,rfl,V,g,J,ih⟩|⟨z,rfl⟩
 ·rw[aZ (cB z),rU g,aP rfl];cases X:tst (bs I) with
  |true=>
   have j:¬p (av I)=true:=by intro A;obtain⟨o,ad,K,_,Y⟩:=aB _ A;have:=(iq ad).1;grind
   rw[aS j];simp only[aK];exact⟨_,rfl,J,g,⟨tr,rfl,V⟩,trivial⟩
  |false=>
   have j:=xu _ X;rw[bo j];simp only[aR];obtain⟨o,ad,K,Y,_⟩:=aB _ j;obtain⟨aU,Z,bR,c1⟩:=iq ad;obtain⟨v,rfl⟩:=Z;have L:v<:+o++v:=gY o v;have sM:=g.tO c1 bR;have kP:setAt (e.st (o++v) pd tr) (W ((e.st (o++v) pd tr).2.1+(w:Int)))=e.st v pd tr:=sS g w K;have T2:b2 w (o++v) pd= .ok () v pd:=by grind[b2]
   rw[kP,aZ T2];have l:=g.mono L;have i:v<:+r:=L.trans J;have c9:v.length<r.length:=by grind
   obtain⟨bW,bD,d⟩:=FY l (st:=e.st v pd tr) ⟨tr,rfl,λA=>absurd A sM⟩;rw[bD,aP rfl];have hy:=aI.low (aI.lines (c:=0)) l;cases hm:cU v pd with
   |ok a r1 aH=>
    rw[hm] at d;obtain⟨M,a2,a3,bP,e3⟩:=d;rw[aZ (pX hm),a3.eta.2.2.2.2.1];simp only[bA,gW,aR];refine bM.iF (C:=cO _ r) c4.k ((di.im a2 a3).mono (M.trans i)) (λanx N b5 b bJ jy eY zf _=>?_) (λop nd ds b _ B=>?_) (λb O=>?_)
    ·have lF:=(di.sfx bJ).length_le;have mh:=M.length_le;have P:N.length<r.length:=by omega
     exact bM.inl P (hk () N b5 b jy eY P zf)
    ·rcases B with B|⟨_,rfl,Q⟩
     ·exact⟨b,n b (by omega),.inl B⟩
     ·subst Q;exact⟨_,vk ds,.inr ⟨rfl,rfl,rfl⟩⟩
    ·exact⟨b,n b (by rw[O.1];decide),O⟩
   |more op nd ds=>
    rw[hm] at d;rw[dh (sR hm)];have Q:=hy _ _ _ hm;rcases d with d|⟨_,rfl,rfl⟩
    ·rw[d.1];simp only[show¬((1:Int)=0) by decide,bF,e8,aK];obtain⟨D,al,bh⟩:=Gd (q:=true) (x:=[120]) l (.inl d) i (by omega) (by decide);rw[al];exact⟨D,rfl,bh⟩
    ·have t:(e.tt ds).2.2.2.2.1=0:=rfl;rw[t];simp only[bA,gW,aR];obtain⟨D,a4,R⟩:=di.tt l (pd:=ds) (by omega);rw[a4,aP rfl,n _ (by rw[R.1];decide)];exact⟨D,rfl,(R.mono i).s⟩
   |bad u=>rw[hm] at d;rw[g5 (uY hm),d.1];simp only[show¬((2:Int)=0) by decide,bF,e8,aK];rw[rV d];exact⟨_,rfl,d.mono i⟩
   |deep u=>rw[hm] at d;rw[jV (uZ hm),d.1];simp only[show¬((2:Int)=0) by decide,bF,e8,aK];rw[rV d];exact⟨_,rfl,d.mono i⟩
 ·rw[dh (op:=[]) (nd:=[]) (ds:=pd) (by rw[iE z];rfl),F7 pd m.b0,aP rfl,T1];exact⟨_,rfl,.inr ⟨rfl,rfl,rfl⟩⟩
end
def pZ(t:Tok):Bool:=decide (t= .op [124])
def qC(t:Tok):Bool:=decide (t= .op [38,38])||decide (t= .op [124,124])
theorem T3(df:ak Unit):fu df=ae (bQ [120]) λt=>ae (if cG t [33] then b2 1 else aW ()) λ_=>ae df λ_=>qB pZ 1 df:=by simp[fu,qB,pZ]
theorem T4(a:ak Unit):hs a=ae a λ_=>qB qC 2 a:=by simp[hs,qB,qC]
noncomputable def NA(R:bk):ah->Option ah:=λa=>fixF (xL (λo=> !(decide (o=([124]:aa)))) 1 (sw R)) bC a
noncomputable def JI(R:bk):ah->Option ah:=λx=>
 (aw (lL x) λ(b:aa)=>(bif(decide (b=([33]:aa))) then(aw (sw R (setAt x (W (x.2.1+1)))) λa=>NA R a) else(aw (sw R x) λa=>NA R a)))
theorem aaR(R:bk)(x0:ah):xd R x0=aw (g9 x0) λa=>JI R (a.1,a.2.1,a.2.2.1,x0.2.2.2.1,a.2.2.2.2.1,a.2.2.2.2.2.1,a.2.2.2.2.2.2.1,x0.2.2.2.2.2.2.2.1,a.2.2.2.2.2.2.2.2):=rfl
theorem anK(R:bk)(x0:ah):E6 R x0=aw (xd R x0) λa=>fixF (xL (λo=>bif(!(decide (o=([38,38]:aa)))) then(!(decide (o=([124,124]:aa)))) else false) 2 (xd R)) bC a:=rfl
theorem Gn{tst:aa->Bool}{w:Int}{F:ah->Option ah}{x:ah}(h:x.2.2.2.2.1≠0):fixF (xL tst w F) bC x=some x:=by
 obtain⟨m,hm⟩:∃m,bC=m+1:=⟨bC-1,by rw[gi]⟩
 simp_all[e5,xL]
theorem aaS{tst:aa->Bool}{w:Int}{F:ah->Option ah}{e:cg}(ds:aq)(b:e.S.length<=1000000)(c:tst []=true):fixF (xL tst w F) bC (e.tt ds)=some (e.tt ds):=by
 obtain⟨m,hm⟩:∃m,bC=m+1:=⟨bC-1,by rw[gi]⟩
 rw[hm,e5];unfold xL;have a:(e.tt ds).2.2.2.2.1=0:=rfl;rw[a,C9,aP rfl];have d:((e.tt ds).1,(e.tt ds).2.1,(e.tt ds).2.2.1,(e.tt ds).2.2.2.1,(e.tt ds).2.2.2.2.1,(e.tt ds).2.2.2.2.2.1,(e.tt ds).2.2.2.2.2.2.1,(e.tt ds).2.2.2.2.2.2.2.1,(e.tt ds).2.2.2.2.2.2.2.2)=e.tt ds:=rfl;simp_all[Ny,F7,aP]
theorem T5:([33]:aa)≠[]/\([33]:aa).all gp=true:=by decide
theorem JJ(n:Nat):∀l,jz true n=some l->uM l:=by
 intro l h;cases n with
 |zero=>cases h
 |succ m=>cases h;simp[pQ]
theorem anL(n:Nat):∀l,jz true n=some l->y_ l:=by
 intro l h;cases n with
 |zero=>cases h
 |succ m=>cases h;simp[tJ]
section
variable{R:bk}{n:Nat}(gL:∀k m,n=m+1+k->kC R m/\oG R m)(hD:kC R n)(ax:n<=30){e:cg}(bc:e.ne=30- (n:Int))
include gL hD ax bc
theorem aaT:T0 e (gm true (jz true n) (ba true n)) (sw R) where
 im:=λh b=>aaP gL hD ax bc h b
 tt:=λh c=>TZ h c
 sfx:=by intro r pd a r' d hm;exact(ar.command (λl hl=>JJ n l hl) (mi true n)).sfx hm
 pb:=by grind[FR,aI.command,anL]
theorem anM{r:aa}{pd:aq}{st:ah}(h:cC e r pd)(b:fZ e r pd st):bM true e r (qB pZ 1 (gm true (jz true n) (ba true n)) r pd) (λst=>st) (λ_ _ _=>True) (NA R st):=by
 refine aaQ (aaT gL hD ax bc) (λt a=>?_) (λr a=>?_) rfl h b
 ·exact⟨[124],N4 a,rfl,by decide,rfl⟩
 ·have:bs r=[124]:=by grind
  exact decide_eq_true ((mQ (by simp)).2 this)
theorem anN{r c:aa}{pd:aq}{tr:Bool}(d:cC e c pd)(g:c=[]->tr=false)(k:c<:+r)(z:bx c=some c):bM true e r (ae (if cG (av c) [33] then b2 1 else aW ()) (λ_=>ae (gm true (jz true n) (ba true n)) λ_=>qB pZ 1 (gm true (jz true n) (ba true n))) c pd) (λst=>st) (λ_ _ _=>True) (JI R (e.st c pd tr)):=by
 unfold JI;rw[wg d,aP rfl];have l:=d.nl.ia d.sfx
 have m:∀{v:aa}{tr:Bool},cC e v pd->(v=[]->tr=false)->v<:+r->bM true e r (ae (gm true (jz true n) (ba true n)) (λ_=>qB pZ 1 (gm true (jz true n) (ba true n))) v pd) (λst=>st) (λ_ _ _=>True) (aw (sw R (e.st v pd tr)) λo=>NA R o):=by
  intro v tr h g p;refine bM.iF (C:=λx=>x) c4.id ((aaP gL hD ax bc h ⟨tr,rfl,g⟩).mono p) (λa r1 A b B s1 q s _=>?_) (λop nd ds b _ f=>?_) (λb i=>?_)
  ·exact(anM gL hD ax bc q s).mono s1
  ·rcases f with f|⟨_,rfl,t⟩
   ·exact⟨b,Gn (by omega),.inl f⟩
   ·subst t;exact⟨_,aaS ds h.b0 rfl,.inr ⟨rfl,rfl,rfl⟩⟩
  ·exact⟨b,Gn (by rw[i.1];decide),i⟩
 by_cases aE:ja c=[33]
 ·have u:=(rT l T5.1 T5.2).1 aE;simp only[aE,bA,aK];rw[bo (by grind[cG])];obtain⟨v,rfl⟩:=(qu u).1;have j:v<:+[33]++v:=gY _ v;rw[aZ (show b2 1 ([33]++v) pd= .ok () v pd from rfl)];have w:setAt (e.st ([33]++v) pd tr) (W ((e.st ([33]++v) pd tr).2.1+1))=e.st v pd tr:=sS d 1 rfl;rw[w];exact m (d.mono j) (λy=>absurd y (d.tO (by simp) (by decide))) (j.trans k)
 ·have a8:cG (av c) [33]=false:=by grind[Jn,T5]
  simp only[aE,bF,aR];rw[aS (by grind),Jv];grind
theorem aaU{r:aa}{pd:aq}{st:ah}(h:cC e r pd)(b:fZ e r pd st):bM true e r (fu (gm true (jz true n) (ba true n)) r pd) (λst=>st) (λ_ _ _=>True) (xd R st):=by
 rw[T3,aaR];obtain⟨y,g,c⟩:=xI h b;rw[g,aP rfl,Gm c b];rcases c with⟨j,tr,a,rfl,k,l,m,p⟩|⟨a,rfl⟩
 ·rw[aZ (cB a)];grind[anN]
 ·rw[dh (op:=[]) (by rw[iE a];rfl)];unfold JI;rw[TA h,aP rfl];simp only[reduceCtorEq,bF,aR];have q:=h.jS;obtain⟨d,i,f⟩:=TZ (R:=R) (pd:=pd) h (by omega);rw[i,aP rfl];have:=Gn (tst:=λo=> !(decide (o=([124]:aa)))) (w:=1) (F:=sw R) (x:=d) (by rw[f.1];decide);exact⟨d,this,f.s⟩
theorem anO{r:aa}{c pd:aq}(h:cC e r c)(d:et pd<=100*e.S.length+800):∃a,xd R (e.tt pd)=some a/\n8 e r (cP [] pd [120]).1 (cP [] pd [120]).2 a:=by rw[aaR,C9,aP rfl];have f:((e.tt pd).1,(e.tt pd).2.1,(e.tt pd).2.2.1,(e.tt pd).2.2.2.1,(e.tt pd).2.2.2.2.1,(e.tt pd).2.2.2.2.2.1,(e.tt pd).2.2.2.2.2.2.1,(e.tt pd).2.2.2.2.2.2.2.1,(e.tt pd).2.2.2.2.2.2.2.2)=e.tt pd:=rfl;rw[f];unfold JI;rw[TA h,aP rfl];simp only[reduceCtorEq,bF,aR];obtain⟨a,g,b⟩:=TZ (R:=R) (pd:=pd) h d;rw[g,aP rfl];have:=Gn (tst:=λo=> !(decide (o=([124]:aa)))) (w:=1) (F:=sw R) (x:=a) (by rw[b.1];decide);exact⟨a,this,b⟩
theorem aaV:T0 e (fu (gm true (jz true n) (ba true n))) (xd R) where
 im:=λh b=>aaU gL hD ax bc h b
 tt:=λh c=>anO gL hD ax bc h c
 sfx:=by intro r pd a r' d hm;exact(ar.pipe (ar.command (λl hl=>JJ n l hl) (mi true n))).sfx hm
 pb:=aI.pipe (aaT gL hD ax bc).pb
theorem anP{r:aa}{pd:aq}{st:ah}(h:cC e r pd)(g:fZ e r pd st):bM true e r (hs (fu (gm true (jz true n) (ba true n))) r pd) (λst=>st) (λ_ _ _=>True) (E6 R st):=by
 rw[T4,anK];refine bM.iF (C:=λx=>x) c4.id (aaU gL hD ax bc h g) (λa r1 l b m s1 i j _=>?_) (λop nd ds b _ c=>?_) (λb d=>?_)
 ·refine(aaQ (aaV gL hD ax bc) (λt f=>?_) (λr f=>?_) rfl i j).mono s1
  ·unfold qC at f;grind
  ·unfold qC;rw[Bm];grind[mQ]
 ·rcases c with c|⟨_,rfl,k⟩
  ·exact⟨b,Gn (by omega),.inl c⟩
  ·subst k;exact⟨_,aaS ds h.b0 rfl,.inr ⟨rfl,rfl,rfl⟩⟩
 ·exact⟨b,Gn (by rw[d.1];decide),d⟩
end
noncomputable def wo(a:Bool):Int×ah->Option (Int×ah):=λy=>
 (bif(bif a then(decide (y.1=0)) else false) then(aw (gx y.2 ([]) ([120]:aa)) λ(b:ah)=>some (y.1,b)) else some y)
noncomputable def T6(a:aa)(k:Int×ah->Option (Int×ah))(n_:Int):ah->Option (Int×ah):=λx=>
 (aw (hF x) λ(c:aa)=>(aw (gw x) λ(d:Bool)=>(cT (d=false) (ik x) (0:UInt8) λ(e:UInt8)=>(bif(bif(bif d then true else(decide ((e.toNat:Int)=(10:Int)))) then true else(bif(decide (c=a)) then(!(decide (a=[]))) else false)) then k ((W (n_+1)),x) else(bif(bif(!(decide (c=([59]:aa)))) then(!(decide (c=([38]:aa)))) else false) then(aw (hq x x.2.1) λ(b:ah)=>some ((W (n_+1)),(b.1,b.2.1,b.2.2.1,x.2.2.2.1,b.2.2.2.2.1,b.2.2.2.2.2.1,b.2.2.2.2.2.2.1,x.2.2.2.2.2.2.2.1,b.2.2.2.2.2.2.2.2))) else k ((W (n_+1)),setAt x (W (x.2.1+1))))))))
noncomputable def aaW(R:bk)(b:aa)(k:Int×ah->Option (Int×ah))(n_:Int):ah->Option (Int×ah):=λx=>
 (aw (E6 R x) λ(c:ah)=>(bif(!(decide (c.2.2.2.2.1=0))) then some ((W (n_+1)),c) else(aw (g9 c) λ(a:ah)=>T6 b k n_ (a.1,a.2.1,a.2.2.1,c.2.2.2.1,a.2.2.2.2.1,a.2.2.2.2.2.1,a.2.2.2.2.2.2.1,c.2.2.2.2.2.2.2.1,a.2.2.2.2.2.2.2.2))))
noncomputable def NB(R:bk)(a:aa)(b:bt)(c:Bool)(j k:Int×ah->Option (Int×ah))(n_:Int):ah->Option (Int×ah):=λx=>
 (aw (gw x) λ(f:Bool)=>(bif f then(bif(!(decide (a=[]))) then(aw (g_ x ([])) λ(g:ah)=>j (n_,g)) else j (n_,x)) else(aw (ik x) λ(h:UInt8)=>(bif(decide ((h.toNat:Int)=(10:Int))) then(aw (Au x) λ(i:ah)=>k (n_,i)) else(aw (hF x) λ(d:aa)=>(aw (lL x) λ(e:aa)=>(cT ((decide (0<n_))=true/\(bif(bif(decide (d=a)) then(!(decide (a=[]))) else false) then(bif(decide (0<n_)) then true else(!c)) else false)=false) (yI e b) false λ(l:Bool)=>(bif(bif(bif(bif(bif(decide (d=a)) then(!(decide (a=[]))) else false) then(bif(decide (0<n_)) then true else(!c)) else false) then true else(bif(decide (0<n_)) then l else false)) then true else(bif(decide (a=([59,59]:aa))) then(decide (e=([101,115,97,99]:aa))) else false)) then some (n_,x) else aaW R a k n_ x))))))))
theorem T7(R:bk)(b:aa)(a:bt)(d:Bool)(j k:Int×ah->Option (Int×ah))(n_:Int)(x:ah):AI R b a d j k (n_,x)=(bif(decide (x.2.2.2.2.1=0)) then
 (aw (g9 x) λ(c:ah)=>NB R b a d j k n_ (c.1,c.2.1,c.2.2.1,x.2.2.2.1,c.2.2.2.2.1,c.2.2.2.2.2.1,c.2.2.2.2.2.2.1,x.2.2.2.2.2.2.2.1,c.2.2.2.2.2.2.2.2)) else j (n_,x)):=rfl
theorem anQ(R:bk)(x0:ah)(b:aa)(a:bt)(c:Bool):E7 R x0 b a c=fixF (AI R b a c (wo c)) bC (0,x0):=rfl
def tQ(c:Ctx)(no:Bool):Bool:=xz c no||(decide (c= .text)&&no)
theorem aaX(r:aa):bs r≠[119]:=by
 intro h;have ad:(lq.find? λo=>o.isPrefixOf r)=some [119]\/¬(lq.find? λo=>o.isPrefixOf r)=some [119]:=Classical.em _;rcases ad with ad|ad
 ·have:=List.mem_of_find?_eq_some ad;revert this;decide
 ·unfold bs at h;cases a:(lq.find? λo=>o.isPrefixOf r) with
  |none=>grind
  |some o=>grind
theorem anR{c:Ctx}{no:Bool}(aF:tQ c no=true){r:aa}(h:dx r)(k:r≠[])(n:Nat)(a:Bool)(i:a=(if((decide (0<(n:Int)))=true/\(bif(bif(decide (bs r=jA c)) then(!(decide (jA c=[]))) else false) then(bif(decide (0<(n:Int))) then true else(!(!no))) else false)=false) then(o6 c).contains (ja r) else false)):
  (bif(bif(bif(bif(decide (bs r=jA c)) then(!(decide (jA c=[]))) else false) then(bif(decide (0<(n:Int))) then true else(!(!no))) else false) then true else(bif(decide (0<(n:Int))) then a else false)) then true else(bif(decide (jA c=([59,59]:aa))) then(decide (ja r=([101,115,97,99]:aa))) else false))=((no||decide (n>0))&&dT c (av r)):=by
 have ax:decide (0<(n:Int))=decide (n>0):=by simp
 rw[ax] at i⊢;subst i
 have e:∀j,jA j=[119]->decide (bs r=jA j)=false:=by grind[aaX]
 have l:decide (([119]:aa)=[59,59])=false:=by decide
 have m:∀{w:aa},w≠[]->w.all gp=true->(ja r=w↔av r= .word w true):=λad f=>rT h ad f
 have d:∀{w:aa},w≠[]->w.all gp=true->cG (av r) w=decide (ja r=w):=λad f=>(Jn h ad f).symm
 have g:∀{o:aa},o≠[]->(av r== .op o)=decide (bs r=o):=by grind[mQ]
 cases c with
 |text=>grind[dT,l2,jA,o6]
 |paren=>have:dT .paren (av r)=decide (bs r=[41]):=g (by simp);grind[jA,o6]
 |item=>
  have b:no=true:=by grind[tQ,xz]
  subst b;have:dT .item (av r)=(decide (bs r=[59,59])||decide (ja r=ev)):=by show(av r== .op [59,59]||cG (av r) ev)=_;grind[Jz]
  grind[jA,o6,ev]
 |q5=>
  have b:no=false:=by grind[tQ,xz]
  subst b;have:dT .q5 (av r)=decide (ja r=[125]):=d Np.1 Np.2;rw[this,e _ rfl];grind[jA,o6]
 |rL=>
  have b:no=false:=by grind[tQ,xz]
  subst b;have:dT .rL (av r)=decide (ja r=iX):=d No.1 No.2;rw[this,e _ rfl];grind[jA,o6]
 |qo=>
  have b:no=false:=by grind[tQ,xz]
  subst b;have:dT .qo (av r)=(decide (ja r=il)||decide (ja r=hR)||decide (ja r=fe)):=by show(cG (av r) il||cG (av r) hR||cG (av r) fe)=_;grind[TK,TJ,Dm]
  rw[this,e _ rfl];grind[jA,o6]
 |jY=>
  have b:no=false:=by grind[tQ,xz]
  subst b;have:dT .jY (av r)=decide (ja r=fe):=d Dm.1 Dm.2;rw[this,e _ rfl];grind[jA,o6]
 |pM=>
  have b:no=false:=by grind[tQ,xz]
  subst b;have:dT .pM (av r)=decide (ja r=gU):=d wj.1 wj.2;rw[this,e _ rfl];grind[jA,o6]
 |done=>
  have b:no=false:=by grind[tQ,xz]
  subst b;have:dT .done (av r)=decide (ja r=iO):=d Gc.1 Gc.2;rw[this,e _ rfl];grind[jA,o6]
theorem anT{c:Ctx}{no:Bool}(aF:tQ c no=true){r:aa}(d:dx r){o:aa}(a:av r= .op o):(bif(decide (bs r=jA c)) then(!(decide (jA c=[]))) else false)=dT c (.op o):=by
 have b:=(iq a).1;have bc:=(iq a).2.2.2;subst b;cases c with
 |text=>simp[jA,dT]
 |paren=>grind[jA,dT]
 |item=>grind[jA,dT,cG]
 |_=>simp[jA,dT,cG,aaX]
theorem anU{c:Ctx}{r:aa}(h:bs r=[]):(bif(decide (bs r=jA c)) then(!(decide (jA c=[]))) else false)=false:=by grind
def tR(ao:ak Unit)(c:Ctx)(no:Bool)(n:Nat):ak Nat:=ae (cU.aM (if no||n>0 then [] else [120])) λ_=>cb (eh ao c no) n
theorem ND{ao:ak Unit}{c:Ctx}{no:Bool}{n:Nat}{r r1:aa}{pd:aq}(a:bx r=some r1)(b:av r1≠ .line):tR ao c no n r pd=cb (eh ao c no) n r1 pd:=by unfold tR;rw[aZ (pX (sG a b))]
theorem anV{ao:ak Unit}{c:Ctx}{no:Bool}{n:Nat}{r:aa}{pd:aq}(a:bx r=none):tR ao c no n r pd= .more [] (cP [] pd (if no||n>0 then [] else [120])).1 (cP [] pd (if no||n>0 then [] else [120])).2:=by
 unfold tR;have:cU r pd= .more [] [] pd:=by rw[sE,cH];have:h9 false r pd= .more [] (cP [] pd []).1 (cP [] pd []).2:=dh (iE a);rw[this];rfl
 grind[dh,sR]
theorem anW{r t:aa}{pd:aq}(e:bx r=some (10::t)):(∃a b r' d,cU r pd= .ok a r' d/\ae jj (λ_=>cU) (10::t) pd= .ok b r' d)\/cU r pd=ae jj (λ_=>cU) (10::t) pd:=by
 have ad:cU r pd=cO h9 r (ae jj (λ_=>aW (.inl true)) (10::t) pd):=by rw[sE,cH,uP e]
 have g:=(dV e).length_le;cases hm:jj (10::t) pd with
 |ok a r1 c=>
  obtain⟨i,_⟩:=Ta hm;have hl:r1.length<r.length:=by grind
  rw[ad,aZ hm,aZ hm];have f:cO h9 r (aW (.inl true) r1 c)=cb h9 true r1 c:=by show(if r1.length<r.length then cb h9 true r1 c else _)=_;grind
  rw[f,sE];rcases ajF r1.length true r1 c (cX _) with⟨r',d,⟨x,j⟩,y,k⟩|h
  ·grind
  grind
 |more op nd ds=>right;rw[ad,dh hm,dh hm];rfl
 |bad q=>right;rw[ad,g5 hm,g5 hm];rfl
 |deep q=>right;rw[ad,jV hm,jV hm];rfl
theorem anX{ao:ak Unit}{c:Ctx}{no:Bool}{n:Nat}{r t:aa}{pd:aq}(a:bx r=some (10::t)):tR ao c no n r pd=ae (jj.aM (if no||n>0 then [] else [120])) (λ_=>tR ao c no n) (10::t) pd:=by
 have hk:ae (jj.aM (if no||n>0 then [] else [120])) (λ_=>tR ao c no n)=ae ((ae jj (λ_=>cU)).aM (if no||n>0 then [] else [120])) (λ_=>cb (eh ao c no) n):=by rw[Ju,kA];rfl
 rw[hk];unfold tR;grind[anW,ae,ak.aM]
theorem anY(ao:ak Unit)(c:Ctx)(no:Bool):oz ao c no=tR ao c no 0:=by simp[uO,tR]
theorem aaY{r r1:aa}{k:Nat}{pd b:aq}{a:Unit}(hk:0<k)(c:r≠[])(h:b2 k r pd= .ok a r1 b):r1.length<r.length:=by cases h;grind[List.length_pos_iff]
theorem anZ{l:dU}(hl:uM l){r:aa}{pd:aq}{a:Unit}{r':aa}{b:aq}(aF:hG (av r)=true)(h:hS l (av r) r pd= .ok a r' b):r'.length<r.length:=by
 have g:r≠[]:=by rintro rfl;grind[av,hG]
 cases c:av r with
 |eof=>rw[c] at h;cases h
 |line=>rw[c] at h;cases h
 |op o=>rw[c] at h;have d:ae (b2 1) (λ_=>ae ((l.ls .paren false).aM [41]) λ_=>jR [41]) r pd= .ok a r' b:=h;obtain⟨_,r1,i,ad,e⟩:=b3 d;have f:ar (ae ((l.ls .paren false).aM [41]) λ_=>jR [41]):=((hl.ls _ _).aM _).ae λ_=>ar.op _;have:=(f.sfx e).length_le;have:=aaY (by decide) g ad;omega
 |word w p=>
  rw[c] at h aF;have j:w≠[]:=by rintro rfl;cases p<;>simp[hG] at aF;revert aF;decide
  have d:ae (b2 w.length) (λ_=>zk l w) r pd= .ok a r' b:=h;obtain⟨_,r1,i,ad,e⟩:=b3 d;have f:ar (zk l w):=by unfold zk;refine ar.ite (((hl.ls _ _).aM _).ae λ_=>ar.res _) (ar.ite (ar.cond hl) (ar.ite (ar.for_ hl hl.dl) (ar.ite (ar.xk hl hl.dl) (((hl.ls _ _).aM _).ae λ_=>ar.body hl _))))
  have k:zk l w r1 i= .ok a r' b:=e;have:=(f.sfx k).length_le;have:=aaY (N0.2 j) g ad;omega
theorem an0{n:Nat}{r:aa}{pd:aq}{a:Unit}{r':aa}{x:aq}(h:gm true (jz true n) (ba true n) r pd= .ok a r' x):r'.length<r.length:=by
 have hD:=mi true n;have j8:=JJ n;unfold gm at h;obtain⟨t,r1,k,ad,c⟩:=b3 h;obtain⟨s,rfl,rfl⟩:=nB ad;have G:=(dV s).length_le;split at c
 ·cases c
 ·rename_i bc;split at c
  ·rename_i aF;obtain⟨_,g,i,e,d⟩:=b3 c;have a2:=((ar.mK hD).sfx d).length_le;cases n with
   |zero=>cases e
   |succ m=>
    have u:((hS (a1 true m) (av r1)).named (mH (av r1))) r1 k= .ok () g i:=e;have j:hS (a1 true m) (av r1) r1 k= .ok () g i:=by grind[ak.named]
    have:=anZ (pQ true m) aF j;omega
  ·have H:r1≠[]:=λy=>bc (l2.2 y);have l:bx r1=some r1:=lO _ _ _ (cX _) s;cases f:av r1 with
   |eof=>grind
   |line=>rw[f] at c;cases c
   |op o=>
    rw[f] at c;simp only at c;split at c
    ·rename_i z;obtain⟨b,g,i,e,d⟩:=b3 c;have a2:=((ar.simple hD true).sfx d).length_le;have A:=(iq f).1;subst A;have B:=JG l (by grind[M3]) e;subst B;have:=sD hD e;omega
    ·cases c
   |word w p=>
    rw[f] at c;simp only at c;split at c
    ·cases c
    ·obtain⟨b,g,i,e,d⟩:=b3 c;cases b with
     |true=>simp only[cD] at d;have a2:=((ar.simple hD true).sfx d).length_le;have:=sD hD e;omega
     |false=>
      simp only[ew,cl] at d;have C:g=r1/\i=k:=by
       cases z:e2 (bs (r1.dropWhile cd)) with
       |true=>grind[JG]
       |false=>simp_all[uV]
      obtain⟨rfl,rfl⟩:=C;obtain⟨_,I,J,u,j⟩:=b3 d;have a3:=vU hD (y8 l f).1 (y8 l f).2 u;split at j
      ·obtain⟨t,K,L,D,q⟩:=b3 j;obtain⟨E,rfl,rfl⟩:=nB D;have M:=(dV E).length_le;split at q
       ·rename_i N;obtain⟨_,O,P,F,v⟩:=b3 q;have Q:=((dZ.function (fr:=true) j8).sfx F).length_le;simp only[cD] at v;cases v;omega
       ·have:=((ar.simple hD true).sfx q).length_le;omega
      ·have:=((ar.simple hD true).sfx j).length_le;omega
theorem an1{σ α:Type}{f:σ->ak (σ⊕α)}(hf:∀s r pd x r' c,f s r pd= .ok x r' c->r'.length<=r.length):∀(N:Nat)(s:σ)(r:aa)(pd:aq)(a:α)(r':aa)(c:aq),r.length<=N->cb f s r pd= .ok a r' c->r'.length<=r.length:=by
 intro N;induction N with
 |zero=>
  intro s r pd a r' c ax h;rw[cH] at h;cases hm:f s r pd with
  |ok x r1 d=>
   rw[hm] at h;have:=hf _ _ _ _ _ _ hm;cases x with
   |inl s'=>simp_all[cO]
   |inr b=>cases h;omega
  |more op nd ds=>rw[hm] at h;cases h
  |bad q=>rw[hm] at h;cases h
  |deep q=>rw[hm] at h;cases h
 |succ N e=>
  intro s r pd a r' c ax h;rw[cH] at h;cases hm:f s r pd with
  |ok x r1 d=>
   rw[hm] at h;have:=hf _ _ _ _ _ _ hm;cases x with
   |inl s'=>unfold cO at h;grind
   |inr b=>cases h;omega
  |more op nd ds=>rw[hm] at h;cases h
  |bad q=>rw[hm] at h;cases h
  |deep q=>rw[hm] at h;cases h
theorem aaZ{p:Tok->Bool}{w:Nat}{df:ak Unit}(c:ar df){r:aa}{pd:aq}{a:Unit}{r':aa}{b:aq}(h:qB p w df r pd= .ok a r' b):r'.length<=r.length:=by unfold qB at h;refine an1 (λs r pd x r' b h=>?_) _ _ _ _ _ _ _ (cX _) h;have ad:ar (ae (bQ []) λt=>if p t=true then ae (b2 w) λ_=>ae (cU.aM [120]) λ_=>ae df λ_=>(aW (.inl ()):ak (Unit⊕Unit)) else aW (.inr ())):=(ar.dJ _).ae λt=>ar.ite ((ar.dm _).ae λ_=>(ar.lines.aM _).ae λ_=>c.ae λ_=>ar.ret _) (ar.ret _);exact(ad.sfx h).length_le
theorem an2{n:Nat}{r:aa}{pd:aq}{a:Unit}{r':aa}{c:aq}(h:fu (gm true (jz true n) (ba true n)) r pd= .ok a r' c):r'.length<r.length:=by
 rw[T3] at h;have d:ar (gm true (jz true n) (ba true n)):=ar.command (λl hl=>JJ n l hl) (mi true n);obtain⟨t,r1,m,ad,e⟩:=b3 h;obtain⟨f,rfl,rfl⟩:=nB ad;have o:=(dV f).length_le;obtain⟨_,g,p,b,i⟩:=b3 e;have a2:g.length<=r1.length:=by
  split at b
  ·cases b;simp
  ·cases b;omega
 obtain⟨_,q,s,j,k⟩:=b3 i;have a3:=an0 j;have u:=aaZ d k;omega
theorem an3{n:Nat}{r:aa}{pd:aq}{a:Unit}{r':aa}{b:aq}(h:hs (fu (gm true (jz true n) (ba true n))) r pd= .ok a r' b):r'.length<r.length:=by rw[T4] at h;have c:ar (fu (gm true (jz true n) (ba true n))):=ar.pipe (ar.command (λl hl=>JJ n l hl) (mi true n));obtain⟨_,f,g,d,e⟩:=b3 h;have a3:=an2 d;have i:=aaZ c e;omega
def tS(no:Bool)(k:Nat):aa:=if no||k>0 then [] else [120]
theorem NF{no:Bool}{k:Nat}(st:ah):wo (!no) ((k:Int),st)=if no||k>0 then some ((k:Int),st) else aw (gx st [] [120]) λy=>some ((k:Int),y):=by unfold wo;grind
theorem T8{e:cg}{r r0:aa}{nd:aa}{ds:aq}{st:ah}{a:aq}{no:Bool}{k:Nat}{q:Bool}(h0:cC e r a)(hm:iG false e r nd ds st)(h:r<:+r0)(c:nd.length+et ds<=100*e.S.length+500):∃b,wo (!no) ((k:Int),st)=some b/\iG q e r0 (cP nd ds (tS no k)).1 (cP nd ds (tS no k)).2 b.2:=by
 rw[NF];unfold tS;split
 ·exact⟨_,rfl,(hm.mono h).up⟩
 ·obtain⟨d,f,g⟩:=Gd (q:=q) (x:=[120]) h0 hm h c (by decide);simp_all[aP]
theorem aa0{e:cg}{r:aa}{st:ah}{no:Bool}{k:Nat}(hm:iS e r st):wo (!no) ((k:Int),st)=some ((k:Int),st):=by
 rw[NF];split
 ·rfl
 ·rw[rV hm];rfl
section
variable{R:bk}{n:Nat}(gL:∀k m,n=m+1+k->kC R m/\oG R m)(hD:kC R n)(ax:n<=30){e:cg}(bc:e.ne=30- (n:Int)){c:Ctx}{no:Bool}(aF:tQ c no=true)
noncomputable abbrev NG(R:bk)(c:Ctx)(no:Bool):(Int×ah->Option (Int×ah))->Int×ah->Option (Int×ah):=AI R (jA c) (o6 c) (!no) (wo (!no))
abbrev u3(n:Nat):ak Unit:=hs (fu (gm true (jz true n) (ba true n)))
include aF
theorem aa1(h:c= .text):no=true:=by grind[tQ,xz]
theorem aa2{k:Int×ah->Option (Int×ah)}{m:Nat}{r:aa}{d pd:aq}(h:cC e r d)(j:et pd<=100*e.S.length+400):∃b,NB R (jA c) (o6 c) (!no) (wo (!no)) k (m:Int) (e.tt pd)=some b/\iG (decide (c= .text)) e r (cP [] pd (tS no m)).1 (cP [] pd (tS no m)).2 b.2:=by
 unfold NB;rw[o7,aP rfl];simp only[aK];by_cases a:c= .text
 ·have f:=aa1 aF a;subst a f;have hk:decide (jA .text=[])=true:=rfl;rw[hk,NF];exact⟨((m:Int),e.tt pd),rfl,.inr ⟨rfl,rfl,rfl⟩⟩
 ·have hk:decide (jA c=[])=false:=by cases c<;>first|rfl|grind
  rw[hk,e9 a];simp only[e8,aK];obtain⟨l,g,i⟩:=Gg (pd:=pd) (x:=[]) h (by omega) (by simp);rw[g,aP rfl];exact T8 h i.s fQ (by grind)
theorem an4{N m:Nat}{r:aa}{a pd:aq}(i:0<N)(h:cC e r a)(d:et pd<=100*e.S.length+400):∃b,fixF (NG R c no) N ((m:Int),e.tt pd)=some b/\iG (decide (c= .text)) e r (cP [] pd (tS no m)).1 (cP [] pd (tS no m)).2 b.2:=by
 obtain⟨f,rfl⟩:∃m,N=m+1:=⟨N-1,by omega⟩
 rw[e5];show∃b,AI R (jA c) (o6 c) (!no) (wo (!no)) _ ((m:Int),e.tt pd)=some b/\_
 rw[T7];have g:(e.tt pd).2.2.2.2.1=0:=rfl;rw[g,C9,aP rfl];simp only[bA,aK];exact aa2 aF h d
theorem an6{N:Nat}{m:Int}{st:ah}(b:0<N)(h:st.2.2.2.2.1≠0):fixF (NG R c no) N (m,st)=wo (!no) (m,st):=by
 obtain⟨a,rfl⟩:∃m,N=m+1:=⟨N-1,by omega⟩
 rw[e5];show AI R (jA c) (o6 c) (!no) (wo (!no)) _ (m,st)=_;simp_all[T7]
include gL hD ax bc
theorem an7:∀(N m:Nat)(r:aa)(pd:aq)(st:ah),r.length+1<N->m+r.length<=1000001->cC e r pd->fZ e r pd st->bM (decide (c= .text)) e r (tR (u3 n) c no m r pd) (λb=>b.2) (λa _ b=>b.1=(a:Int)) (fixF (NG R c no) N ((m:Int),st)):=by
 intro N;induction N with
 |zero=>omega
 |succ N T=>
  intro m r pd st n1 hm D E;have K:0<N:=by omega
  rw[e5];have T9:∀(m:Nat)(r:aa)(gn pd:aq),cC e r gn->et pd<=100*e.S.length+400->_:=λm r gn pd h U=>an4 (R:=R) (N:=N) (m:=m) aF K h U
  have V:∀(m:Int)(st:ah),st.2.2.2.2.1≠0->_:=λm st h=>an6 (R:=R) (N:=N) (m:=m) aF K h
  generalize fixF (NG R c no) N=k at T T9 V;show bM _ e r _ _ _ (AI R (jA c) (o6 c) (!no) (wo (!no)) k ((m:Int),st));rw[T7,E.eta.2.2.2.2.1];simp only[bA,aK];obtain⟨y,ue,bp⟩:=xI D E;rw[ue,aP rfl,Gm bp E];rcases bp with⟨aC,tr,L,rfl,g6,i,z,ih⟩|⟨L,rfl⟩
  ·have A2:=z.length_le;unfold NB;rw[qA,aP rfl,F6 i];by_cases Y:aC=[]
   ·subst Y;simp only[bA,aK];rw[ND L (by decide)];rw[cH];by_cases ht:c= .text
    ·have j0:=aa1 aF ht;subst ht j0;have hk:decide (jA .text=[])=true:=rfl;have M:eh (u3 n) .text true m [] pd= .ok (.inr m) [] pd:=by unfold eh;rw[aZ (cB ih)];rfl
     rw[hk,NF,M];exact⟨_,rfl,z,i,⟨tr,rfl,g6⟩,rfl⟩
    ·have hk:decide (jA c=[])=false:=by cases c<;>first|rfl|grind
     have M:eh (u3 n) c no m [] pd= .more [] (cP [] pd (tS no m)).1 (cP [] pd (tS no m)).2:=by unfold eh;rw[aZ (cB ih),bo (by decide),aS ht];rfl
     rw[hk,M];simp only[e8,aK];obtain⟨aQ,Z,bn⟩:=uX (tr:=tr) (x:=[]) i (by decide);rw[Z,aP rfl];have:=i.jS;obtain⟨b,A,p⟩:=T8 (no:=no) (k:=m) (q:=decide (c= .text)) i bn.s z (by show([]:aa).length+et pd<=_;omega);exact⟨b,A,p⟩
   ·rw[e9 Y];simp only[aR];rw[aP rfl];have pT:av aC≠ .eof:=λhh=>Y (l2.1 hh);have dI:=i.nl.ia i.sfx;cases aC with
    |nil=>grind
    |cons b t=>
     simp only[zB,pR];by_cases JH:b=10
     ·
      subst JH;simp only[bA,aK];rw[anX L];obtain⟨bW,bD,j⟩:=ZI (q:=false) (tr:=tr) i;rw[bD,aP rfl];have hy:=aI.low (aI.nl (c:=0)) i;cases s:jj (10::t) pd with
      |ok a r1 aH=>rw[s] at j;obtain⟨cV,a2,a3,_⟩:=j;rw[aZ (pX s)];have kb:=(Ta s).1.length_le;simp only[mA] at A2;exact(T m r1 aH bW (by omega) (by omega) a2 a3).mono (cV.trans z)
      |more op nd ds=>rw[s] at j;rw[dh (sR s),V _ _ (by rw[j.z.1];decide)];have U:=hy _ _ _ s;obtain⟨F,A,p⟩:=T8 (no:=no) (k:=m) (q:=decide (c= .text)) i j z (by omega);exact⟨F,A,p⟩
      |bad u=>rw[s] at j;rw[g5 (uY s),V _ _ (by rw[j.1];decide),aa0 j];exact⟨_,rfl,j.mono z⟩
      |deep u=>rw[s] at j;rw[jV (uZ s),V _ _ (by rw[j.1];decide),aa0 j];exact⟨_,rfl,j.mono z⟩
     ·simp only[JH,bF,aR];have an8:av (b::t)≠ .line:=by rw[Da,aS JH];grind
      rw[ND L an8,rU i,aP rfl,wg i,aP rfl,MX _ _ (by cases c<;>decide),fY,anR aF dI Y m _ rfl];rw[cH]
      have T_:∀X,(X=eh (u3 n) c no m (b::t) pd)->X=(if((no||decide (m>0))&&dT c (av (b::t)))=true then aW (.inr m) else ae (u3 n) λ_=>ae (bQ []) (hX c m)) (b::t) pd:=by rintro X rfl;unfold eh;rw[aZ (cB ih),aS pT]
      rw[T_ _ rfl];cases ar4:((no||decide (m>0))&&dT c (av (b::t))) with
      |true=>simp only[aK,cD];exact⟨_,rfl,z,i,⟨tr,rfl,g6⟩,rfl⟩
      |false=>
       simp only[aR,ew,cl];unfold aaW;have O:W ((m:Int)+1)=((m+1:Nat):Int):=by grind[dW]
       refine bM.iF (C:=cO _ (b::t)) c4.k ((anP gL hD ax bc i ⟨tr,rfl,g6⟩).mono z) (λa cw d iZ bJ jy eY zf _=>?_) (λop nd ds iZ Dg o0=>?_) (λiZ kD=>?_)
       ·have c9:=an3 bJ;rw[zf.eta.2.2.2.2.1];simp only[bA,gW,aR];obtain⟨kt,an9,KX⟩:=xI eY zf;rw[an9,aP rfl,Gm KX zf];unfold T6;rw[O];rcases KX with⟨P,l,fE,rfl,Nk,w,xC,Dh⟩|⟨fE,rfl⟩
        ·have ar5:=xC.length_le;have I:P<:+r:=xC.trans jy;have nF:P.length<(b::t).length:=by omega
         have J:=T (m+1) P d (e.st P d l) (by omega) (by omega) w ⟨l,rfl,Nk⟩;rw[aZ (cB fE),rU w,aP rfl,qA,aP rfl,F6 w];have ar6:(no||decide (m+1>0))=true:=by simp
         cases P with
         |nil=>
          simp only[bA,cT,tU,cl,aK];rw[ND (r1:=[]) Dh (by decide)] at J;have:cO (eh (u3 n) c no) (b::t) (hX c m (av []) [] d)=cb (eh (u3 n) c no) (m+1) [] d:=by rfl
          rw[this];exact J.mono I
         |cons g f=>
          rw[e9 (show¬(g::f=[]) by simp),fY];simp only[cD,aR,zB,pR]
          have sL:∀(x:aa)(NH:aq),x.length<(b::t).length->cO (eh (u3 n) c no) (b::t) (ae cU (λ_=>aW (.inl (m+1))) x NH)=tR (u3 n) c no (m+1) x NH:=by
           intro x NH E;unfold tR;rw[bo (by simp)];cases B:cU x NH with
           |ok e3 eL lu=>rw[aZ B,aZ (pX B)];have bu:=(ar.lines.sfx B).length_le;show(if eL.length<(b::t).length then cb (eh (u3 n) c no) (m+1) eL lu else .bad eL)=_;grind
           |more op nd ds=>rw[dh B,dh (sR B)];rfl
           |bad q=>rw[g5 B,g5 (uY B)];rfl
           |deep q=>rw[jV B,jV (uZ B)];rfl
          have rj:∀X:dw Nat,X= .bad (g::f)->bM (decide (c= .text)) e r X (λb=>b.2) (λa _ b=>b.1=(a:Int)) (aw (hq (e.st (g::f) d l) (e.st (g::f) d l).2.1) λ(G:ah)=>
            some (((m+1:Nat):Int),(G.1,G.2.1,G.2.2.1,(e.st (g::f) d l).2.2.2.1,G.2.2.2.2.1,G.2.2.2.2.2.1,G.2.2.2.2.2.2.1,(e.st (g::f) d l).2.2.2.2.2.2.2.1,G.2.2.2.2.2.2.2.2))):=by
           rintro X rfl;obtain⟨aQ,Z,bn⟩:=pW (tr:=l) (e.st (g::f) d l).2.1 w I;rw[Z,aP rfl];exact⟨_,rfl,by cases Z;exact bn⟩
          rcases Jt (b:=g) (t:=f) with⟨Q,S⟩|⟨Q,S,H⟩|⟨Q,S,H⟩
          ·subst Q;simp only[bA,aK];rw[S];show bM _ e r (cO _ (b::t) (ae cU (λ_=>aW (.inl (m+1))) (10::f) d)) _ _ _;rw[sL _ _ nF];exact J.mono I
          ·simp only[Q,bF,aR];rw[anT aF (w.nl.ia w.sfx) H,H];unfold hX;dsimp only;by_cases k5:bs (g::f)=[59]\/bs (g::f)=[38]
           ·have j_:dT c (.op (bs (g::f)))=false:=by rcases k5 with k5|k5<;>rw[k5]<;>cases c<;>rfl
            rw[j_,bo k5];have wM:(bif !decide (bs (g::f)=[59]) then !decide (bs (g::f)=[38]) else false)=false:=by grind
            rw[wM];simp only[aR];have Sd:(bs (g::f)).length=1:=by grind
            obtain⟨v,D⟩:=(iq H).2.1;have an_:=(iq H).2.2.1;have aoa:=(iq H).2.2.2;generalize bs (g::f)=o at*;rw[<-D] at w nF I⊢;have gJ:v<:+o++v:=gY o v;have kP:setAt (e.st (o++v) d l) (W ((e.st (o++v) d l).2.1+1))=e.st v d l:=sS w 1 Sd;have T2:b2 1 (o++v) d= .ok () v d:=by grind[b2]
            have Sw:=gJ.length_le;rw[kP,aZ T2,sL _ _ (by omega)];have sM:=w.tO aoa an_;exact(T (m+1) v d (e.st v d l) (by omega) (by omega) (w.mono gJ) ⟨l,rfl,λhh=>absurd hh sM⟩).mono (gJ.trans I)
           ·rw[aS k5];have wM:(bif !decide (bs (g::f)=[59]) then !decide (bs (g::f)=[38]) else false)=true:=by grind
            rw[wM];cases j_:dT c (.op (bs (g::f))) with
            |true=>
             simp only[aK,cD];rw[ND Dh (by grind),cH] at J;have M:eh (u3 n) c no (m+1) (g::f) d= .ok (.inr (m+1)) (g::f) d:=by unfold eh;rw[aZ (cB Dh),if_neg (by grind),if_pos (by grind)];rfl
             rw[M] at J;exact J.mono I
            |false=>simp only[cond_false,cond_true,Bool.false_eq_true,if_false];exact rj _ rfl
          ·simp only[Q,decide_false,cond_false];rw[anU S,H,S];simp only[cond_false];exact rj _ rfl
        ·rw[dh (op:=[]) (nd:=[]) (ds:=d) (by rw[iE fE];rfl),F7 d D.b0,aP rfl,o7,aP rfl];simp only[cT,tU,cl,aK];have:=eY.jS;obtain⟨F,A,p⟩:=T9 (m+1) cw d d eY (by omega);have E:tS no (m+1)=[]:=by simp[tS]
         rw[E] at p;exact⟨F,A,p.mono jy⟩
       ·rcases o0 with o0|⟨_,rfl,U⟩
        ·rw[o0.1];simp only[show¬((1:Int)=0) by decide,bF,e8,aK];exact⟨_,rfl,.inl o0⟩
        ·subst U;have i_:(e.tt ds).2.2.2.2.1=0:=rfl;rw[i_,C9,aP rfl];simp only[bA,gW,aR];have Ja:((e.tt ds).1,(e.tt ds).2.1,(e.tt ds).2.2.1,(e.tt ds).2.2.2.1,(e.tt ds).2.2.2.2.1,(e.tt ds).2.2.2.2.2.1,(e.tt ds).2.2.2.2.2.2.1,(e.tt ds).2.2.2.2.2.2.2.1,(e.tt ds).2.2.2.2.2.2.2.2)=e.tt ds:=rfl;rw[Ja];unfold T6;rw[F7 ds D.b0,aP rfl,o7,aP rfl,O];simp only[cT,tU,cl,aK];have tC:=aI.low (aI.pP (aaV gL hD ax bc).pb) i _ _ _ Dg;obtain⟨F,A,p⟩:=T9 (m+1) r pd ds D (by omega);have E:tS no (m+1)=[]:=by simp[tS]
         rw[E] at p;exact⟨F,A,p⟩
       ·rw[kD.1];grind
  ·rw[anV L];have:=D.jS;obtain⟨F,A,p⟩:=aa2 (R:=R) (m:=m) (k:=k) aF D (pd:=pd) (by omega);exact⟨F,A,p⟩
end
theorem aob(n:Nat)(c:Ctx)(no:Bool):(a1 true n).ls c no=oz (u3 n) c no:=by cases n<;>rfl
theorem aa5{R:bk}{n:Nat}(gL:∀k m,n=m+1+k->kC R m/\oG R m)(hD:kC R n)(ax:n<=30){e:cg}(bc:e.ne=30- (n:Int)){c:Ctx}{no:Bool}(aF:tQ c no=true){r:aa}{pd:aq}{st:ah}(h:cC e r pd)(d:fZ e r pd st):bM (decide (c= .text)) e r ((a1 true n).ls c no r pd) (λb=>b.2) (λa _ b=>b.1=(a:Int)) (E7 R st (jA c) (o6 c) (!no)):=by rw[aob,anY,anQ];have ad:=h.b0;have f:=h.sfx.length_le;grind[an7,we]
theorem Ua:∀(k n:Nat),n<=30->(2*n+1<=k->kC (kM k) n)/\(2*n+2<=k->oG (kM k) n):=by
 intro k;induction k with
 |zero=>omega
 |succ k a=>
  intro n ax;refine⟨λh=>⟨λe bc t pd tr b=>?_⟩,λh=>⟨λe c no aF bc r pd st b d=>?_⟩⟩
  ·exact al3 (R:=kM k) (λm hm=>⟨(a m (by omega)).1 (by omega),(a m (by omega)).2 (by omega)⟩) ax bc b
  ·have f:decide (c= .text)=false:=e9 (by rintro rfl;cases aF);have:=aa5 (R:=kM k) (λj m hm=>⟨(a m (by omega)).1 (by omega),(a m (by omega)).2 (by omega)⟩) ((a n ax).1 (by omega)) ax bc (c:=c) (no:=no) (by grind[tQ]) b d;rw[f] at this;exact this
theorem Ub(s:aa):dx (dz s):=by
 unfold dz;split
 ·rename_i h;right;rcases List.eq_nil_or_concat s with rfl|⟨t,b,rfl⟩
  ·grind
  grind
 ·exact .inr ⟨s,rfl⟩
theorem JL(s:aa):dz s≠[]:=by
 unfold dz;split
 ·grind
 ·simp
theorem aoc(s:aa)(a:s.length<=1000000)(b:Bool):(bif b then some s else(a9 (((s.length+([10]:aa).length:Nat):Int)<=9223372036854775807)<|some (s++([10]:aa))))=some (bif b then s else s++[10]):=by
 cases b with
 |true=>rfl
 |false=>exact(aR _ _).trans (Zx s a)
theorem aod(s:aa)(a:s.length<=1000000):Ff s=some (dz s):=by
 unfold Ff;rw[aoc s a];unfold dz;rcases List.eq_nil_or_concat s with rfl|⟨t,b,rfl⟩
 ·decide
 ·rw[List.concat_eq_append] at*;have hl:(t++[b]).length=t.length+1:=by simp
  have c:W (((t++[b]).length:Int)-1)=(t.length:Int):=by grind[dW]
  have d:at' (t++[b]) (t.length:Int)=b:=by simp[at']
  simp only[c,d,pR];rw[b9 (by omega)];simp
def e0(S:aa):cg:=⟨S,0⟩
theorem aoe{s:aa}(d:(dz s).length<=1000000):bM true (e0 (dz s)) (dz s) (hT true 30 (dz s)) (λb=>b.2) (λa _ b=>b.1=(a:Int)) (sy.nP (dz s,0,0,([]:aq),0,0,[],([]:bt),false) ([]) ([]:bt) false):=by
 have hk:∃k,bC=k+1/\62<=k:=by
  refine⟨bC-1,?_,?_⟩
  ·rw[gi]
  simp[gi]
 obtain⟨k,hk,f⟩:=hk;have g:cC (e0 (dz s)) (dz s) []:=⟨d,Ub s,JL s,fQ,by simp[e0,et,lM]⟩;have:=aa5 (R:=kM k) (n:=30) (e:=e0 (dz s)) (λj m hm=>⟨(Ua k m (by omega)).1 (by omega),(Ua k m (by omega)).2 (by omega)⟩) ((Ua k 30 (by omega)).1 (by omega)) (cX _) (show(0:Int)=30- ((30:Nat):Int) by decide) (c:= .text) (no:=true) rfl g (st:=(e0 (dz s)).st (dz s) [] false) ⟨false,rfl,λh=>absurd h (JL s)⟩;have i:(e0 (dz s)).st (dz s) [] false=(dz s,0,0,([]:aq),0,0,[],([]:bt),false):=by show(dz s,az (dz s) (dz s),(0:Int),([]:aq),(0:Int),(0:Int),([]:aa),([]:bt),false)=_;rw[I1]
 rw[i] at this;have l:sy.nP (dz s,0,0,([]:aq),0,0,[],([]:bt),false) [] [] false=E7 (kM k) (dz s,0,0,([]:aq),0,0,[],([]:bt),false) [] [] false:=by unfold sy;rw[hk];rfl
 rw[l];exact this
theorem aof{fr:Bool}{m:Nat}{u:aa}{k:Nat}{r:aa}{pd:aq}(hu:dx u)(d:u≠[])(h:hT fr m u= .ok k r pd):r=[]/\pd=[]:=by
 have e:=ajB h;subst e;refine⟨rfl,?_⟩;unfold hT at h;rw[Fq,uO] at h;obtain⟨b,r1,i,ad,f⟩:=b3 h;have a:=jC.1 ad;by_cases c:r1=[]
 ·subst c;rw[sE] at a;obtain⟨j,_,_⟩:=X1 _ _ _ _ _ _ (cX _) hu d a;grind[cH,R1,cO]
 ·have g:dx r1:=hu.ia (ar.lines.sfx a);exact(ajr fr m .text true _ _ _ _ _ _ (cX _) g c f).1
noncomputable def NI(c:Int):ah->Option (ah×Int):=λx=>
 (bif(!(decide (x.2.2.2.2.1=2))) then some ((x.1,x.2.1,x.2.2.1,x.2.2.2.1,x.2.2.2.2.1,(x.1.length:Int),x.2.2.2.2.2.2.1,x.2.2.2.2.2.2.2.1,x.2.2.2.2.2.2.2.2),c) else some ((x.1,x.2.1,x.2.2.1,x.2.2.2.1,x.2.2.2.2.1,x.2.2.2.2.2.1,x.2.2.2.2.2.2.1,x.2.2.2.2.2.2.2.1,x.2.2.2.2.2.2.2.2),c))
noncomputable def Gr(c:Int):ah->Option (ah×Int):=λx=>
 (bif(decide (x.2.2.2.2.1=1)) then(aw (vN x ([10]:aa)) λ(a:ah)=>NI c a) else NI c x)
theorem aog(s:aa):AK s=(aw (Ff s) λ(a:aa)=>
 (aw (sy.nP (a,0,0,([]:aq),0,0,[],([]:bt),false) ([]) ([]:bt) false) λy=>
 (bif(bif(decide (y.2.2.2.2.2.1=0)) then(bif y.2.2.2.2.2.2.2.2.2 then true else(decide (0<(y.2.2.2.2.1.length:Int)))) else false) then
 (aw (g_ y.2 ([])) λ(b:ah)=>Gr y.1 b) else Gr y.1 y.2))):=rfl
theorem aa6{e:cg}{r:aa}{nd:aa}{ds:aq}{st:ah}{c:Int}(o:e.S.length<=1000000)(hm:n8 e r nd ds st):∃y,Gr c st=some y/\y.1.2.2.2.2.1=1/\y.1.2.2.2.2.2.2.1=(cP nd ds [10]).1/\y.1.2.2.2.2.2.1=(e.S.length:Int):=by obtain⟨a,b,i,d,uW,f,g,op,tr⟩:=st;obtain⟨ad,j,k,l,p⟩:=hm;have h:=l.nd;have m:=l.s;simp only at ad j k h m;subst ad j k m;have q:=tK d;have n:vN (e.S,b,i,d,1,f,g,op,tr) [10]=some (e.S,b,i,(cP g d [10]).2,1,f,(cP g d [10]).1,op,tr):=C_ _ _ _ _ _ _ _ _ _ _ (by simp) (by grind) (by omega);unfold Gr;simp only[bA,aK];rw[n,aP rfl];exact⟨_,rfl,rfl,rfl,rfl⟩
theorem aoh{s:aa}(f:(dz s).length<=1000000):match hT true 30 (dz s) with
  | .ok a _ _=>∃st,AK s=some (st,(a:Int))/\st.2.2.2.2.1=0/\st.2.2.2.2.2.1=((dz s).length:Int)
  | .more _ nd ds=>∃st c,AK s=some (st,c)/\st.2.2.2.2.1=1/\st.2.2.2.2.2.2.1=(cP nd ds [10]).1/\st.2.2.2.2.2.1=((dz s).length:Int)
  |_=>∃st c,AK s=some (st,c)/\st.2.2.2.2.1=2:=by
 have hl:s.length<=(dz s).length:=by grind[dz]
 have h:=aoe f;rw[aog,aod s (by omega),aP rfl];have g:=(tJ true 30).ls .text true (dz s) [];obtain⟨b,p,h⟩:=h;obtain⟨c,st⟩:=b;rw[p,aP rfl];have t:(a1 true 30).ls .text true (dz s) []=hT true 30 (dz s):=rfl;rw[t] at g;cases aB:hT true 30 (dz s) with
 |ok a r pd=>rw[aB] at h;obtain⟨ad,C,⟨tr,i,u⟩,o⟩:=h;obtain⟨rfl,rfl⟩:=aof (Ub s) (JL s) aB;dsimp only at i o;have:=u rfl;subst this i o;exact⟨_,rfl,rfl,rfl⟩
 |more op nd ds=>
  rw[aB] at h g;simp only[ea] at g;dsimp only at h⊢;have v:et ([]:aq)=0:=rfl;rw[v] at g;rcases h with h|⟨_,rfl,i⟩
  ·have d:n8 (e0 (dz s)) (dz s) nd ds st:=h;rw[d.1];simp only[show¬((1:Int)=0) by decide,bF,aR];obtain⟨y,j,k,l,m⟩:=aa6 (c:=c) (e:=e0 (dz s)) f d;exact⟨y.1,y.2,j,k,l,m⟩
  ·subst i;have w:((e0 (dz s)).tt ds).2.2.2.2.1=0:=rfl;have n:((e0 (dz s)).tt ds).2.2.2.2.2.2.2.2=true:=rfl;rw[w,n];simp only[bA,aK];have z:cC (e0 (dz s)) (dz s) []:=⟨f,Ub s,JL s,fQ,by simp[e0,et,lM]⟩;obtain⟨D,A,B⟩:=Gg (pd:=ds) (x:=[]) z (by show _<=100*(dz s).length+800;omega) (by simp);rw[A,aP rfl];obtain⟨y,j,k,l,m⟩:=aa6 (c:=c) (e:=e0 (dz s)) f B;exact⟨y.1,y.2,j,k,l,m⟩
 |bad q=>rw[aB] at h;have d:iS (e0 (dz s)) (dz s) st:=h;dsimp only;rw[d.1];simp only[show¬((2:Int)=0) by decide,bF,aR];unfold Gr;rw[d.1];simp only[show¬((2:Int)=1) by decide,bF,aR];unfold NI;rw[d.1];simp
 |deep q=>rw[aB] at h;have d:iS (e0 (dz s)) (dz s) st:=h;dsimp only;rw[d.1];simp only[show¬((2:Int)=0) by decide,bF,aR];unfold Gr;rw[d.1];simp only[show¬((2:Int)=1) by decide,bF,aR];unfold NI;rw[d.1];simp
abbrev fh:=aa×Int×Int
structure fC(x0:aa)(st:fh):Prop where
 c:st.1=x0
 lo:0<=st.2.1
 a8:st.2.1<=x0.length
 b0:x0.length<=1048576
theorem NJ(a:Int):0<=W (((BitVec.ofInt (IntKind.bits .i64) a&&&BitVec.ofInt (IntKind.bits .i64) 255).toNat:Int))/\W (((BitVec.ofInt (IntKind.bits .i64) a&&&BitVec.ofInt (IntKind.bits .i64) 255).toNat:Int))<256:=by
 have h:(BitVec.ofInt (IntKind.bits .i64) a&&&BitVec.ofInt (IntKind.bits .i64) 255).toNat<256:=by grind[BitVec.ofInt,IntKind.bits,Nat.and_le_right]
 grind[dW]
theorem aoj{x0:aa}{st:fh}(h:fC x0 st):∃v e,yU st=some (v,e)/\0<=v/\v<256/\fC x0 e:=by
 obtain⟨a,b,c⟩:=st;obtain⟨rfl,ad,f,d⟩:=h;simp only at ad f d;unfold yU a_;dsimp only;by_cases hl:b<(a.length:Int)
 ·rw[decide_eq_true hl];simp only[aK];rw[b9 ⟨ad,hl⟩];have g:W (b+1)=b+1:=dW (by omega) (by omega);rw[g];exact⟨_,_,rfl,(NJ _).1,(NJ _).2,rfl,by grind,by grind,d⟩
 ·rw[e9 hl];simp only[aR];exact⟨_,_,rfl,(NJ _).1,(NJ _).2,rfl,ad,f,d⟩
theorem zo{x0:aa}{st:fh}(h:fC x0 st){n:Int}(ad:1<=n)(f:n<=256):∃v d,ln st n=some (v,d)/\0<=v/\v<n/\fC x0 d:=by unfold ln;obtain⟨v,d,g,i,j,e⟩:=aoj h;rw[e9 (show¬n<=0 by omega),decide_eq_true f];simp only[aR,aK];rw[g,aP rfl];dsimp only;rw[b9 (show n≠0 by omega)];refine⟨_,_,rfl,Int.tmod_nonneg _ i,Int.tmod_lt_of_pos _ (by omega),?_⟩;obtain⟨a,b,c⟩:=d;exact⟨h.c,e.lo,e.a8,e.b0⟩
theorem aok(x0:aa)(e:x0.length<=1048576):∃st,Fa x0=some st/\fC x0 (x0,st.2.1,st.2.2):=by
 have hl:∀(N:Nat)(a b:Int),0<=b->b<=4000->(4000-b)<N->∃c,fixF (L8 x0 (λf=>some (x0,0,f))) N (a,b)=some (x0,0,c):=by
  intro N;induction N with
  |zero=>omega
  |succ N g=>
   intro a b h0 ad h;rw[e5];unfold L8;dsimp only;by_cases d:b<(x0.length:Int)/\b<4000
   ·rw[decide_eq_true d.1,decide_eq_true d.2];simp only[aK];rw[b9 ⟨h0,d.1⟩];have i:W (b+1)=b+1:=dW (by omega) (by omega);rw[i];exact g _ _ (by omega) (by omega) (by omega)
   ·have:(bif decide (b<(x0.length:Int)) then decide (b<4000) else false)=false:=by grind
    rw[this];simp
 unfold Fa a_;obtain⟨c,aF⟩:=hl bC (W (600128+(x0.length:Int))) 0 (by omega) (by omega) (by simp[gi]);exact⟨_,aF,rfl,u9 0,by simp,e⟩
def Gs:bt:=[([97]:aa),([98,49]:aa),([120,61,49]:aa),([102,105,108,101]:aa),([195,169]:aa),([105,110]:aa),([97,35,98]:aa)]
def o_:bt:=[[39,113,32,114,39],[34,97,32,98,34],[97,92,32,98],[36,120],[36,40,40,49,43,40,50,41,41,41],[96,99,32,100,96],[45,108],[97,92,10,98]]++Gs
def sT:bt:=[([108,115]:aa),([101,99,104,111]:aa),([99,97,116]:aa),([120,61,49]:aa)]
def jE:bt:=[([32,38,38,32]:aa),([32,124,124,32]:aa),([32,124,32]:aa),([59,32]:aa),([32,38,32]:aa),([10]:aa),([32,124,10]:aa),([59,32,35,32,114,10]:aa)]
def aa7(L W:aa->Prop)(w:aa):Prop:=w∈o_\/(∃t,L t/\(w=[36,40]++t++[41]\/w=[34,120,36,40]++t++[41,34]))\/∃v,W v/\w=[36,123,120,58,45]++v++[125]
def jW(ws:bt):aa:=ws.flatMap (λw=>32::w)
def rW(W a:aa->Prop)(s:aa):Prop:=∃h ws r,h∈sT/\(∀w∈ws,W w)/\s=h++jW ws++r/\(r=[]\/r=[32,50,62,38,49]\/∃w,a w/\r=[32,62]++w)
def u5(L W:aa->Prop)(c:aa):Prop:=
 (∃t,L t/\c=[40]++t++[41])\/
 (∃t,L t/\c=[123,32]++(t++[10])++[125])\/
 (∃t u,L t/\L u/\c=[105,102,32]++(t++[59])++[32,116,104,101,110,32]++(u++[10])++[102,105])\/
 (∃t u,L t/\L u/\c=[105,102,32,97,59,32,116,104,101,110,10]++(t++[10])++[101,108,105,102,32,98,10,116,104,101,110,32,99,10,101,108,115,101,32]++(u++[59])++[102,105,32,50,62,102])\/
 (∃t u,L t/\L u/\c=[119,104,105,108,101,32]++(t++[10])++[100,111,32]++(u++[59])++[32,100,111,110,101])\/
 (∃w u,W w/\L u/\c=[102,111,114,32,120,32,105,110,32,97,32]++w++[59,32,100,111,32]++(u++[59])++[100,111,110,101])\/
 c=[102,111,114,32,120,10,100,111,32,97,10,100,111,110,101]\/
 (∃w u,W w/\L u/\c=[99,97,115,101,32]++w++[32,105,110,32,97,124,98,41,32]++(u++[])++[59,59,10,40,99,41,32,59,59,32,100,41,32,101,115,97,99])\/
 (∃t,L t/\c=[102,40,41,32,123,10]++(t++[10])++[125,32,62,102])
def cZ(l:List (aa×aa)):aa:=l.flatMap (λp=>p.1++p.2)
def u6(C:aa->Prop)(t:aa):Prop:=∃c rest,C c/\(∀p∈rest,p.1∈jE/\C p.2)/\t=c++cZ rest
def Bf:Nat->(aa->Prop)×(aa->Prop)
 |0=>(λw=>w∈o_,u6 (rW (λw=>w∈o_) (λw=>w∈o_)))
 |d+1=>(aa7 (Bf d).2 (Bf d).1,u6 λc=>rW (aa7 (Bf d).2 (Bf d).1) (λw=>w∈o_) c\/u5 (Bf d).2 (Bf d).1 c)
def hZ(d:Nat):aa->Prop:=(Bf d).1
def iv(d:Nat):aa->Prop:=(Bf d).2
def zp:Nat->aa->Prop
 |0=>rW (hZ 0) (hZ 0)
 |d+1=>λc=>rW (hZ (d+1)) (hZ 0) c\/u5 (iv d) (hZ d) c
theorem NK(d:Nat):iv d=u6 (zp d):=by cases d<;>rfl
theorem aa8{d:Nat}{w:aa}(h:w∈o_):hZ d w:=by
 cases d with
 |zero=>exact h
 |succ d=>exact .inl h
def lens:Nat->Nat×Nat
 |0=>(10,200)
 |d+1=>let w:=(lens d).2+(lens d).1+10;(w,3*(2*(lens d).2+(lens d).1+2*w+80)+20)
def lw(d:Nat):Nat:=(lens d).1
def pa(d:Nat):Nat:=(lens d).2
def lc:Nat->Nat
 |0=>60
 |d+1=>2*pa d+lw d+2*lw (d+1)+80
theorem Uc(d:Nat):lw (d+1)=pa d+lw d+10:=rfl
theorem aol(d:Nat):pa d=3*lc d+20:=by cases d<;>rfl
theorem qD{d:Nat}(h:d<=3):lw d<=40000/\pa d<=460000/\lc d<=160000/\10<=lw d:=by
 match d,h with
 |0,_=>decide
 |1,_=>decide
 |2,_=>decide
 |3,_=>decide
def pc(R:bk)(d:Nat):Prop:=∀(x0:aa)(st:fh),fC x0 st->∃t a,R.nQ st (d:Int)=some (t,a)/\hZ d t/\t.length<=lw d/\fC x0 a
def Dt(R:bk)(d:Nat):Prop:=∀(x0:aa)(st:fh)(sfx:aa),sfx.length<=1->fC x0 st->∃t a,R.ho st (d:Int) sfx=some (t++sfx,a)/\iv d t/\t.length<=pa d/\fC x0 a
theorem km{n:Nat}(h:n<=100000000):((n:Nat):Int)<=9223372036854775807:=by omega
theorem wu{d:Nat}(h:d<=3):W (((d+1:Nat):Int)-1)=(d:Int):=by grind[dW]
theorem at_mem{l:bt}{v:Int}(h0:0<=v)(ad:v<(l.length:Int)):at' l v∈l:=by grind[at']
theorem aa9:∀w∈o_,w.length<=10:=by decide
theorem fC.st{x0:aa}{st:fh}(h:fC x0 st):(x0,st.2.1,st.2.2)=st:=by rw[<-h.c]
noncomputable def NL(R:bk)(b:Int)(st:fh)(a:Int):Option (aa×fh):=
 (bif(decide (a=1)) then some (([39,113,32,114,39]:aa),st) else(bif(decide (a=2)) then some (([34,97,32,98,34]:aa),st) else(bif(decide (a=3)) then some (([97,92,32,98]:aa),st) else(bif(decide (a=4)) then some (([36,120]:aa),st) else(bif(decide (a=5)) then some (([36,40,40,49,43,40,50,41,41,41]:aa),st) else(bif(decide (a=6)) then some (([96,99,32,100,96]:aa),st) else(bif(decide (a=7)) then some (([45,108]:aa),st) else(bif(decide (a=8)) then(aw (R.ho st (W (b-1)) ([])) λ(c,g)=>(a9 (((([36,40]:aa).length+c.length:Nat):Int)<=9223372036854775807)<|(a9 ((((([36,40]:aa)++c).length+([41]:aa).length:Nat):Int)<=9223372036854775807)<|some (((([36,40]:aa)++c)++([41]:aa)),(st.1,g.2.1,g.2.2))))) else(bif(decide (a=9)) then(aw (R.ho st (W (b-1)) ([])) λ(d,h)=>(a9 (((([34,120,36,40]:aa).length+d.length:Nat):Int)<=9223372036854775807)<|(a9 ((((([34,120,36,40]:aa)++d).length+([41,34]:aa).length:Nat):Int)<=9223372036854775807)<|some (((([34,120,36,40]:aa)++d)++([41,34]:aa)),(st.1,h.2.1,h.2.2))))) else(bif(decide (a=10)) then(aw (R.nQ st (W (b-1))) λ(e,i)=>(a9 (((([36,123,120,58,45]:aa).length+e.length:Nat):Int)<=9223372036854775807)<|(a9 ((((([36,123,120,58,45]:aa)++e).length+([125]:aa).length:Nat):Int)<=9223372036854775807)<|some (((([36,123,120,58,45]:aa)++e)++([125]:aa)),(st.1,i.2.1,i.2.2))))) else(bif(decide (a=11)) then some (([97,92,10,98]:aa),st) else(aw (ln st 7) λ(f,j)=>(a9 (0<=f/\f<(([([97]:aa),([98,49]:aa),([120,61,49]:aa),([102,105,108,101]:aa),([195,169]:aa),([105,110]:aa),([97,35,98]:aa)]:bt).length:Int))<|some ((at' ([([97]:aa),([98,49]:aa),([120,61,49]:aa),([102,105,108,101]:aa),([195,169]:aa),([105,110]:aa),([97,35,98]:aa)]:bt) f),(st.1,j.2.1,j.2.2)))))))))))))))
theorem aom(R:bk)(x0:fh)(a:Int):IK R x0 a=aw (ln x0 14) λz=>(bif(bif(decide (a<=0)) then(decide (8<=z.1)) else false) then NL R a (x0.1,z.2.2.1,z.2.2.2) 0 else NL R a (x0.1,z.2.2.1,z.2.2.2) z.1):=rfl
theorem aon{R:bk}{d:Nat}(aE:d<=3)(bj:∀a,d=a+1->Dt R a/\pc R a){x0:aa}{st:fh}(h:fC x0 st){y:Int}(H:d=0->y<8):∃t c,NL R (d:Int) st y=some (t,c)/\hZ d t/\t.length<=lw d/\fC x0 c:=by
 obtain⟨I,J,K,F⟩:=qD aE
 have e:∀{w:aa},w∈o_->∃t c,(some (w,st):Option (aa×fh))=some (t,c)/\hZ d t/\t.length<=lw d/\fC x0 c:=λ{w} G=>⟨w,st,rfl,aa8 G,by grind[aa9],h⟩
 unfold NL;by_cases f:y=1
 ·simp only[f,bA,aK];exact e (by decide)
 by_cases i:y=2
 ·rw[e9 f];simp only[i,bA,aK,aR];exact e (by decide)
 by_cases k:y=3
 ·rw[e9 f,e9 i];simp only[k,bA,aK,aR];exact e (by decide)
 by_cases m:y=4
 ·rw[e9 f,e9 i,e9 k];simp only[m,bA,aK,aR];exact e (by decide)
 by_cases s:y=5
 ·rw[e9 f,e9 i,e9 k,e9 m];simp only[s,bA,aK,aR];exact e (by decide)
 by_cases z:y=6
 ·rw[e9 f,e9 i,e9 k,e9 m,e9 s];simp only[z,bA,aK,aR];exact e (by decide)
 by_cases B:y=7
 ·rw[e9 f,e9 i,e9 k,e9 m,e9 s,e9 z];simp only[B,bA,aK,aR];exact e (by decide)
 rw[e9 f,e9 i,e9 k,e9 m,e9 s,e9 z,e9 B];simp only[aR];by_cases o:y=8
 ·obtain⟨a,rfl⟩:∃a,d=a+1:=⟨d-1,by omega⟩
  obtain⟨t,c,j,g,u,b⟩:=(bj a rfl).1 x0 st [] (by simp) h;obtain⟨C,p,q,r⟩:=qD (d:=a) (by omega);simp only[o,bA,aK];rw[wu (by omega),j,aP rfl];dsimp only;rw[rl,b9 (km (by grind)),b9 (km (by grind)),h.c,b.st];refine⟨_,_,rfl,.inr (.inl ⟨t,g,.inl rfl⟩),?_,b⟩;grind[Uc]
 by_cases x:y=9
 ·obtain⟨a,rfl⟩:∃a,d=a+1:=⟨d-1,by omega⟩
  obtain⟨t,c,j,g,u,b⟩:=(bj a rfl).1 x0 st [] (by simp) h;obtain⟨C,p,q,r⟩:=qD (d:=a) (by omega);rw[e9 o];simp only[x,bA,aK,aR];rw[wu (by omega),j,aP rfl];dsimp only;rw[rl,b9 (km (by grind)),b9 (km (by grind)),h.c,b.st];refine⟨_,_,rfl,.inr (.inl ⟨t,g,.inr rfl⟩),?_,b⟩;grind[Uc]
 by_cases A:y=10
 ·obtain⟨a,rfl⟩:∃a,d=a+1:=⟨d-1,by omega⟩
  obtain⟨t,c,j,g,u,b⟩:=(bj a rfl).2 x0 st h;obtain⟨C,p,q,r⟩:=qD (d:=a) (by omega);rw[e9 o,e9 x];simp only[A,bA,aK,aR];rw[wu (by omega),j,aP rfl];dsimp only;rw[b9 (km (by grind)),b9 (km (by grind)),h.c,b.st];refine⟨_,_,rfl,.inr (.inr ⟨t,g,rfl⟩),?_,b⟩;grind[Uc]
 by_cases D:y=11
 ·rw[e9 o,e9 x,e9 A];simp only[D,bA,aK,aR];exact e (by decide)
 rw[e9 o,e9 x,e9 A,e9 D];simp only[aR];obtain⟨v,c,j,g,u,b⟩:=zo h (n:=7) (by decide) (by decide);rw[j,aP rfl];dsimp only;have hm:=at_mem (l:=Gs) g (by show v<((7:Nat):Int);omega);rw[b9 ⟨g,u⟩,h.c,b.st];have E:at' Gs v∈o_:=lB _ hm;exact⟨_,_,rfl,aa8 E,by have:=aa9 _ E;exact lQ this F,b⟩
theorem aoo{P:aa->Prop}{J:fh->Int->Option (aa×fh)}{d:Nat}{x0:aa}{st:fh}(h:fC x0 st)(c:∀st y,fC x0 st->(d=0->y<8)->∃t a,J st y=some (t,a)/\P t/\fC x0 a):∃t a,(aw (ln st 14) λz=>(bif(bif(decide ((d:Int)<=0)) then(decide (8<=z.1)) else false) then J (st.1,z.2.2.1,z.2.2.2) 0 else J (st.1,z.2.2.1,z.2.2.2) z.1))=some (t,a)/\P t/\fC x0 a:=by
 obtain⟨y,e,b,f,g,ad⟩:=zo h (n:=14) (by decide) (by decide);rw[b,aP rfl];dsimp only;rw[h.c,ad.st];cases i:(bif(decide ((d:Int)<=0)) then(decide (8<=y)) else false) with
 |true=>simp_all
 |false=>simp_all
theorem aop{R:bk}{d:Nat}(aE:d<=3)(bj:∀a,d=a+1->Dt R a/\pc R a){x0:aa}{st:fh}(h:fC x0 st):∃t b,IK R st (d:Int)=some (t,b)/\(hZ d t/\t.length<=lw d)/\fC x0 b:=by
 rw[aom]
 exact aoo h (λst y ad c=>by obtain⟨t,b,e,a2,a3,f⟩:=aon aE bj ad c;grind)
theorem abc(R:bk)(x:fh)(d:Int)(j:aa×Int×Int->Option (aa×fh))(k:aa×Int×Int×Int->Option (aa×fh))(s:aa)(c a b:Int):CF R x d j k (s,c,a,b)=bif(decide (0<c)) then
 (a9 (((s.length+([32]:aa).length:Nat):Int)<=9223372036854775807)<|(aw (R.nQ (x.1,a,b) d) λv=>(a9 ((((s++([32]:aa)).length+v.1.length:Nat):Int)<=9223372036854775807)<|k (((s++([32]:aa))++v.1),(W (c-1)),v.2.2.1,v.2.2.2)))) else j (s,a,b):=rfl
theorem xN(a b:aa)(c:a.length<=1000000)(d:b.length<=1000000):((a.length+b.length:Nat):Int)<=9223372036854775807:=km (by omega)
theorem aoq{R:bk}{x:fh}{d:Int}{j:aa×Int×Int->Option (aa×fh)}{k:aa×Int×Int×Int->Option (aa×fh)}{s:aa}{c:Nat}{x0:aa}{st a:fh}{t:aa}(aF:c<=10)(b:x.1=x0)(h:fC x0 st)(e:R.nQ st d=some (t,a))(i:s.length<=900000)(f:t.length<=1000000):
  CF R x d j k (s,((c+1:Nat):Int),st.2.1,st.2.2)=k (s++[32]++t,(c:Int),a.2.1,a.2.2):=by
 rw[abc,decide_eq_true (show(0:Int)<((c+1:Nat):Int) by omega),aK,b9 (xN s [32] (by omega) (by decide)),b,h.st,e,aP rfl,b9 (xN (s++[32]) t (by grind) f)];have g:W (((c+1:Nat):Int)-1)=(c:Int):=by grind[dW]
 rw[g]
theorem aor{R:bk}{d:Nat}(aE:d<=3)(hW:pc R d){x0:aa}{x:fh}(f:x.1=x0){j:aa×Int×Int->Option (aa×fh)}:∀(N c:Nat)(s:aa)(st:fh),c<N->c<=2->s.length<=100+(2-c) *40001->fC x0 st->
  ∃ws a,fixF (CF R x (d:Int) j) N (s,(c:Int),st.2.1,st.2.2)=j (s++jW ws,a.2.1,a.2.2)/\(∀w∈ws,hZ d w)/\(jW ws).length<=c*(lw d+1)/\fC x0 a:=by
 obtain⟨o,_,_,_⟩:=qD aE;intro N;induction N with
 |zero=>omega
 |succ N e=>
  intro c s st aF p q h;rw[e5];generalize fixF (CF R x (d:Int) j) N=k at e⊢;cases c with
  |zero=>rw[abc];refine⟨[],st,?_,by simp,by simp[jW],h⟩;simp[jW]
  |succ c=>
   obtain⟨t,g,i,r,u,l⟩:=hW x0 st h;have b:(s++[32]++t).length<=100+(2-c) *40001:=by grind
   rw[aoq (by omega) f h i (by omega) (by omega)];obtain⟨ws,a,m,a2,a3,n⟩:=e c (s++[32]++t) g (by omega) (by omega) b l;rw[m];refine⟨t::ws,a,?_,?_,?_,n⟩
   ·simp[jW]
   ·grind
   ·simp only[jW,List.flatMap_cons,xU,mA] at a3⊢;grind
noncomputable def Bg(c:aa)(n:Int)(s:aa)(st:fh):Option (aa×fh):=
 bif(decide (n=1)) then
 (a9 (((s.length+([32,50,62,38,49]:aa).length:Nat):Int)<=9223372036854775807)<|some ((s++([32,50,62,38,49]:aa)),(c,st.2.1,st.2.2)))
 else some (s,(c,st.2.1,st.2.2))
noncomputable def Du(R:bk)(c:aa)(s:aa)(st:fh):Option (aa×fh):=
 aw (ln (c,st.2.1,st.2.2) 8) λz=>
 bif(decide (z.1=0)) then
 (a9 (((s.length+([32,62]:aa).length:Nat):Int)<=9223372036854775807)<|(aw (R.nQ (c,z.2.2.1,z.2.2.2) 0) λv=>(a9 ((((s++([32,62]:aa)).length+v.1.length:Nat):Int)<=9223372036854775807)<|Bg c z.1 ((s++([32,62]:aa))++v.1) v.2)))
 else Bg c z.1 s z.2
theorem aos(R:bk)(x0:fh)(a:Int):CG R x0 a=(aw (ln x0 4) λz=>
 (a9 (0<=z.1/\z.1<((sT).length:Int))<|
 (aw (ln (x0.1,z.2.2.1,z.2.2.2) 3) λv=>
 (fixF (CF R x0 a (λy=>Du R x0.1 y.1 (x0.1,y.2.1,y.2.2))) bC ((at' sT z.1),v.1,v.2.2.1,v.2.2.2))))):=rfl
theorem aot{c:aa}{s:aa}{st:fh}(a:s.length<=1000000):Bg c 1 s st=some (s++[32,50,62,38,49],(c,st.2.1,st.2.2)):=by unfold Bg;rw[decide_eq_true rfl,aK,b9 (xN s [32,50,62,38,49] a (by decide))]
theorem abd{c:aa}{s:aa}{st:fh}{n:Int}(ax:¬n=1):Bg c n s st=some (s,(c,st.2.1,st.2.2)):=by simp_all[Bg]
theorem aou{R:bk}{x0:aa}{s t:aa}{st a b:fh}(h:fC x0 st)(ad:fC x0 a)(c:ln st 8=some (0,a))(d:R.nQ a 0=some (t,b))(f:s.length<=900000)(e:t.length<=1000000):Du R x0 s st=Bg x0 0 (s++[32,62]++t) b:=by unfold Du;rw[h.st,c,aP rfl];show(bif decide ((0:Int)=0) then _ else _)=_;rw[decide_eq_true rfl,aK,b9 (xN s [32,62] (by omega) (by decide))];show aw (R.nQ (x0,a.2.1,a.2.2) 0) _=_;rw[ad.st,d,aP rfl,b9 (xN (s++[32,62]) t (by grind) e)]
theorem aov{R:bk}{x0:aa}{s:aa}{st a:fh}{v:Int}(h:fC x0 st)(b:ln st 8=some (v,a))(c:¬v=0):Du R x0 s st=Bg x0 v s a:=by unfold Du;rw[h.st,b,aP rfl];grind
theorem aow{R:bk}{x0:aa}(e:pc R 0){s:aa}(f:s.length<=900000){st:fh}(h:fC x0 st):∃r b,Du R x0 s st=some (s++r,b)/\(r=[]\/r=[32,50,62,38,49]\/∃w,hZ 0 w/\r=[32,62]++w)/\r.length<=12/\fC x0 b:=by
 obtain⟨v,c,d,k,l,a⟩:=zo h (n:=8) (by decide) (by decide);by_cases h0:v=0
 ·subst h0;obtain⟨t,m,g,o,i,j⟩:=e x0 c a;have p:t.length<=10:=i;rw[aou h a d g f (by omega),abd (by decide),j.st];grind
 ·rw[aov h d h0];by_cases ad:v=1
  ·subst ad;rw[aot (by omega),a.st];grind
  ·rw[abd ad,a.st];exact⟨[],c,by simp,.inl rfl,by simp,a⟩
theorem aox:∀h∈sT,h.length<=4:=by decide
theorem aoy{R:bk}{d:Nat}(aE:d<=3)(hW:pc R d)(i:pc R 0){x0:aa}{st:fh}(h:fC x0 st):∃t a,CG R st (d:Int)=some (t,a)/\rW (hZ d) (hZ 0) t/\t.length<=2*lw d+20/\fC x0 a:=by
 obtain⟨C,_,_,_⟩:=qD aE;obtain⟨v,D,m,b,e,f⟩:=zo h (n:=4) (by decide) (by decide);rw[aos,m,aP rfl];dsimp only;rw[b9 ⟨b,e⟩,h.c,f.st];obtain⟨c,o,p,E,F,q⟩:=zo f (n:=3) (by decide) (by decide);rw[p,aP rfl];dsimp only;have hm:=at_mem (l:=sT) b e;have G:=aox _ hm
 obtain⟨k,rfl⟩:∃k:Nat,c=(k:Int):=⟨c.toNat,by omega⟩
 obtain⟨ws,H,u,a2,a3,g⟩:=aor aE hW (x:=st) h.c (j:=λy=>Du R x0 y.1 (x0,y.2.1,y.2.2)) bC k (at' sT v) o (by grind[gi]) (by omega) (by omega) q;rw[u];dsimp only;have hk:k*(lw d+1)<=2*(lw d+1):=qG _ (by omega);rw[g.st];obtain⟨r,w,z,A,I,B⟩:=aow i (s:=at' sT v++jW ws) (by grind) g;rw[z];exact⟨_,_,rfl,⟨_,ws,r,hm,a2,rfl,A⟩,by grind,B⟩
noncomputable def mR(R:bk)(a:Int)(st:fh)(b:Int):Option (aa×fh):=
 (bif(decide (b=1)) then(aw (R.ho st (W (a-1)) ([])) λ(h,p)=>(a9 (((([40]:aa).length+h.length:Nat):Int)<=9223372036854775807)<|(a9 ((((([40]:aa)++h).length+([41]:aa).length:Nat):Int)<=9223372036854775807)<|some (((([40]:aa)++h)++([41]:aa)),(st.1,p.2.1,p.2.2))))) else(bif(decide (b=2)) then(aw (R.ho st (W (a-1)) ([10]:aa)) λ(i,q)=>(a9 (((([123,32]:aa).length+i.length:Nat):Int)<=9223372036854775807)<|(a9 ((((([123,32]:aa)++i).length+([125]:aa).length:Nat):Int)<=9223372036854775807)<|some (((([123,32]:aa)++i)++([125]:aa)),(st.1,q.2.1,q.2.2))))) else(bif(decide (b=3)) then(aw (R.ho st (W (a-1)) ([59]:aa)) λ(c,r)=>(a9 (((([105,102,32]:aa).length+c.length:Nat):Int)<=9223372036854775807)<|(a9 ((((([105,102,32]:aa)++c).length+([32,116,104,101,110,32]:aa).length:Nat):Int)<=9223372036854775807)<|(aw (R.ho (st.1,r.2.1,r.2.2) (W (a-1)) ([10]:aa)) λ(j,s)=>(a9 (((((([105,102,32]:aa)++c)++([32,116,104,101,110,32]:aa)).length+j.length:Nat):Int)<=9223372036854775807)<|(a9 ((((((([105,102,32]:aa)++c)++([32,116,104,101,110,32]:aa))++j).length+([102,105]:aa).length:Nat):Int)<=9223372036854775807)<|some (((((([105,102,32]:aa)++c)++([32,116,104,101,110,32]:aa))++j)++([102,105]:aa)),(st.1,s.2.1,s.2.2)))))))) else(bif(decide (b=4)) then(aw (R.ho st (W (a-1)) ([10]:aa)) λ(d,t)=>(a9 (((([105,102,32,97,59,32,116,104,101,110,10]:aa).length+d.length:Nat):Int)<=9223372036854775807)<|(a9 ((((([105,102,32,97,59,32,116,104,101,110,10]:aa)++d).length+([101,108,105,102,32,98,10,116,104,101,110,32,99,10,101,108,115,101,32]:aa).length:Nat):Int)<=9223372036854775807)<|(aw (R.ho (st.1,t.2.1,t.2.2) (W (a-1)) ([59]:aa)) λ(k,u)=>(a9 (((((([105,102,32,97,59,32,116,104,101,110,10]:aa)++d)++([101,108,105,102,32,98,10,116,104,101,110,32,99,10,101,108,115,101,32]:aa)).length+k.length:Nat):Int)<=9223372036854775807)<|(a9 ((((((([105,102,32,97,59,32,116,104,101,110,10]:aa)++d)++([101,108,105,102,32,98,10,116,104,101,110,32,99,10,101,108,115,101,32]:aa))++k).length+([102,105,32,50,62,102]:aa).length:Nat):Int)<=9223372036854775807)<|some (((((([105,102,32,97,59,32,116,104,101,110,10]:aa)++d)++([101,108,105,102,32,98,10,116,104,101,110,32,99,10,101,108,115,101,32]:aa))++k)++([102,105,32,50,62,102]:aa)),(st.1,u.2.1,u.2.2)))))))) else(bif(decide (b=5)) then(aw (R.ho st (W (a-1)) ([10]:aa)) λ(e,v)=>(a9 (((([119,104,105,108,101,32]:aa).length+e.length:Nat):Int)<=9223372036854775807)<|(a9 ((((([119,104,105,108,101,32]:aa)++e).length+([100,111,32]:aa).length:Nat):Int)<=9223372036854775807)<|(aw (R.ho (st.1,v.2.1,v.2.2) (W (a-1)) ([59]:aa)) λ(l,w)=>(a9 (((((([119,104,105,108,101,32]:aa)++e)++([100,111,32]:aa)).length+l.length:Nat):Int)<=9223372036854775807)<|(a9 ((((((([119,104,105,108,101,32]:aa)++e)++([100,111,32]:aa))++l).length+([32,100,111,110,101]:aa).length:Nat):Int)<=9223372036854775807)<|some (((((([119,104,105,108,101,32]:aa)++e)++([100,111,32]:aa))++l)++([32,100,111,110,101]:aa)),(st.1,w.2.1,w.2.2)))))))) else(bif(decide (b=6)) then(aw (R.nQ st (W (a-1))) λ(f,x)=>(a9 (((([102,111,114,32,120,32,105,110,32,97,32]:aa).length+f.length:Nat):Int)<=9223372036854775807)<|(a9 ((((([102,111,114,32,120,32,105,110,32,97,32]:aa)++f).length+([59,32,100,111,32]:aa).length:Nat):Int)<=9223372036854775807)<|(aw (R.ho (st.1,x.2.1,x.2.2) (W (a-1)) ([59]:aa)) λ(m,y)=>(a9 (((((([102,111,114,32,120,32,105,110,32,97,32]:aa)++f)++([59,32,100,111,32]:aa)).length+m.length:Nat):Int)<=9223372036854775807)<|(a9 ((((((([102,111,114,32,120,32,105,110,32,97,32]:aa)++f)++([59,32,100,111,32]:aa))++m).length+([100,111,110,101]:aa).length:Nat):Int)<=9223372036854775807)<|some (((((([102,111,114,32,120,32,105,110,32,97,32]:aa)++f)++([59,32,100,111,32]:aa))++m)++([100,111,110,101]:aa)),(st.1,y.2.1,y.2.2)))))))) else(bif(decide (b=7)) then some (([102,111,114,32,120,10,100,111,32,97,10,100,111,110,101]:aa),st) else(bif(decide (b=8)) then(aw (R.nQ st (W (a-1))) λ(g,z)=>(a9 (((([99,97,115,101,32]:aa).length+g.length:Nat):Int)<=9223372036854775807)<|(a9 ((((([99,97,115,101,32]:aa)++g).length+([32,105,110,32,97,124,98,41,32]:aa).length:Nat):Int)<=9223372036854775807)<|(aw (R.ho (st.1,z.2.1,z.2.2) (W (a-1)) ([])) λ(n,A)=>(a9 (((((([99,97,115,101,32]:aa)++g)++([32,105,110,32,97,124,98,41,32]:aa)).length+n.length:Nat):Int)<=9223372036854775807)<|(a9 ((((((([99,97,115,101,32]:aa)++g)++([32,105,110,32,97,124,98,41,32]:aa))++n).length+([59,59,10,40,99,41,32,59,59,32,100,41,32,101,115,97,99]:aa).length:Nat):Int)<=9223372036854775807)<|some (((((([99,97,115,101,32]:aa)++g)++([32,105,110,32,97,124,98,41,32]:aa))++n)++([59,59,10,40,99,41,32,59,59,32,100,41,32,101,115,97,99]:aa)),(st.1,A.2.1,A.2.2)))))))) else(bif(decide (b=9)) then(aw (R.ho st (W (a-1)) ([10]:aa)) λ(o,B)=>(a9 (((([102,40,41,32,123,10]:aa).length+o.length:Nat):Int)<=9223372036854775807)<|(a9 ((((([102,40,41,32,123,10]:aa)++o).length+([125,32,62,102]:aa).length:Nat):Int)<=9223372036854775807)<|some (((([102,40,41,32,123,10]:aa)++o)++([125,32,62,102]:aa)),(st.1,B.2.1,B.2.2))))) else(aw (CG R st a) λ(D,C)=>some (D,(st.1,C.2.1,C.2.2))))))))))))
theorem aoz(R:bk)(x0:fh)(a:Int):vS R x0 a=aw (ln x0 16) λz=>(bif(decide (a<=0)) then mR R a (x0.1,z.2.2.1,z.2.2.2) 0 else mR R a (x0.1,z.2.2.1,z.2.2.2) z.1):=rfl
section
variable{R:bk}{d:Nat}(aE:d+1<=3)(bj:Dt R d)(hW:pc R d){x0:aa}{st:fh}(h:fC x0 st)
include aE bj hW h
theorem aoA:∃t a,mR R ((d+1:Nat):Int) st 1=some (t,a)/\u5 (iv d) (hZ d) t/\t.length<=2*pa d+lw d+80/\fC x0 a:=by obtain⟨g,i,j,k⟩:=qD (d:=d) (by omega);have b:=wu (d:=d) (by omega);obtain⟨c,s1,e,f,l,r1⟩:=bj x0 st [] (by decide) h;unfold mR;rw[show decide ((1:Int)=1)=true from rfl,aK,b,e,aP rfl];dsimp only;rw[b9 (km (by grind)),b9 (km (by grind)),h.c,r1.st];refine⟨_,_,rfl,.inl ⟨c,f,by simp⟩,by grind,r1⟩
theorem aoB:∃t a,mR R ((d+1:Nat):Int) st 2=some (t,a)/\u5 (iv d) (hZ d) t/\t.length<=2*pa d+lw d+80/\fC x0 a:=by obtain⟨g,i,j,k⟩:=qD (d:=d) (by omega);have b:=wu (d:=d) (by omega);obtain⟨c,s1,e,f,l,r1⟩:=bj x0 st [10] (by decide) h;unfold mR;rw[show decide ((2:Int)=1)=false from rfl,aR];rw[show decide ((2:Int)=2)=true from rfl,aK,b,e,aP rfl];dsimp only;rw[b9 (km (by grind)),b9 (km (by grind)),h.c,r1.st];refine⟨_,_,rfl,.inr (.inl ⟨c,f,rfl⟩),by grind,r1⟩
theorem aoC:∃t a,mR R ((d+1:Nat):Int) st 3=some (t,a)/\u5 (iv d) (hZ d) t/\t.length<=2*pa d+lw d+80/\fC x0 a:=by obtain⟨l,m,n,o⟩:=qD (d:=d) (by omega);have c:=wu (d:=d) (by omega);obtain⟨e,s1,f,g,p,r1⟩:=bj x0 st [59] (by decide) h;obtain⟨i,s2,j,k,q,b⟩:=bj x0 s1 [10] (by decide) r1;unfold mR;rw[show decide ((3:Int)=1)=false from rfl,aR];rw[show decide ((3:Int)=2)=false from rfl,aR];rw[show decide ((3:Int)=3)=true from rfl,aK,c,f,aP rfl];dsimp only;rw[b9 (km (by grind)),b9 (km (by grind)),h.c,r1.st];rw[j,aP rfl];dsimp only;rw[b9 (km (by grind)),b9 (km (by grind)),b.st];refine⟨_,_,rfl,.inr (.inr (.inl ⟨e,i,g,k,rfl⟩)),by grind,b⟩
theorem aoD:∃t a,mR R ((d+1:Nat):Int) st 4=some (t,a)/\u5 (iv d) (hZ d) t/\t.length<=2*pa d+lw d+80/\fC x0 a:=by obtain⟨l,m,n,o⟩:=qD (d:=d) (by omega);have c:=wu (d:=d) (by omega);obtain⟨e,s1,f,g,p,r1⟩:=bj x0 st [10] (by decide) h;obtain⟨i,s2,j,k,q,b⟩:=bj x0 s1 [59] (by decide) r1;unfold mR;rw[show decide ((4:Int)=1)=false from rfl,aR];rw[show decide ((4:Int)=2)=false from rfl,aR];rw[show decide ((4:Int)=3)=false from rfl,aR];rw[show decide ((4:Int)=4)=true from rfl,aK,c,f,aP rfl];dsimp only;rw[b9 (km (by grind[List.length_cons])),b9 (km (by grind[List.length_cons])),h.c,r1.st];rw[j,aP rfl];dsimp only;rw[b9 (km (by grind[List.length_cons])),b9 (km (by grind[List.length_cons])),b.st];refine⟨_,_,rfl,.inr (.inr (.inr (.inl ⟨e,i,g,k,rfl⟩))),by grind[List.length_cons],b⟩
theorem aoE:∃t a,mR R ((d+1:Nat):Int) st 5=some (t,a)/\u5 (iv d) (hZ d) t/\t.length<=2*pa d+lw d+80/\fC x0 a:=by obtain⟨l,m,n,o⟩:=qD (d:=d) (by omega);have c:=wu (d:=d) (by omega);obtain⟨e,s1,f,g,p,r1⟩:=bj x0 st [10] (by decide) h;obtain⟨i,s2,j,k,q,b⟩:=bj x0 s1 [59] (by decide) r1;unfold mR;rw[show decide ((5:Int)=1)=false from rfl,aR];rw[show decide ((5:Int)=2)=false from rfl,aR];rw[show decide ((5:Int)=3)=false from rfl,aR];rw[show decide ((5:Int)=4)=false from rfl,aR];rw[show decide ((5:Int)=5)=true from rfl,aK,c,f,aP rfl];dsimp only;rw[b9 (km (by grind)),b9 (km (by grind)),h.c,r1.st];rw[j,aP rfl];dsimp only;rw[b9 (km (by grind)),b9 (km (by grind)),b.st];refine⟨_,_,rfl,.inr (.inr (.inr (.inr (.inl ⟨e,i,g,k,rfl⟩)))),by grind,b⟩
theorem aoF:∃t a,mR R ((d+1:Nat):Int) st 6=some (t,a)/\u5 (iv d) (hZ d) t/\t.length<=2*pa d+lw d+80/\fC x0 a:=by obtain⟨l,m,n,o⟩:=qD (d:=d) (by omega);have c:=wu (d:=d) (by omega);obtain⟨e,s1,f,g,p,r1⟩:=hW x0 st h;obtain⟨i,s2,j,k,q,b⟩:=bj x0 s1 [59] (by decide) r1;unfold mR;rw[show decide ((6:Int)=1)=false from rfl,aR];rw[show decide ((6:Int)=2)=false from rfl,aR];rw[show decide ((6:Int)=3)=false from rfl,aR];rw[show decide ((6:Int)=4)=false from rfl,aR];rw[show decide ((6:Int)=5)=false from rfl,aR];rw[show decide ((6:Int)=6)=true from rfl,aK,c,f,aP rfl];dsimp only;rw[b9 (km (by grind[List.length_cons])),b9 (km (by grind[List.length_cons])),h.c,r1.st];rw[j,aP rfl];dsimp only;rw[b9 (km (by grind[List.length_cons])),b9 (km (by grind[List.length_cons])),b.st];refine⟨_,_,rfl,.inr (.inr (.inr (.inr (.inr (.inl ⟨e,i,g,k,rfl⟩))))),by grind[List.length_cons],b⟩
theorem aoG:∃t a,mR R ((d+1:Nat):Int) st 8=some (t,a)/\u5 (iv d) (hZ d) t/\t.length<=2*pa d+lw d+80/\fC x0 a:=by obtain⟨l,m,n,o⟩:=qD (d:=d) (by omega);have c:=wu (d:=d) (by omega);obtain⟨e,s1,f,g,p,r1⟩:=hW x0 st h;obtain⟨i,s2,j,k,q,b⟩:=bj x0 s1 [] (by decide) r1;unfold mR;rw[show decide ((8:Int)=1)=false from rfl,aR];rw[show decide ((8:Int)=2)=false from rfl,aR];rw[show decide ((8:Int)=3)=false from rfl,aR];rw[show decide ((8:Int)=4)=false from rfl,aR];rw[show decide ((8:Int)=5)=false from rfl,aR];rw[show decide ((8:Int)=6)=false from rfl,aR];rw[show decide ((8:Int)=7)=false from rfl,aR];rw[show decide ((8:Int)=8)=true from rfl,aK,c,f,aP rfl];dsimp only;rw[b9 (km (by grind)),b9 (km (by grind)),h.c,r1.st];rw[j,aP rfl];dsimp only;rw[b9 (km (by grind[List.length_cons])),b9 (km (by grind[List.length_cons])),b.st];refine⟨_,_,rfl,.inr (.inr (.inr (.inr (.inr (.inr (.inr (.inl ⟨e,i,g,k,rfl⟩))))))),by grind[List.length_cons],b⟩
theorem aoH:∃t a,mR R ((d+1:Nat):Int) st 9=some (t,a)/\u5 (iv d) (hZ d) t/\t.length<=2*pa d+lw d+80/\fC x0 a:=by obtain⟨g,i,j,k⟩:=qD (d:=d) (by omega);have b:=wu (d:=d) (by omega);obtain⟨c,s1,e,f,l,r1⟩:=bj x0 st [10] (by decide) h;unfold mR;rw[show decide ((9:Int)=1)=false from rfl,aR];rw[show decide ((9:Int)=2)=false from rfl,aR];rw[show decide ((9:Int)=3)=false from rfl,aR];rw[show decide ((9:Int)=4)=false from rfl,aR];rw[show decide ((9:Int)=5)=false from rfl,aR];rw[show decide ((9:Int)=6)=false from rfl,aR];rw[show decide ((9:Int)=7)=false from rfl,aR];rw[show decide ((9:Int)=8)=false from rfl,aR];rw[show decide ((9:Int)=9)=true from rfl,aK,b,e,aP rfl];dsimp only;rw[b9 (km (by grind)),b9 (km (by grind)),h.c,r1.st];refine⟨_,_,rfl,.inr (.inr (.inr (.inr (.inr (.inr (.inr (.inr ⟨c,f,rfl⟩))))))),by grind,r1⟩
theorem aoI:∃t a,mR R ((d+1:Nat):Int) st 7=some (t,a)/\u5 (iv d) (hZ d) t/\t.length<=2*pa d+lw d+80/\fC x0 a:=
 ⟨_,st,rfl,.inr (.inr (.inr (.inr (.inr (.inr (.inl rfl)))))),by simp,h⟩
end
theorem aoJ{R:bk}{a:Int}{st:fh}{y:Int}(h:¬(1<=y/\y<=9)):mR R a st y=aw (CG R st a) λz=>some (z.1,(st.1,z.2.2.1,z.2.2.2)):=by unfold mR;rw[e9 (show¬y=1 by omega),e9 (show¬y=2 by omega),e9 (show¬y=3 by omega),e9 (show¬y=4 by omega),e9 (show¬y=5 by omega),e9 (show¬y=6 by omega),e9 (show¬y=7 by omega),e9 (show¬y=8 by omega),e9 (show¬y=9 by omega)];simp
theorem abe{R:bk}{d:Nat}(aE:d<=3)(hW:pc R d)(b:pc R 0){x0:aa}{st:fh}(h:fC x0 st){y:Int}(c:¬(1<=y/\y<=9)):∃t a,mR R (d:Int) st y=some (t,a)/\rW (hZ d) (hZ 0) t/\t.length<=2*lw d+20/\fC x0 a:=by rw[aoJ c];obtain⟨t,a,e,g,i,f⟩:=aoy aE hW b h;rw[e,aP rfl];dsimp only;rw[h.c,f.st];grind
theorem aoK{R:bk}{d:Nat}(aE:d+1<=3)(bj:Dt R d)(f:pc R d)(hW:pc R (d+1))(g:pc R 0){x0:aa}{st:fh}(h:fC x0 st)(y:Int):∃t a,mR R ((d+1:Nat):Int) st y=some (t,a)/\zp (d+1) t/\t.length<=lc (d+1)/\fC x0 a:=by
 have k:lc (d+1)=2*pa d+lw d+2*lw (d+1)+80:=rfl;by_cases i:1<=y/\y<=9
 ·have aF:∃t a,mR R ((d+1:Nat):Int) st y=some (t,a)/\u5 (iv d) (hZ d) t/\t.length<=2*pa d+lw d+80/\fC x0 a:=by
   have:y=1\/y=2\/y=3\/y=4\/y=5\/y=6\/y=7\/y=8\/y=9:=by omega
   rcases this with rfl|rfl|rfl|rfl|rfl|rfl|rfl|rfl|rfl
   ·grind[aoA]
   ·grind[aoB]
   ·grind[aoC]
   ·grind[aoD]
   ·grind[aoE]
   ·grind[aoF]
   ·grind[aoI]
   ·grind[aoG]
   grind[aoH]
  obtain⟨t,a,b,c,j,e⟩:=aF;exact⟨t,a,b,.inr c,by omega,e⟩
 ·obtain⟨t,a,b,c,j,e⟩:=abe aE hW g h i;exact⟨t,a,b,.inl c,by omega,e⟩
theorem aoL{P:aa->Prop}{J:fh->Int->Option (aa×fh)}{d:Nat}{x0:aa}{st:fh}(h:fC x0 st)(c:∀st y,fC x0 st->(d=0->y=0)->∃t a,J st y=some (t,a)/\P t/\fC x0 a):∃t a,(aw (ln st 16) λz=>(bif(decide ((d:Int)<=0)) then J (st.1,z.2.2.1,z.2.2.2) 0 else J (st.1,z.2.2.1,z.2.2.2) z.1))=some (t,a)/\P t/\fC x0 a:=by
 obtain⟨y,e,b,f,g,ad⟩:=zo h (n:=16) (by decide) (by decide);rw[b,aP rfl];dsimp only;rw[h.c,ad.st];by_cases aE:(d:Int)<=0
 ·simp_all
 simp_all
theorem abf{R:bk}{d:Nat}(aE:d<=3)(bj:∀b,d=b+1->Dt R b/\pc R b)(hW:pc R d)(c:pc R 0){x0:aa}{st:fh}(h:fC x0 st):∃t a,vS R st (d:Int)=some (t,a)/\(zp d t/\t.length<=lc d)/\fC x0 a:=by
 rw[aoz];refine aoL h (λst y ad i=>?_);cases d with
 |zero=>have:=i rfl;subst this;obtain⟨t,a,e,f,j,g⟩:=abe aE hW c ad (y:=0) (by omega);have:lw 0=10:=rfl;exact⟨t,a,e,⟨f,by show _<=60;omega⟩,g⟩
 |succ d=>obtain⟨t,a,e,f,j,g⟩:=aoK aE (bj d rfl).1 (bj d rfl).2 hW c ad y;grind
theorem abg(R:bk)(x:fh)(d:Int)(j:aa×Int×Int->Option (aa×fh))(k:aa×Int×Int×Int->Option (aa×fh))(s:aa)(c a b:Int):CH R x d j k (s,c,a,b)=bif(decide (0<c)) then
 (aw (ln (x.1,a,b) 8) λz=>(a9 (0<=z.1/\z.1<(jE.length:Int))<|(a9 (((s.length+(at' jE z.1).length:Nat):Int)<=9223372036854775807)<|(aw (vS R (x.1,z.2.2.1,z.2.2.2) d) λv=>(a9 ((((s++(at' jE z.1)).length+v.1.length:Nat):Int)<=9223372036854775807)<|k (((s++(at' jE z.1))++v.1),(W (c-1)),v.2.2.1,v.2.2.2)))))) else j (s,a,b):=rfl
theorem aoM:∀h∈jE,h.length<=6:=by decide
theorem aoN{R:bk}{x:fh}{d:Int}{j:aa×Int×Int->Option (aa×fh)}{k:aa×Int×Int×Int->Option (aa×fh)}{s:aa}{c:Nat}{x0:aa}{st a b:fh}{t:aa}{v:Int}(aF:c<=10)(e:x.1=x0)(h:fC x0 st)(ad:fC x0 a)(f:ln st 8=some (v,a))(g:0<=v/\v<(jE.length:Int))(n:(at' jE v).length<=6)(i:vS R a d=some (t,b))(o:s.length<=900000)(l:t.length<=1000000):
  CH R x d j k (s,((c+1:Nat):Int),st.2.1,st.2.2)=k (s++at' jE v++t,(c:Int),b.2.1,b.2.2):=by
 rw[abg,decide_eq_true (show(0:Int)<((c+1:Nat):Int) by omega),aK,e,h.st,f,aP rfl];show a9 (0<=v/\v<(jE.length:Int)) _=_;rw[b9 g];show a9 (((s.length+(at' jE v).length:Nat):Int)<=9223372036854775807) (aw (vS R (x0,a.2.1,a.2.2) d) _)=_;rw[b9 (xN s (at' jE v) (by omega) (by omega)),ad.st,i,aP rfl,b9 (xN (s++at' jE v) t (by grind) l)];have m:W (((c+1:Nat):Int)-1)=(c:Int):=by grind[dW]
 rw[m]
theorem aoO{R:bk}{d:Nat}(aE:d<=3)(m:∀{x0:aa}{st:fh},fC x0 st->∃t a,vS R st (d:Int)=some (t,a)/\(zp d t/\t.length<=lc d)/\fC x0 a){x0:aa}{x:fh}(o:x.1=x0){j:aa×Int×Int->Option (aa×fh)}:∀(N c:Nat)(s:aa)(st:fh),c<N->c<=2->s.length<=200000+(2-c) *160010->fC x0 st->
  ∃l a,fixF (CH R x (d:Int) j) N (s,(c:Int),st.2.1,st.2.2)=j (s++cZ l,a.2.1,a.2.2)/\(∀p∈l,p.1∈jE/\zp d p.2)/\(cZ l).length<=c*(lc d+6)/\fC x0 a:=by
 obtain⟨_,_,B,_⟩:=qD aE;intro N;induction N with
 |zero=>omega
 |succ N e=>
  intro c s st aF C D h;rw[e5];generalize fixF (CH R x (d:Int) j) N=k at e⊢;cases c with
  |zero=>rw[abg];refine⟨[],st,?_,by simp,by simp[cZ],h⟩;simp[cZ]
  |succ c=>
   obtain⟨v,E,q,f,g,i⟩:=zo h (n:=8) (by decide) (by decide);have hm:=at_mem (l:=jE) f g;have r:=aoM _ hm;obtain⟨t,u,w,⟨F,G⟩,y⟩:=m i;have b:(s++at' jE v++t).length<=200000+(2-c) *160010:=by grind
   rw[aoN (by omega) o h i q ⟨f,g⟩ r w (by omega) (by omega)];obtain⟨l,a,z,a2,a3,A⟩:=e c (s++at' jE v++t) u (by omega) (by omega) b y;rw[z];refine⟨(at' jE v,t)::l,a,?_,?_,?_,A⟩
   ·simp[cZ]
   ·grind
   grind[cZ]
theorem aoP(R:bk)(x0:fh)(a:Int)(sfx:aa):II R x0 a sfx=aw (vS R x0 a) λy=>aw (ln (x0.1,y.2.2.1,y.2.2.2) 3) λv=>
 fixF (CH R x0 a (λz=>a9 (((z.1.length+sfx.length:Nat):Int)<=9223372036854775807)<|some ((z.1++sfx),(x0.1,z.2.1,z.2.2)))) bC (y.1,v.1,v.2.2.1,v.2.2.2):=rfl
theorem aoQ{R:bk}{d:Nat}(aE:d<=3)(bj:∀b,d=b+1->Dt R b/\pc R b)(hW:pc R d)(f:pc R 0){x0:aa}{st:fh}{sfx:aa}(w:sfx.length<=1)(h:fC x0 st):∃t a,II R st (d:Int) sfx=some (t++sfx,a)/\iv d t/\t.length<=pa d/\fC x0 a:=by
 obtain⟨_,_,y,_⟩:=qD aE;obtain⟨t,g,o,⟨p,A⟩,i⟩:=abf aE bj hW f h;obtain⟨v,q,r,B,C,s⟩:=zo i (n:=3) (by decide) (by decide)
 obtain⟨k,rfl⟩:∃k:Nat,v=(k:Int):=⟨v.toNat,by omega⟩
 obtain⟨l,c,u,a2,a3,m⟩:=aoO aE (λh=>abf aE bj hW f h) (x:=st) h.c (j:=λz=>a9 (((z.1.length+sfx.length:Nat):Int)<=9223372036854775807)<|some ((z.1++sfx),(x0,z.2.1,z.2.2))) bC k t q (by grind[gi]) (by omega) (by omega) s;have hk:k*(lc d+6)<=2*(lc d+6):=qG _ (by omega);rw[aoP,o,aP rfl,h.c];show∃e a,(aw (ln (x0,g.2.1,g.2.2) 3) _)=some (e++sfx,a)/\_
 rw[i.st,r,aP rfl,u];have D:=aol d;refine⟨t++cZ l,c,?_,?_,by grind,m⟩
 ·show a9 ((((t++cZ l).length+sfx.length:Nat):Int)<=9223372036854775807) (some ((t++cZ l++sfx),(x0,c.2.1,c.2.2)))=_;rw[b9 (xN _ _ (by grind) (by omega)),m.st]
 ·rw[NK];exact⟨t,l,p,a2,rfl⟩
theorem aoR:∀(k d:Nat),d<=3->(2*d+1<=k->pc (kM k) d)/\(2*d+2<=k->Dt (kM k) d):=by
 intro k;induction k with
 |zero=>omega
 |succ k a=>
  intro d aE;refine⟨λh x0 st c=>?_,λh x0 st sfx e c=>?_⟩
  ·obtain⟨t,f,g,⟨i,j⟩,l⟩:=aop (R:=kM k) aE (λb m=>⟨(a b (by omega)).2 (by omega),(a b (by omega)).1 (by omega)⟩) c;exact⟨t,f,g,i,j,l⟩
  ·exact aoQ (R:=kM k) aE (λb m=>⟨(a b (by omega)).2 (by omega),(a b (by omega)).1 (by omega)⟩) ((a d aE).1 (by omega)) ((a 0 (by omega)).1 (by omega)) e c
theorem aoS{x0:aa}{st:fh}{sfx:aa}(b:sfx.length<=1)(h:fC x0 st):∃t a,sy.ho st 3 sfx=some (t++sfx,a)/\iv 3 t/\t.length<=pa 3/\fC x0 a:=by
 have hk:8<=bC:=by simp[gi]
 exact(aoR bC 3 (by omega)).2 hk x0 st sfx b h
def rX:aa:=[99,97,116,32,60,60,69,59,32]
def mz:aa:=[10,98,111,100,121,10,69,10]
noncomputable def Gt(c:aa)(t:aa):(Int×fh)->Option aa:=λz=>
 (bif(decide (z.1=0)) then(a9 (((rX.length+t.length:Nat):Int)<=9223372036854775807)<|(a9 ((((rX++t).length+mz.length:Nat):Int)<=9223372036854775807)<|some ((rX++t)++mz))) else some t)
theorem mk_eq(x0:aa):Fb x0=aw (Fa x0) λa=>aw (sy.ho (x0,a.2.1,a.2.2) 3 []) λv=>aw (ln (x0,v.2.2.1,v.2.2.2) 4) λz=>Gt x0 v.1 z:=rfl
theorem aoT{c t:aa}{st:fh}(a:t.length<=900000):Gt c t (0,st)=some (rX++t++mz):=by unfold Gt;show(bif decide ((0:Int)=0) then _ else _)=_;rw[decide_eq_true rfl,aK,b9 (xN rX t (by decide) (by omega)),b9 (xN (rX++t) mz (by simp only[xU];have:rX.length=9:=rfl;omega) (by decide))]
theorem aoU{c t:aa}{v:Int}{st:fh}(a:¬v=0):Gt c t (v,st)=some t:=by unfold Gt;grind
theorem aoV(x0:aa)(f:x0.length<=1048576):∃t T,Fb x0=some T/\iv 3 t/\t.length<=460000/\(T=t\/T=rX++t++mz):=by
 obtain⟨st,g,ad⟩:=aok x0 f;obtain⟨t,a,b,j,k,c⟩:=aoS (sfx:=[]) (by decide) ad;rw[rl] at b;obtain⟨v,l,h,a2,a3,m⟩:=zo c (n:=4) (by decide) (by decide);have hl:pa 3<=460000:=(qD (d:=3) (by decide)).2.1;rw[mk_eq,g,aP rfl,b,aP rfl];show∃i T,(aw (ln (x0,a.2.1,a.2.2) 4) λz=>Gt x0 t z)=some T/\_
 rw[c.st,h,aP rfl];by_cases e:v=0
 ·subst e;rw[aoT (by omega)];grind
 ·rw[aoU e];grind
end Go.Eng
namespace Go.Eng
structure fw where
 E:lx
 ok:E.mW
 c0:Nat
def bX(X:fw)(P:aa->Prop)(pd:aq){α:Type}:dw α->Prop
 | .ok _ r' a=>(P r'/\a=pd)\/X.E.H X.c0 r' a
 | .deep _=>False
 |_=>True
theorem lx.H.NM{E:lx}{n m:Nat}{r:aa}{pd:aq}(h:E.H n r pd)(hm:n<=m):E.H m r pd:=⟨h.sfx,by have:=h.le;omega,h.q⟩
theorem bX.Ud{X:fw}{P:aa->Prop}{b:aq}{α:Type}{n:Nat}(ax:X.c0<=n){f:ak α}(hf:aj X.E n f){r:aa}{pd:aq}(h:X.E.H X.c0 r pd):bX X P b (f r pd):=by
 have:=hf r pd (h.NM ax);cases hm:f r pd with
 |ok a r' c=>rw[hm] at this;exact .inr (h.down X.ok this.1 this.2)
 |more _ _ _=>trivial
 |bad _=>trivial
 |deep _=>rw[hm] at this;exact this
theorem bX.ae{X:fw}{P c:aa->Prop}{pd b:aq}{α β:Type}{n:Nat}(ax:X.c0<=n){m:ak α}{k:α->ak β}{r:aa}(h:bX X P pd (m r b))(hk:∀a r',m r b= .ok a r' pd->P r'->bX X c pd (k a r' pd))(he:∀a,aj X.E n (k a)):bX X c pd (Go.Eng.ae m k r b):=by
 unfold Go.Eng.ae;cases hm:m r b with
 |ok a r' d=>
  rw[hm] at h;rcases h with⟨ad,rfl⟩|ad
  ·grind
  grind[bX.Ud]
 |more _ _ _=>trivial
 |bad _=>trivial
 |deep _=>rw[hm] at h;exact h
theorem bX.imp{X:fw}{P b:aa->Prop}{pd:aq}{α:Type}{x:dw α}(h:bX X P pd x)(aB:∀r,P r->b r):bX X b pd x:=by
 cases x with
 |ok a r' d=>
  rcases h with⟨ad,c⟩|ad
  ·exact .inl ⟨aB _ ad,c⟩
  ·exact .inr ad
 |more _ _ _=>trivial
 |bad _=>trivial
 |deep _=>exact h
theorem bX.aM{X:fw}{P:aa->Prop}{pd a:aq}{α:Type}{m:ak α}{x r:aa}(h:bX X P pd (m r a)):bX X P pd (m.aM x r a):=by unfold ak.aM;cases hm:m r a<;>rw[hm] at h<;>first|exact h|trivial
theorem bX.named{X:fw}{P:aa->Prop}{pd a:aq}{α:Type}{m:ak α}{x r:aa}(h:bX X P pd (m r a)):bX X P pd (m.named x r a):=by unfold ak.named;cases hm:m r a<;>rw[hm] at h<;>first|exact h|trivial
def oH(X:fw){α:Type}(x:dw α):Prop:=match x with
 | .ok _ r' a=>X.E.H X.c0 r' a
 | .deep _=>False
 |_=>True
def jF(X:fw){α:Type}(x y:dw α):Prop:=x=y\/oH X x
theorem jF.refl{X:fw}{α:Type}(x:dw α):jF X x x:= .inl rfl
theorem jF.trans{X:fw}{α:Type}{x y z:dw α}(h:jF X x y)(a:jF X y z):jF X x z:=by
 rcases h with rfl|h
 ·exact a
 ·exact .inr h
theorem jF.JO{X:fw}{P:aa->Prop}{pd:aq}{α:Type}{x y:dw α}(h:jF X x y)(b:bX X P pd y):bX X P pd x:=by
 rcases h with rfl|h
 ·exact b
 ·cases x with
  |ok a r' c=>exact .inr h
  |more _ _ _=>trivial
  |bad _=>trivial
  |deep _=>exact h
theorem jF.rep{X:fw}{σ α:Type}{n:Nat}(ax:X.c0<=n){f:σ->ak (σ⊕α)}(hf:∀s,aj X.E n (f s)){s s':σ}{r v:aa}{pd:aq}(hl:v.length<r.length)
  (h:f s r pd= .ok (.inl s') v pd\/oH X (f s r pd)):jF X (cb f s r pd) (cb f s' v pd):=by
 rw[cH f s r pd];rcases h with h|h
 ·rw[h];left;show(if v.length<r.length then cb f s' v pd else .bad v)=_;grind
 ·right;cases hm:f s r pd with
  |ok x r' b=>
   rw[hm] at h;cases x with
   |inl s2=>
    unfold cO;simp only;by_cases ad:r'.length<r.length
    ·rw[bo ad];have:=aj.rep X.ok hf s2 r' b (h.NM ax);cases c:cb f s2 r' b with
     |ok a d e=>rw[c] at this;exact h.down X.ok this.1 this.2
     |more _ _ _=>trivial
     |bad _=>trivial
     |deep _=>rw[c] at this;exact this
    ·rw[aS ad];trivial
   |inr a=>exact h
  |more _ _ _=>trivial
  |bad _=>trivial
  |deep _=>rw[hm] at h;exact h
def dD(X:fw)(pd:aq)(u:aa):Prop:=∀t r',10::t<:+u->mc pd t= .inl r'->pd=[]\/X.E.H X.c0 r' []
theorem dD.sfx{X:fw}{pd:aq}{u v:aa}(h:dD X pd u)(a:v<:+u):dD X pd v:=λt r' b c=>h t r' (b.trans a) c
theorem dD.nil{X:fw}{u:aa}:dD X [] u:=λ_ _ _ _=> .inl rfl
theorem aoW{X:fw}{t:aa}{pd:aq}(h:dD X pd (10::t)):bX X (λr=>r=t) pd (jj (10::t) pd):=by
 show bX X _ pd (match mc pd t with| .inl r'=>dw.ok () r' []| .inr nd=> .more [[60,60]] nd []);cases a:mc pd t with
 |inl r'=>
  rcases h t r' fQ a with rfl|ad
  ·cases a;exact .inl ⟨rfl,rfl⟩
  ·exact .inr ad
 |inr nd=>trivial
abbrev wv(D:ak Unit):ak Unit:=cE D (some (eN D))
def JP(D:ak Unit):Unit->ak (Unit⊕Unit):=λ_ r pd=>match r with
 |[]=>b7 [] r pd
 |_::_=>if c3 r then .ok (.inr ()) r pd else(ae (wv D) λ_=>aW (.inl ())) r pd
def Gu(c:UInt8)(p:ak Unit):Unit->ak (Unit⊕Unit):=λ_ r pd=>match r with
 |[]=>b7 [] r pd
 |b::t=>if b=c then .ok (.inr ()) t pd else(ae p λ_=>aW (.inl ())) r pd
theorem Ue(D:ak Unit):cQ D=cb (JP D) ():=rfl
theorem abi(c:UInt8)(p:ak Unit):jk c p=cb (Gu c p) ():=rfl
section
variable{X:fw}{m:Nat}(hm:X.c0<=m){D:ak Unit}(hD:aj X.E m D)
theorem aoX(hD:aj X.E m D)(s:Unit):aj X.E m (JP D s):=by
 intro r pd h;unfold JP;cases r with
 |nil=>trivial
 |cons b t=>
  simp only;by_cases a:c3 (b::t)=true
  ·rw[bo a];exact⟨fQ,h.q⟩
  ·rw[aS a];exact aj.ae X.ok (aj.y0 X.ok hD) (λ_=>aj.ret _) _ _ h
theorem aoY{p:ak Unit}(aB:aj X.E m p)(c:UInt8)(s:Unit):aj X.E m (Gu c p s):=by
 intro r pd h;unfold Gu;cases r with
 |nil=>trivial
 |cons b t=>
  simp only;by_cases a:b=c
  ·rw[bo a];exact⟨ee _ _,(h.qv X.ok (ee b t)).q⟩
  ·rw[aS a];exact aj.ae X.ok aB (λ_=>aj.ret _) _ _ h
theorem oH.inl{x:ak Unit}{r:aa}{pd:aq}(h:oH X (x r pd)):oH X (ae x (λ_=>(aW (.inl ()):ak (Unit⊕Unit))) r pd):=by
 unfold ae;cases b:x r pd with
 |ok a r' c=>rw[b] at h;exact h
 |more _ _ _=>trivial
 |bad _=>trivial
 |deep _=>rw[b] at h;exact h
include hm hD
theorem abj{p v:aa}{pd:aq}(a:c3 (p++v)=false)(aB:p≠[])(h:wv D (p++v) pd= .ok () v pd\/oH X (wv D (p++v) pd)):jF X (cQ D (p++v) pd) (cQ D v pd):=by
 rw[Ue];have hl:v.length<(p++v).length:=by grind[List.length_pos_iff]
 refine jF.rep hm (aoX hD) hl ?_;have he:JP D () (p++v) pd=ae (wv D) (λ_=>aW (.inl ())) (p++v) pd:=by unfold JP;grind
 rw[he];rcases h with h|h
 ·left;rw[aZ h];rfl
 ·right;exact h.inl
theorem NN{p v:aa}{pd:aq}{c:UInt8}{q:ak Unit}(a:aj X.E m q)(aF:p.head?≠some c)(aB:p≠[])(h:q (p++v) pd= .ok () v pd\/oH X (q (p++v) pd)):jF X (jk c q (p++v) pd) (jk c q v pd):=by
 rw[abi];have hl:v.length<(p++v).length:=by grind[List.length_pos_iff]
 refine jF.rep hm (aoY a c) hl ?_;have he:Gu c q () (p++v) pd=ae q (λ_=>aW (.inl ())) (p++v) pd:=by
  unfold Gu;cases p with
  |nil=>grind
  |cons b t=>grind
 rw[he];rcases h with h|h
 ·left;rw[aZ h];rfl
 ·right;exact h.inl
end
def eP(X:fw)(D:ak Unit)(w:aa):Prop:=∀v pd,v≠[]->dD X pd (w++v)->jF X (cQ D (w++v) pd) (cQ D v pd)/\jF X (jk 125 (wv D) (w++v) pd) (jk 125 (wv D) v pd)
theorem zq{b:UInt8}{t:aa}(ad:ga b=false)(a:b≠10)(c:o2 b=false):c3 (b::t)=false:=by show(ga b||b==10||bs (b::t)!=[])=false;grind[oB]
section
variable{X:fw}{m:Nat}(hm:X.c0<=m){D:ak Unit}(hD:aj X.E m D)
theorem eP.app{d c:aa}(ad:eP X D d)(f:eP X D c):eP X D (d++c):=by intro v pd e ax;rw[jc] at ax⊢;have a:=ad (c++v) pd (by simp[e]) ax;have b:=f v pd e (ax.sfx (gY _ _));exact⟨a.1.trans b.1,a.2.trans b.2⟩
include hm hD
theorem eP.part{p:aa}(b:∀v,c3 (p++v)=false)(aB:p≠[])(aF:p.head?≠some 125)(h:∀v pd,v≠[]->dD X pd (p++v)->wv D (p++v) pd= .ok () v pd\/oH X (wv D (p++v) pd)):eP X D p:=by intro v pd a ax;exact⟨abj hm hD (b v) aB (h v pd a ax),NN hm (hD:=hD) (aj.y0 X.ok hD) aF aB (h v pd a ax)⟩
theorem eP.byte{b:UInt8}(ad:ga b=false)(a:b≠10)(c:o2 b=false)(d:b≠92/\b≠39/\b≠34/\b≠96/\b≠36/\b≠125):eP X D [b]:=by refine eP.part hm hD (λv=>zq ad a c) (by simp) (by grind) (λv pd e ax=> .inl ?_);simp_all[cE,sI]
theorem eP.bytes:∀{w:aa},w≠[]->(w.all λb=> !ga b&&b !=10&& !o2 b&&b !=92&&b !=39&&b !=34&&b !=96&&b !=36&&b !=125)=true->eP X D w
 |[],h,_=>absurd rfl h
 |[b],_,h=>by grind[eP.byte]
 |b::c::t,_,h=>by rw[Bo,hj] at h;have h0:=h.1;simp at h0;have a:eP X D [b]:=eP.byte hm hD h0.1.1.1.1.1.1.1.1 h0.1.1.1.1.1.1.1.2 h0.1.1.1.1.1.1.2 ⟨h0.1.1.1.1.1.2,h0.1.1.1.1.2,h0.1.1.1.2,h0.1.1.2,h0.1.2,h0.2⟩;have d:=eP.bytes (w:=c::t) (by simp) h.2;have:=a.app d;exact this
theorem eP.single{x:aa}(a:(39:UInt8)∉x):eP X D (39::x++[39]):=by
 have c:∀v,gd (x++39::v)=some v:=by
  intro v;induction x with
  |nil=>rfl
  |cons b t d=>simp only[kc,GO] at a;simp_all[gd,s3]
 refine eP.part hm hD (λv=>zq (by decide) (by decide) (by decide)) (by simp) (by simp) (λv pd e ax=> .inl ?_);simp_all[cE,sI,jx]
theorem eP.tick{x:aa}(a:∀v,g4 (x++96::v)=some v):eP X D (96::x++[96]):=by refine eP.part hm hD (λv=>zq (by decide) (by decide) (by decide)) (by simp) (by simp) (λv pd b ax=> .inl ?_);show cE D (some (eN D)) (96::(x++[96]++v)) pd=_;simp_all[cE,jx]
theorem eP.abk(b:UInt8):eP X D [92,b]:=by refine eP.part hm hD (λv=>zq (by decide) (by decide) (by decide)) (by simp) (by simp) (λv pd a ax=> .inl ?_);rfl
end
def tT(X:fw)(D:ak Unit)(x:aa):Prop:=∀v pd,v≠[]->dD X pd (x++v)->jF X (jk 34 (cE D none) (x++v) pd) (jk 34 (cE D none) v pd)
theorem abl{c:UInt8}{p:ak Unit}{v:aa}{pd:aq}:jk c p (c::v) pd= .ok () v pd:=by simp[abi,cH,Gu,cO]
section
variable{X:fw}{m:Nat}(hm:X.c0<=m){D:ak Unit}(hD:aj X.E m D)
theorem tT.app{b a:aa}(ad:tT X D b)(d:tT X D a):tT X D (b++a):=by intro v pd c ax;rw[jc] at ax⊢;exact(ad (a++v) pd (by simp[c]) ax).trans (d v pd c (ax.sfx (gY _ _)))
theorem jF.named{x:aa}{α:Type}{f g:ak α}{r r':aa}{pd a:aq}(h:jF X (f r pd) (g r' a)):jF X (f.named x r pd) (g.named x r' a):=by
 rcases h with h|h
 ·left;grind[ak.named]
 ·right;unfold ak.named;cases hf:f r pd<;>rw[hf] at h<;>first|exact h|trivial
theorem jF.aM{x:aa}{α:Type}{f g:ak α}{r r':aa}{pd a:aq}(h:jF X (f r pd) (g r' a)):jF X (f.aM x r pd) (g.aM x r' a):=by
 rcases h with h|h
 ·left;grind[ak.aM]
 ·right;unfold ak.aM;cases hf:f r pd<;>rw[hf] at h<;>first|exact h|trivial
include hm hD
theorem eP.double{x:aa}(a:tT X D x):eP X D (34::x++[34]):=by
 refine eP.part hm hD (λv=>zq (by decide) (by decide) (by decide)) (by simp) (by simp) (λv pd d ax=>?_);have he:wv D (34::x++[34]++v) pd=eN D (x++34::v) pd:=by simp[cE,sI]
 rw[he];have b:dD X pd (x++34::v):=ax.sfx ⟨[34],by simp⟩;have ad:jF X (eN D (x++34::v) pd) (eN D (34::v) pd):=(a (34::v) pd (by simp) b).aM.named;have c:eN D (34::v) pd= .ok () v pd:=by simp[eN,ak.named,ak.aM,abl]
 rw[c] at ad;exact ad
theorem tT.byte{b:UInt8}(c:b≠92/\b≠34/\b≠96/\b≠36):tT X D [b]:=by intro v pd d ax;refine NN hm (hD:=hD) (aj.part X.ok hD (λq a=>by cases a)) (by grind) (by simp) (.inl ?_);simp_all[cE,sI]
theorem eP.Uf:eP X D [36,120]:=by
 intro v pd d ax;have ad:wv D (36::120::v) pd= .ok () (120::v) pd:=by rfl
 have a:=eP.byte hm hD (b:=120) (by decide) (by decide) (by decide) (by decide) v pd d (ax.sfx (ee _ _));have e:=abj hm hD (p:=[36]) (v:=120::v) (pd:=pd) (zq (by decide) (by decide) (by decide)) (by simp) (.inl ad);have a2:=NN hm (hD:=hD) (p:=[36]) (v:=120::v) (pd:=pd) (c:=125) (aj.y0 X.ok hD) (by simp) (by simp) (.inl ad);exact⟨e.trans a.1,a2.trans a.2⟩
theorem eP.arith{lo:Option dU}(hl:D=dM lo):eP X D [36,40,40,49,43,40,50,41,41,41]:=by refine eP.part hm hD (λv=>zq (by decide) (by decide) (by decide)) (by simp) (by simp) (λv pd a ax=> .inl ?_);show cE D (some (eN D)) (36::40::40::49::43::40::50::41::41::41::v) pd=_;unfold cE;simp only;rw[aS (by decide),aS (by decide),bo (by rfl),hl];rfl
theorem eP.consts{lo:Option dU}(hl:D=dM lo):∀w∈o_,eP X D w:=by
 have a:∀{w:aa},w≠[]->(w.all λb=> !ga b&&b !=10&& !o2 b&&b !=92&&b !=39&&b !=34&&b !=96&&b !=36&&b !=125)=true->eP X D w:=λad d=>eP.bytes hm hD ad d
 intro w c;simp only[o_,Gs,gX,sY,kc,qE,tZ] at c;rcases c with rfl|rfl|rfl|rfl|rfl|rfl|rfl|rfl|rfl|rfl|rfl|rfl|rfl|rfl|rfl
 ·exact eP.single hm hD (x:=[113,32,114]) (by decide)
 ·exact eP.double hm hD (x:=[97,32,98]) (((tT.byte hm hD (b:=97) (by decide)).app (tT.byte hm hD (b:=32) (by decide))).app (tT.byte hm hD (b:=98) (by decide)))
 ·exact((a (w:=[97]) (by simp) (by decide)).app (eP.abk hm hD 32)).app (a (w:=[98]) (by simp) (by decide))
 ·grind[eP.Uf]
 ·grind[eP.arith]
 ·exact eP.tick hm hD (x:=[99,32,100]) (λv=>by simp[g4];unfold g4;simp)
 ·exact a (by simp) (by decide)
 ·exact((a (w:=[97]) (by simp) (by decide)).app (eP.abk hm hD 10)).app (a (w:=[98]) (by simp) (by decide))
 ·exact a (by simp) (by decide)
 ·exact a (by simp) (by decide)
 ·exact a (by simp) (by decide)
 ·exact a (by simp) (by decide)
 ·exact a (by simp) (by decide)
 ·exact a (by simp) (by decide)
 ·exact a (by simp) (by decide)
end
def oI(d:Nat)(x:aa):Prop:=∀v,hQ d (x++v)=hQ d v\/∃q,hQ d (x++v)= .bad q
def dK(x:aa):Prop:=∀d,oI d x
theorem oI.app{d:Nat}{x y:aa}(ad:oI d x)(a:oI d y):oI d (x++y):=by
 intro v;rw[jc];rcases ad (y++v) with h|h
 ·rw[h];exact a v
 grind
theorem dK.app{x y:aa}(ad:dK x)(a:dK y):dK (x++y):=λd=>(ad d).app (a d)
theorem dK.nil:dK []:=λd v=> .inl rfl
theorem dK.bad{b:UInt8}{x:aa}(h:b=39\/b=34\/b=92\/b=96):dK (b::x):=by intro d v;right;rw[gX,vX,bo (by grind)];simp
theorem dK.opens{c:UInt8}{x:aa}(h:c=40\/c=123):dK (36::c::x):=by intro d v;right;rw[List.cons_append,vX,if_pos (by grind[gb])];simp
theorem dK.byte{b:UInt8}(h:b≠39/\b≠34/\b≠92/\b≠96/\b≠36/\b≠40/\b≠41):dK [b]:=by intro d v;simp_all[vX,sI]
theorem dK.bytes:∀{w:aa},(w.all λb=>b !=39&&b !=34&&b !=92&&b !=96&&b !=36&&b !=40&&b !=41)=true->dK w
 |[],_=>dK.nil
 |b::t,h=>by rw[Bo,hj] at h;have h0:=h.1;simp at h0;have:=(dK.byte (b:=b) ⟨h0.1.1.1.1.1.1,h0.1.1.1.1.1.2,h0.1.1.1.1.2,h0.1.1.1.2,h0.1.1.2,h0.1.2,h0.2⟩).app (dK.bytes h.2);exact this
theorem dK.paren{x:aa}(h:dK x):dK ([40]++x++[41]):=by
 intro d v;have ad:hQ d ([40]++x++[41]++v)=hQ (d+1) (x++41::v):=by show hQ d (40::(x++[41]++v))=_;simp[vX,gb]
 rw[ad];rcases h (d+1) (41::v) with af|af
 ·simp_all[vX,gb]
 grind
theorem dK.Uf:dK [36,120]:=by intro d v;simp[vX,gb]
theorem dK.consts:∀w∈o_,dK w:=by
 intro w a;simp only[o_,Gs,gX,sY,kc,qE,tZ] at a;rcases a with rfl|rfl|rfl|rfl|rfl|rfl|rfl|rfl|rfl|rfl|rfl|rfl|rfl|rfl|rfl
 ·simp[dK.bad]
 ·simp[dK.bad]
 ·exact(dK.bytes (w:=[97]) (by decide)).app (dK.bad (b:=92) (x:=[32,98]) (by simp))
 ·exact dK.Uf
 ·simp[dK.opens]
 ·simp[dK.bad]
 ·simp[dK.bytes]
 ·exact(dK.bytes (w:=[97]) (by decide)).app (dK.bad (b:=92) (x:=[10,98]) (by simp))
 ·simp[dK.bytes]
 ·simp[dK.bytes]
 ·simp[dK.bytes]
 ·simp[dK.bytes]
 ·simp[dK.bytes]
 ·simp[dK.bytes]
 simp[dK.bytes]
theorem dK.word{d:Nat}{w:aa}(h:hZ d w):dK w:=by
 cases d with
 |zero=>exact dK.consts w h
 |succ d=>
  rcases h with h|⟨t,_,h|h⟩|⟨v,_,h⟩
  ·grind[dK.consts]
  ·simp_all[dK.opens]
  ·grind[dK.bad]
  simp_all[dK.opens]
theorem dK.args{W:aa->Prop}(hW:∀w,W w->dK w):∀{ws:bt},(∀w∈ws,W w)->dK (jW ws)
 |[],_=>dK.nil
 |w::t,h=>by have:=(dK.bytes (w:=[32]) (by decide)).app ((hW w (h w (by simp))).app (dK.args hW (ws:=t) (λw a=>h w (by grind))));exact this
theorem aoZ:∀h∈sT,dK h:=by intro h a;simp only[sT,kc,qE,tZ] at a;rcases a with rfl|rfl|rfl|rfl<;>exact dK.bytes (by decide)
theorem dK.simple{W a:aa->Prop}(hW:∀w,W w->dK w)(e:∀w,a w->dK w){s:aa}(h:rW W a s):dK s:=by
 obtain⟨c,ws,r,ad,b,rfl,d⟩:=h;refine((aoZ c ad).app (dK.args hW b)).app ?_;rcases d with rfl|rfl|⟨w,f,rfl⟩
 ·exact dK.nil
 ·simp[dK.bytes]
 grind[dK.bytes,dK.app]
theorem ao0:∀h∈jE,dK h:=by intro h a;simp only[jE,kc,qE,tZ] at a;rcases a with rfl|rfl|rfl|rfl|rfl|rfl|rfl|rfl<;>exact dK.bytes (by decide)
theorem oI.rest{d:Nat}{C:aa->Prop}(a:∀c,C c->oI d c):∀{l:List (aa×aa)},(∀p∈l,p.1∈jE/\C p.2)->oI d (cZ l)
 |[],_=>dK.nil d
 |p::t,h=>by have:=((ao0 p.1 (h p (by simp)).1 d).app (a p.2 (h p (by simp)).2)).app (oI.rest a (l:=t) (λq b=>h q (by grind)));exact this
theorem oI.ao1{c:aa}(h:zp 1 c):oI 0 c:=by
 rcases h with h|h
 ·exact dK.simple (λw f=>dK.word (d:=1) f) (λw f=>dK.word (d:=0) f) h 0
 ·have bj:∀t,iv 0 t->dK t:=λt j=>by
   intro d;obtain⟨c,l,ad,e,rfl⟩:=j;have i:∀c,rW (λw=>w∈o_) (λw=>w∈o_) c->oI d c:=λc aF=>dK.simple dK.consts dK.consts aF d
   exact(i c ad).app (oI.rest i e)
  have hW:∀w,hZ 0 w->dK w:=λw f=>dK.consts w f
  have a:∀{w:aa},(w.all λb=>b !=39&&b !=34&&b !=92&&b !=96&&b !=36&&b !=40&&b !=41)=true->dK w:=λh=>dK.bytes h
  rcases h with⟨t,ad,rfl⟩|⟨t,ad,rfl⟩|⟨t,u,ad,e,rfl⟩|⟨t,u,ad,e,rfl⟩|⟨t,u,ad,e,rfl⟩|⟨w,u,ad,e,rfl⟩|rfl|⟨w,u,ad,e,rfl⟩|⟨t,ad,rfl⟩
  ·exact dK.paren (bj t ad) 0
  ·exact(((a (by decide)).app ((bj t ad).app (a (by decide)))).app (a (by decide))) 0
  ·exact(((((a (by decide)).app ((bj t ad).app (a (by decide)))).app (a (by decide))).app ((bj u e).app (a (by decide)))).app (a (by decide))) 0
  ·exact(((((a (by decide)).app ((bj t ad).app (a (by decide)))).app (a (by decide))).app ((bj u e).app (a (by decide)))).app (a (by decide))) 0
  ·exact(((((a (by decide)).app ((bj t ad).app (a (by decide)))).app (a (by decide))).app ((bj u e).app (a (by decide)))).app (a (by decide))) 0
  ·exact(((((a (by decide)).app (hW w ad)).app (a (by decide))).app ((bj u e).app (a (by decide)))).app (a (by decide))) 0
  ·exact a (by decide) 0
  ·
   have g:oI 0 ([99,97,115,101,32]++w++[32,105,110,32,97,124,98]):=(((a (by decide)).app (hW w ad)).app (a (by decide))) 0;intro v;have he:[99,97,115,101,32]++w++[32,105,110,32,97,124,98,41,32]++(u++[])++[59,59,10,40,99,41,32,59,59,32,100,41,32,101,115,97,99]++v=([99,97,115,101,32]++w++[32,105,110,32,97,124,98])++(41::32::(u++[59,59,10,40,99,41,32,59,59,32,100,41,32,101,115,97,99]++v)):=by simp
   rw[he];right;rcases g (41::32::(u++[59,59,10,40,99,41,32,59,59,32,100,41,32,101,115,97,99]++v)) with aU|aU
   ·simp_all[vX]
   omega
  ·have g:dK ([102]++([40]++[]++[41])++[32,123,10]++(t++[10])++[125,32,62,102]):=((((a (by decide)).app (dK.paren dK.nil)).app (a (by decide))).app ((bj t ad).app (a (by decide)))).app (a (by decide));exact g 0
theorem oI.ao2{d:Nat}(aE:d<=1){t:aa}(h:iv d t):oI 0 t:=by
 rw[NK] at h;obtain⟨c,l,ad,e,rfl⟩:=h
 have b:∀c,zp d c->oI 0 c:=by
  intro c aF;rcases Nat.le_one_iff_eq_zero_or_eq_one.1 aE with rfl|rfl
  ·exact dK.simple (λw a=>dK.word (d:=0) a) (λw a=>dK.word (d:=0) a) aF 0
  grind[oI.ao1]
 exact(b c ad).app (oI.rest b e)
def Ug(X:fw)(m d:Nat):Prop:=∀t v pd,iv d t->dD X pd (t++41::v)->bX X (λr=>r=41::v) pd ((a1 true m).ls .paren true (t++41::v) pd)
theorem zr(v:aa):bx (41::v)=some (41::v):=by unfold bx;rfl
theorem zt(v:aa):av (41::v)= .op [41]:=by rfl
theorem ao3{d:Nat}{c:aa}(h:zp d c):∃b t,c=b::t/\(b=40->∃a u,d=a+1/\iv a u/\c=[40]++u++[41]):=by
 have g:∀{W f:aa->Prop},rW W f c->∃b t,c=b::t/\(b=40->∃a u,d=a+1/\iv a u/\c=[40]++u++[41]):=by rintro W f ⟨x,ws,r,ad,e,rfl,i⟩;simp only[sT,kc,qE,tZ] at ad;grind
 cases d with
 |zero=>exact g h
 |succ d=>
  rcases h with h|h
  ·grind
  ·rcases h with⟨t,ad,rfl⟩|⟨t,ad,rfl⟩|⟨t,u,ad,e,rfl⟩|⟨t,u,ad,e,rfl⟩|⟨t,u,ad,e,rfl⟩|⟨w,u,ad,e,rfl⟩|rfl|⟨w,u,ad,e,rfl⟩|⟨t,ad,rfl⟩
   ·grind
   all_goals simp
theorem ao4:∀j∈jE,∃b t,j=b::t/\b≠41:=by simp[jE]
section
variable{X:fw}{m:Nat}(hm:X.c0<=m)
include hm in
theorem abm{d:Nat}(aE:d<=2)(ec:Ug X m d)(bj:xl X.E m){t v:aa}{pd:aq}(ht:iv d t)(ax:dD X pd ([36,40]++t++[41]++v)):dM (some (a1 true m)) ([36,40]++t++[41]++v) pd= .ok () v pd\/oH X (dM (some (a1 true m)) ([36,40]++t++[41]++v) pd):=by
 have he:[36,40]++t++[41]++v=36::40::(t++41::v):=by simp
 rw[he] at ax⊢;have uS:=ht;rw[NK] at uS;obtain⟨c,l,ad,af,lU⟩:=uS;obtain⟨b,mZ,aF,gF⟩:=ao3 ad;by_cases hb:b=40
 ·
  obtain⟨d1,u,rfl,hu,M5⟩:=gF hb;subst lU;have de:dM (some (a1 true m)) (36::40::(c++cZ l++41::v)) pd=nz (u++(41::(cZ l++41::v))) pd:=by rw[M5];unfold dM;rw[bo (by simp)];show nz _ pd=_;simp
  rw[de];unfold nz;rcases oI.ao2 (by omega) hu (41::(cZ l++41::v)) with au|⟨q,au⟩
  ·rw[au];cases l with
   |nil=>left;rfl
   |cons p l=>
    obtain⟨ao5,ao6,bY,ar8⟩:=ao4 p.1 (af p (by simp)).1;right
    have:∃q,hQ 0 (41::(cZ (p::l)++41::v))= .bad q:=by
     have ai:cZ (p::l)++41::v=ao5::(ao6++p.2++cZ l++41::v):=by grind[cZ]
     simp_all[vX]
    obtain⟨q,aD⟩:=this;rw[aD];trivial
  ·right;rw[au];trivial
 ·have de:dM (some (a1 true m)) (36::40::(t++41::v)) pd=uK (a1 true m) (t++41::v) pd:=by
   have abn:∃RW,t=b::RW:=⟨mZ++cZ l,by grind⟩
   obtain⟨RW,abn⟩:=abn;unfold dM;rw[aS (by grind),if_pos (by simp)];rfl
  rw[de];have hC:dD X pd (t++41::v):=ax.sfx ⟨[36,40],rfl⟩;have au:=ec t v pd ht hC;have aU:bX X (λr=>r=v) pd (uK (a1 true m) (t++41::v) pd):=by unfold uK;refine bX.ae hm au.aM.named (λa r' _ xr=>?_) (λa=>aj.jR X.ok _);subst xr;rw[FJ (zr v) (zt v)];exact .inl ⟨rfl,rfl⟩
  cases aB:uK (a1 true m) (t++41::v) pd with
  |ok a r' aG=>
   rw[aB] at aU;rcases aU with⟨rfl,rfl⟩|aU
   ·simp
   ·exact .inr aU
  |more _ _ _=>right;trivial
  |bad _=>right;trivial
  |deep _=>rw[aB] at aU;exact aU.elim
end
theorem ao7(n:Nat):(a1 true n).pm=q3 (a1 true n).dl:=by cases n<;>rfl
theorem abo{E:lx}(ok:E.mW){m:Nat}(bj:xl E m):aj E (m+1) (dM (some (a1 true m))):=aj.R_ ok (.inr ⟨m,rfl,rfl,bj⟩)
section
variable{X:fw}{m:Nat}(hm:X.c0<=m)(bj:xl X.E m)
include hm bj
theorem ao8{w v:aa}{pd:aq}(c:eP X (a1 true m).dl w)(ax:dD X pd ([36,123,120,58,45]++w++[125]++v)):dM (some (a1 true m)) ([36,123,120,58,45]++w++[125]++v) pd= .ok () v pd\/oH X (dM (some (a1 true m)) ([36,123,120,58,45]++w++[125]++v) pd):=by
 have he:[36,123,120,58,45]++w++[125]++v=36::123::([120,58,45]++(w++125::v)):=by simp
 rw[he] at ax⊢;have d:dM (some (a1 true m)) (36::123::([120,58,45]++(w++125::v))) pd=((a1 true m).pm.named [36,123]) ([120,58,45]++(w++125::v)) pd:=by rfl
 rw[d,ao7];have a:dD X pd ([120,58,45]++(w++125::v)):=ax.sfx ⟨[36,123],rfl⟩;have ad:=(eP.bytes hm bj.dl (w:=[120,58,45]) (by simp) (by decide) (w++125::v) pd (by simp) a).2;have e:=(c (125::v) pd (by simp) (a.sfx (gY _ _))).2;have b:=(ad.trans e);rw[abl] at b;have f:jF X (((q3 (a1 true m).dl).named [36,123]) ([120,58,45]++(w++125::v)) pd) (.ok () v pd):=by have:jF X (((jk 125 (wv (a1 true m).dl)).aM [125]).named [36,123] ([120,58,45]++(w++125::v)) pd) (((aW ():ak Unit).aM [125]).named [36,123] v pd):=jF.named (jF.aM b);exact this
 exact f
theorem eP.Uh{p:aa}(aB:∃c q,p=36::c::q/\(c=40\/c=123))(h:∀v pd,v≠[]->dD X pd (p++v)->dM (some (a1 true m)) (p++v) pd= .ok () v pd\/oH X (dM (some (a1 true m)) (p++v) pd)):eP X (dM (some (a1 true m))) p/\tT X (dM (some (a1 true m))) p:=by
 obtain⟨c,q,rfl,aF⟩:=aB;have hD:=abo X.ok bj
 have d:∀dq v pd,cE (dM (some (a1 true m))) dq (36::c::q++v) pd=dM (some (a1 true m)) (36::c::q++v) pd:=by intro dq v pd;show cE (dM (some (a1 true m))) dq (36::c::(q++v)) pd=_;unfold cE;simp only;rw[aS (by decide),aS (by decide),bo (by rcases aF with rfl|rfl<;>rfl)];rfl
 refine⟨eP.part (by omega) hD (λv=>zq (by decide) (by decide) (by decide)) (by simp) (by simp) (λv pd a ax=>?_),λv pd a ax=>?_⟩
 ·grind
 ·refine NN (m:=m+1) (by omega) (hD:=hD) (aj.part X.ok hD (λq b=>by cases b)) (by simp) (by simp) ?_;grind
theorem abp{d:Nat}(aE:d<=2)(ec:Ug X m d)(hW:∀w,hZ d w->eP X (a1 true m).dl w):∀w,hZ (d+1) w->eP X (dM (some (a1 true m))) w:=by
 have hD:=abo X.ok bj;intro w h;rcases h with h|⟨t,ad,h|h⟩|⟨v,ad,h⟩
 ·exact eP.consts (m:=m+1) (by omega) hD rfl w h
 ·subst h;exact(eP.Uh hm bj ⟨40,t++[41],rfl,.inl rfl⟩ (λv pd a ax=>abm hm aE ec bj ad ax)).1
 ·subst h;have c:=(eP.Uh hm bj (p:=[36,40]++t++[41]) ⟨40,t++[41],rfl,.inl rfl⟩ (λv pd a ax=>abm hm aE ec bj ad ax)).2;have e:=eP.double (m:=m+1) (by omega) hD (tT.app (tT.byte (m:=m+1) (by omega) hD (b:=120) (by decide)) c);grind
 ·subst h;exact(eP.Uh hm bj ⟨123,[120,58,45]++v++[125],rfl,.inr rfl⟩ (λu pd hu ax=>ao8 hm bj (hW v ad) ax)).1
end
structure hK(v cN:aa):Prop where
 ne:v≠[]
 p1:c3 v=true
 rY:bx v=some cN
 NO:av cN= .line\/∃o,av cN= .op o/\e2 o=false/\o≠[40]
theorem hK.idem{v a:aa}(h:hK v a):bx a=some a:=lO _ _ _ (cX _) h.rY
theorem hK.ao9{v c:aa}(h:hK v c):e2 (bs (c.dropWhile cd))=false:=by
 rcases h.NO with a|⟨o,a,ad,d⟩
 ·obtain⟨t,rfl⟩:=vY a;rfl
 ·have e:=(iq a).1;have bc:=(iq a).2.2.2;cases c with
  |nil=>simp_all
  |cons b t=>
   have f:cd b=false:=by
    cases aE:cd b with
    |false=>rfl
    |true=>simp_all[AX,oB]
   simp_all
theorem hK.jm{v a:aa}(h:hK v a)(D:ak Unit)(pd:aq):dF D v pd= .ok false a pd:=uV h.rY h.ao9
theorem hK.mK{v a:aa}(h:hK v a)(D:ak Unit)(pd:aq):gV D v pd= .ok () a pd:=by unfold gV;rw[cH,aZ (h.jm D pd)];rfl
theorem hK.simple{v b:aa}(h:hK v b)(D:ak Unit)(pd:aq):hH true D v pd= .ok () b pd:=by
 unfold hH;rw[cH,aZ (h.jm D pd)];simp only[ew,cl];rw[aZ (cB h.idem)];rcases h.NO with a|⟨o,a,ad,c⟩
 ·rw[a];rfl
 ·rw[a];simp only;rw[aS (λd=>c d.2)];rfl
def xO(w:aa):Prop:=∃b t,w=b::t/\ga b=false/\b≠10/\b≠92/\b≠35/\o2 b=false/\cd b=false
theorem NP{d:Nat}{w:aa}(h:hZ d w):xO w:=by
 have hk:∀w∈o_,xO w:=by intro w a;simp only[o_,Gs,gX,sY,kc,qE,tZ] at a;rcases a with rfl|rfl|rfl|rfl|rfl|rfl|rfl|rfl|rfl|rfl|rfl|rfl|rfl|rfl|rfl<;>exact⟨_,_,rfl,by decide,by decide,by decide,by decide,by decide,by decide⟩
 cases d with
 |zero=>exact hk w h
 |succ d=>
  rcases h with h|⟨t,_,h|h⟩|⟨v,_,h⟩
  ·grind
  all_goals (subst h;exact⟨_,_,rfl,by decide,by decide,by decide,by decide,by decide,by decide⟩)
theorem xO.tok{w u:aa}(h:xO w):bx (w++u)=some (w++u)/\(∃x p,av (w++u)= .word x p)/\e2 (bs ((w++u).dropWhile cd))=false:=by
 obtain⟨b,t,rfl,ad,e,a,c,d,f⟩:=h;refine⟨kO ad c a,?_,?_⟩
 ·show∃x p,av (b::(t++u))= .word x p
  have:av (b::(t++u))=if b=10 then Tok.line else if bs (b::(t++u))≠[] then .op (bs (b::(t++u))) else .word (c8 (b::(t++u))).1 (c8 (b::(t++u))).2:=rfl
  simp_all[oB]
 ·have:(b::t++u).dropWhile cd=b::t++u:=by simp_all
  rw[this,gX,oB d];decide
section
variable{X:fw}{m:Nat}(hm:X.c0<=m){D:ak Unit}(hD:aj X.E m D)
include hm hD
theorem ao_{w u:aa}{pd:aq}(a:xO w)(c:eP X D w)(hu:c3 u=true)(d:u≠[])(ax:dD X pd (w++u)):jF X (hH true D (32::(w++u)) pd) (hH true D u pd):=by
 obtain⟨e,⟨x,p,f⟩,g⟩:=a.tok (u:=u);have h:bx (32::(w++u))=some (w++u):=by grind[k1]
 unfold hH;have i:cQ D u pd= .ok () u pd:=by
  rw[Ue,cH];cases u with
  |nil=>grind
  |cons b t=>show cO _ _ (if c3 (b::t)=true then _ else _)=_;rw[bo hu];rfl
 have ad:=(c u pd d ax).1;rw[i] at ad;refine jF.rep hm (λs=>?_) (s:=()) (s':=()) (v:=u) (by grind) ?_
 ·refine aj.ae X.ok (aj.jm X.ok hD) λb=>aj.ite (aj.ret _) (aj.fP X.ok λt=>?_);cases t with
  |word _ _=>exact aj.ae X.ok (aj.cQ X.ok hD) λ_=>aj.ret _
  |op o=>simp[aj.ite,aj.bK,aj.ret]
  |line=>simp[aj.ret]
  |eof=>simp[aj.ret]
 ·rw[aZ (uV h g)];simp only[ew,cl];rw[aZ (cB e),f];simp only;rcases ad with ad|ad
  ·left;rw[aZ ad];rfl
  ·right;exact ad.inl
end
theorem JQ{D:ak Unit}{u:aa}{pd:aq}(hu:c3 u=true)(a:u≠[]):cQ D u pd= .ok () u pd:=by
 rw[Ue,cH];cases u with
 |nil=>grind
 |cons b t=>show cO _ _ (if c3 (b::t)=true then _ else _)=_;rw[bo hu];rfl
def Gv(D:ak Unit):Unit->ak (Unit⊕Unit):=λ_=>ae (dF D) λb=>if b then aW (.inl ()) else ae (bQ []) λt=>match t with
 | .word _ _=>ae (cQ D) λ_=>aW (.inl ())
 | .op o=>if true/\o=[40] then bK else aW (.inr ())
 |_=>aW (.inr ())
theorem abq{b:UInt8}{t:aa}(h:o2 b=false):bs (62::b::t)=[62]:=by simp only[o2,GF,J4,ne_eq] at h;simp_all[s3,bs,lq]
theorem oH.ae{X:fw}{n:Nat}(ax:X.c0<=n){α β:Type}{f:ak α}{k:α->ak β}{r:aa}{pd:aq}(h:oH X (f r pd))(hk:∀a,aj X.E n (k a)):oH X (Go.Eng.ae f k r pd):=by
 unfold Go.Eng.ae;cases b:f r pd with
 |ok a r' c=>
  rw[b] at h;have:=hk a r' c (lx.H.NM h ax);simp only;cases d:k a r' c with
  |ok _ _ _=>rw[d] at this;exact lx.H.down X.ok h this.1 this.2
  |more _ _ _=>trivial
  |bad _=>trivial
  |deep _=>rw[d] at this;exact this
 |more _ _ _=>trivial
 |bad _=>trivial
 |deep _=>rw[b] at h;exact h
section
variable{X:fw}{m:Nat}(hm:X.c0<=m){D:ak Unit}(hD:aj X.E m D)
include hm hD
theorem abr{W:aa->Prop}(hW:∀w,W w->xO w/\eP X D w){u:aa}(hu:c3 u=true)(c:u≠[]):∀{ws:bt}{pd:aq},(∀w∈ws,W w)->dD X pd (jW ws++u)->jF X (hH true D (jW ws++u) pd) (hH true D u pd)
 |[],pd,_,_=>jF.refl _
 |w::t,pd,h,ax=>by
  have he:jW (w::t)++u=32::(w++(jW t++u)):=by simp[jW]
  rw[he] at ax⊢;have b:dD X pd (w++(jW t++u)):=ax.sfx (ee _ _);have d:c3 (jW t++u)=true:=by
   cases t with
   |nil=>grind[jW]
   |cons a t=>rfl
  obtain⟨ad,e⟩:=hW w (h w (by simp));exact(ao_ hm hD ad e d (by simp_all) b).trans (abr hW hu c (ws:=t) (λw f=>h w (by grind)) (b.sfx (List.suffix_append _ _)))
theorem apa{W:aa->Prop}(hW:∀w,W w->xO w/\eP X D w){r v c:aa}{pd:aq}(j:r=[]\/r=[32,50,62,38,49]\/∃w,W w/\r=[32,62]++w)(a:hK v c)(ax:dD X pd (r++v)):bX X (λq=>q=c) pd (hH true D (r++v) pd):=by
 have f:bX X (λq=>q=c) pd (hH true D v pd):=by rw[a.simple];exact .inl ⟨rfl,rfl⟩
 have d:∀s,aj X.E m (Gv D s):=λs=>by
  unfold Gv;refine aj.ae X.ok (aj.jm X.ok hD) λb=>aj.ite (aj.ret _) (aj.fP X.ok λt=>?_);cases t with
  |word _ _=>exact aj.ae X.ok (aj.cQ X.ok hD) λ_=>aj.ret _
  |op o=>simp[aj.ite,aj.bK,aj.ret]
  |line=>simp[aj.ret]
  |eof=>simp[aj.ret]
 have g:∀{u:aa},v.length<u.length->(dF D u pd= .ok true v pd\/oH X (dF D u pd))->jF X (hH true D u pd) (hH true D v pd):=by
  intro u hl h;show jF X (cb (Gv D) () u pd) (cb (Gv D) () v pd);refine jF.rep hm d hl ?_;rcases h with h|h
  ·left;unfold Gv;rw[aZ h];rfl
  ·right;unfold Gv;refine oH.ae hm h λb=>aj.ite (aj.ret _) (aj.fP X.ok λt=>?_);cases t with
   |word _ _=>exact aj.ae X.ok (aj.cQ X.ok hD) λ_=>aj.ret _
   |op o=>simp[aj.ite,aj.bK,aj.ret]
   |line=>simp[aj.ret]
   |eof=>simp[aj.ret]
 rcases j with rfl|rfl|⟨w,k,rfl⟩
 ·grind
 ·refine(g (u:=32::50::62::38::49::v) (by grind) (.inl ?_)).JO f;have ad:fJ (32::50::62::38::49::v) pd= .ok (some [62,38]) (49::v) pd:=by unfold fJ;rw[k1,kO (by decide) (by decide) (by decide)];rfl
  unfold dF;rw[aZ ad];simp only;rw[aS (by decide),aS (by decide)];have e:jQ D [120] (49::v) pd= .ok () v pd:=by
   unfold jQ;rw[aZ (cB (kO (by decide) (by decide) (by decide)))]
   have:∃x p,av (49::v)= .word x p:=by
    have:av (49::v)=if(49:UInt8)=10 then Tok.line else if bs (49::v)≠[] then .op (bs (49::v)) else .word (c8 (49::v)).1 (c8 (49::v)).2:=rfl
    rw[this,aS (by decide),oB (by decide)];simp
   obtain⟨x,p,l⟩:=this;rw[l];simp only;rw[CT (zq (by decide) (by decide) (by decide)) (Yc (by decide)) (by simp),JQ a.p1 a.ne]
  rw[aZ e];rfl
 ·obtain⟨ad,e⟩:=hW w k;refine(g (u:=32::62::(w++v)) (by grind) ?_).JO f;obtain⟨n,⟨x,p,y⟩,E⟩:=ad.tok (u:=v);have z:fJ (32::62::(w++v)) pd= .ok (some [62]) (w++v) pd:=by
   unfold fJ;rw[k1,kO (by decide) (by decide) (by decide)];obtain⟨b,t,rfl,_,_,_,_,bu,_⟩:=ad;have A:bs (62::(b::t++v))=[62]:=abq bu;have aE:(62::(b::t++v):aa).dropWhile cd=62::(b::t++v):=by rfl
   simp only;rw[aE,A,bo (by decide)];rfl
  have B:dD X pd (w++v):=ax.sfx ⟨[32,62],rfl⟩;have i:=(e v pd a.ne B).1;rw[JQ a.p1 a.ne] at i;have bu:jQ D [120] (w++v) pd= .ok () v pd\/oH X (jQ D [120] (w++v) pd):=by unfold jQ;rw[aZ (cB n),y];exact i
  have C:dF D (32::62::(w++v)) pd=ae (jQ D [120]) (λ_=>aW true) (w++v) pd:=by unfold dF;rw[aZ z];simp
  rw[C];rcases bu with bu|bu
  ·left;rw[aZ bu];rfl
  grind[oH.ae,aj.ret]
end
def abt(h:aa):Prop:=h≠[]/\h.all rO=true/\rK h=false/\q4 h=false/\(∃b t,h=b::t/\ga b=false/\b≠92/\b≠35/\cd b=false/\o2 b=false)
theorem apb:∀h∈sT,abt h:=by intro h a;simp only[sT,kc,qE,tZ] at a;rcases a with rfl|rfl|rfl|rfl<;>exact⟨by decide,by decide,by decide,by decide,_,_,rfl,by decide,by decide,by decide,by decide,by decide⟩
theorem apc{ws:bt}{r v:aa}(b:r=[]\/∃t,r=32::t)(c:c3 v=true):c3 (jW ws++(r++v))=true:=by
 cases ws with
 |nil=>
  rcases b with rfl|⟨t,rfl⟩
  ·grind[jW]
  ·rfl
 |cons a t=>rfl
def wx(W a:aa->Prop)(s:aa):Prop:=∃h ws r,abt h/\(∀w∈ws,W w)/\s=h++jW ws++r/\(r=[]\/r=[32,50,62,38,49]\/∃w,a w/\r=[32,62]++w)
theorem rW.q{W a:aa->Prop}{s:aa}(h:rW W a s):wx W a s:=by obtain⟨h,ws,r,ad,b⟩:=h;exact⟨h,ws,r,apb h ad,b⟩
theorem wx.one{W a:aa->Prop}{b:UInt8}(h:b=97\/b=98\/b=99):wx W a [b]:=by refine⟨[b],[],[],?_,by simp,by rfl,.inl rfl⟩;rcases h with rfl|rfl|rfl<;>exact⟨by decide,by decide,by decide,by decide,_,_,rfl,by decide,by decide,by decide,by decide,by decide⟩
section
variable{X:fw}{m:Nat}(hm:X.c0<=m){D:ak Unit}(hD:aj X.E m D)
include hm hD
theorem apd(F:hU D){W n:aa->Prop}(hW:∀w,W w->xO w/\eP X D w)(y:∀w,n w->xO w/\eP X D w){s v g:aa}{pd:aq}{lo:Option dU}(G:wx W n s)(e:hK v g)(ax:dD X pd (s++v)):bX X (λq=>q=g) pd (gm true lo D (s++v) pd):=by
 obtain⟨h,ws,r,ad,z,rfl,A⟩:=G;obtain⟨H,a2,a3,P,b,t,I,Q,R,S,T,J⟩:=ad
 have B:r=[]\/∃t,r=32::t:=by grind
 have he:h++jW ws++r++v=h++(jW ws++(r++v)):=by simp
 rw[he] at ax⊢;have hu:=apc (ws:=ws) B e.p1;have U:bX X (λq=>q=g) pd (hH true D (jW ws++(r++v)) pd):=by
  have i:c3 (r++v)=true:=by
   rcases B with rfl|⟨t,rfl⟩
   ·exact e.p1
   ·rfl
  have C:dD X pd (jW ws++(r++v)):=ax.sfx (gY _ _);exact(abr hm hD hW i (by simp[e.ne]) z C).JO (apa hm hD y A e (C.sfx (gY _ _)))
 have K:∀a,bx (jW ws++(r++v))=some a->av a≠ .op [40]:=by
  intro a j;cases ws with
  |cons w ws=>
   have V:jW (w::ws)++(r++v)=32::(w++(jW ws++(r++v))):=by simp[jW]
   obtain⟨Y,⟨x,p,Z⟩,_⟩:=(hW w (z w (by simp))).1.tok (u:=jW ws++(r++v));grind[k1]
  |nil=>
   rcases A with rfl|rfl|⟨w,k,rfl⟩
   ·have d:bx v=some a:=j;rw[e.rY] at d;cases d;rcases e.NO with L|⟨o,L,_,aN⟩
    ·grind
    grind
   ·have d:bx (32::50::62::38::49::v)=some a:=j;rw[k1,kO (by decide) (by decide) (by decide)] at d;cases d;intro l;have:=(mQ (by simp)).1 l;rw[oB (by decide)] at this;grind
   ·have d:bx (32::62::(w++v))=some a:=j;rw[k1,kO (by decide) (by decide) (by decide)] at d;cases d;intro l;have c1:=(mQ (by simp)).1 l;obtain⟨c,t,rfl,_,_,_,_,fa,_⟩:=(y w k).1;grind[abq]
 generalize gL:jW ws++(r++v)=u at*;have jL:u≠[]:=by rw[<-gL];simp[e.ne]
 have M:=tw H a2 hu;have E:bx (h++u)=some (h++u):=by grind[kO]
 have N:e2 (bs ((h++u).dropWhile cd))=false:=by
  rw[I];have:(b::t++u).dropWhile cd=b::t++u:=by simp_all
  rw[this,gX,oB J];decide
 unfold gm;rw[aZ (cB E),M,aS (by simp),aS (by grind[hG])];simp only[JU];rw[aS (by grind),aZ (uV E N)];simp only[Bool.false_eq_true,if_false];have k:cQ D (h++u) pd= .ok () u pd:=by grind[R9,JQ]
 rw[aZ k];by_cases O:me h=true
 ·rw[bo O];cases f:bx u with
  |none=>rw[dh (op:=[]) (nd:=(cP [] pd []).1) (ds:=(cP [] pd []).2) (iE f)];trivial
  |some a=>rw[aZ (cB f)];rw[aS (K a f)];have m:=lO _ _ _ (cX _) f;rw[<-anB f m (dV f).length_le F];omega
 grind
end
theorem apg{E:lx}(ok:E.mW){n:Nat}(b:Bool):aj E n (h9 b):=aj.fP ok λt=>aj.ite (aj.ae ok (aj.nl ok) λ_=>aj.ret _) (aj.ret _)
section
variable{X:fw}{m:Nat}(hm:X.c0<=m)
include hm
theorem abu{x:aa}{pd:aq}{b:Bool}{u:aa}(hu:bx u=some (10::x))(c:bx x=some x)(d:av x≠ .line)(ax:dD X pd (10::x)):bX X (λr=>r=x) pd (cb h9 b u pd):=by
 have ad:=aoW ax;have h:=(dV hu).length_le;have e:h9 b u pd= .ok (.inl true) x pd\/oH X (h9 b u pd):=by
  rw[uP hu];unfold Go.Eng.ae;cases aB:jj (10::x) pd with
  |ok a r' i=>
   rw[aB] at ad;rcases ad with⟨rfl,rfl⟩|ad
   ·exact .inl rfl
   ·exact .inr ad
  |more _ _ _=>right;trivial
  |bad _=>right;trivial
  |deep _=>rw[aB] at ad;exact ad.elim
 have g:=jF.rep hm (f:=h9) (λs=>apg X.ok s) (s:=b) (s':=true) (r:=u) (v:=x) (pd:=pd) (by grind) e;refine g.JO ?_;rw[cH,rM c d];exact .inl ⟨rfl,rfl⟩
theorem zu{j x:aa}{pd:aq}(b:j=[32]\/j=[10]\/j=[32,35,32,114,10])(c:bx x=some x)(a:av x≠ .line)(ax:dD X pd (j++x)):bX X (λr=>r=x) pd (cU (j++x) pd):=by
 rw[sE];rcases b with rfl|rfl|rfl
 ·have:bx ([32]++x)=some x:=by grind[k1]
  rw[cH,rM this a];exact .inl ⟨rfl,rfl⟩
 ·grind[abu,nX,ga]
 ·have:bx ([32,35,32,114,10]++x)=some (10::x):=by simp[nX,ga,lp]
  exact abu hm this c a (ax.sfx ⟨[32,35,32,114],rfl⟩)
end
theorem NR{j:aa}(h:j∈jE):j=[10]\/∃o a,(a=[32]\/a=[10]\/a=[32,35,32,114,10])/\(o=[38,38]\/o=[124,124]\/o=[124]\/o=[59]\/o=[38])/\c3 j=true/\(∀x,bx (j++x)=some (o++(a++x))/\av (o++(a++x))= .op o)/\(o++a).length<=j.length:=by
 have NO:∀{b:UInt8}{t o:aa},b≠10->bs (b::t)=o->o≠[]->av (b::t)= .op o:=by
  intro b t o c d ax;have:av (b::t)=if b=10 then Tok.line else if bs (b::t)≠[] then .op (bs (b::t)) else .word (c8 (b::t)).1 (c8 (b::t)).2:=rfl
  grind
 simp only[jE,kc,qE,tZ] at h;rcases h with rfl|rfl|rfl|rfl|rfl|rfl|rfl|rfl
 ·refine .inr ⟨[38,38],[32],by simp,by simp,rfl,λx=>⟨?_,?_⟩,by decide⟩
  ·show bx (32::38::38::32::x)=_;rw[k1,kO (by decide) (by decide) (by decide)];rfl
  rfl
 ·refine .inr ⟨[124,124],[32],by simp,by simp,rfl,λx=>⟨?_,?_⟩,by decide⟩
  ·show bx (32::124::124::32::x)=_;rw[k1,kO (by decide) (by decide) (by decide)];rfl
  rfl
 ·refine .inr ⟨[124],[32],by simp,by simp,rfl,λx=>⟨?_,?_⟩,by decide⟩
  ·show bx (32::124::32::x)=_;rw[k1,kO (by decide) (by decide) (by decide)];rfl
  rfl
 ·refine .inr ⟨[59],[32],by simp,by simp,rfl,λx=>⟨?_,?_⟩,by decide⟩
  ·show bx (59::32::x)=_;rw[kO (by decide) (by decide) (by decide)];rfl
  rfl
 ·refine .inr ⟨[38],[32],by simp,by simp,rfl,λx=>⟨?_,?_⟩,by decide⟩
  ·show bx (32::38::32::x)=_;rw[k1,kO (by decide) (by decide) (by decide)];rfl
  rfl
 ·simp
 ·refine .inr ⟨[124],[10],by simp,by simp,rfl,λx=>⟨?_,?_⟩,by decide⟩
  ·show bx (32::124::10::x)=_;rw[k1,kO (by decide) (by decide) (by decide)];rfl
  rfl
 ·refine .inr ⟨[59],[32,35,32,114,10],by simp,by simp,rfl,λx=>⟨?_,?_⟩,by decide⟩
  ·show bx (59::32::35::32::114::10::x)=_;rw[kO (by decide) (by decide) (by decide)];rfl
  rfl
theorem aph{j x:aa}(h:j∈jE):∃c,hK (j++x) c:=by
 rcases NR h with rfl|⟨o,e,ad,d,f,a,g⟩
 ·refine⟨10::x,by simp,rfl,by simp[nX,ga],.inl rfl⟩
 ·refine⟨_,?_,?_,(a x).1,.inr ⟨o,(a x).2,?_,?_⟩⟩
  ·grind
  ·cases j with
   |nil=>grind
   |cons b t=>revert h;intro h;simp only[jE,kc,qE,tZ] at h;rcases h with h|h|h|h|h|h|h|h<;>cases h<;>first|rfl|(show(ga _||_||bs _ !=[])=true;simp[bs,lq,xS,List.isPrefixOf])
  ·rcases d with rfl|rfl|rfl|rfl|rfl<;>decide
  grind
theorem bX.abv{X:fw}{n:Nat}(ax:X.c0<=n){σ α:Type}{f:σ->ak (σ⊕α)}(hf:∀s,aj X.E n (f s)){b P:aa->Prop}{s:σ}{r:aa}{pd:aq}(h:bX X b pd (f s r pd))
  (hl:∀s' r1,f s r pd= .ok (.inl s') r1 pd->b r1->r1.length<r.length/\bX X P pd (cb f s' r1 pd)) (c:∀a r1,f s r pd= .ok (.inr a) r1 pd->b r1->P r1):bX X P pd (cb f s r pd):=by
 rw[cH];cases hm:f s r pd with
 |ok x r1 d=>
  rw[hm] at h;cases x with
  |inl s'=>
   show bX X P pd (if r1.length<r.length then cb f s' r1 d else .bad r1);rcases h with⟨ad,rfl⟩|ad
   ·grind
   ·split
    ·exact bX.Ud ax (aj.rep X.ok hf s') ad
    ·trivial
  |inr a=>
   rcases h with⟨ad,rfl⟩|ad
   ·exact .inl ⟨c a r1 hm ad,rfl⟩
   ·exact .inr ad
 |more _ _ _=>trivial
 |bad _=>trivial
 |deep _=>rw[hm] at h;exact h
structure zv(X:fw)(df:ak Unit)(C:aa->Prop):Prop where
 run:∀{c v cN:aa}{pd:aq},C c->hK v cN->dD X pd (c++v)->bX X (λq=>q=cN) pd (df (c++v) pd)
 head:∀{c:aa}(x:aa),C c->bx (c++x)=some (c++x)/\av (c++x)≠ .line/\av (c++x)≠ .eof/\cG (av (c++x)) [33]=false/\c≠[]
def Ui(p:Tok->Bool)(l:List (aa×aa))(v:aa)(q:aa):Prop:=∃fL,fL<:+l/\bx (cZ fL++v)=some q/\p (av q)=false
theorem abw{C:aa->Prop}{l:List (aa×aa)}(h:∀p∈l,p.1∈jE/\C p.2){v a:aa}(b:hK v a):∃c,hK (cZ l++v) c:=by
 cases l with
 |nil=>exact⟨a,b⟩
 |cons p l=>grind[aph,cZ]
theorem NS{E:lx}(ok:E.mW){n:Nat}{df:ak Unit}(aF:aj E n df)(p:Tok->Bool)(w:Nat)(s:Unit):aj E n ((λ(_:Unit)=>ae (bQ []) λt=>if p t=true then ae (b2 w) λ_=>ae (cU.aM [120]) λ_=>ae df λ_=>aW (.inl ()) else aW (.inr ()):Unit->ak (Unit⊕Unit)) s):=
 aj.fP ok λt=>aj.ite (aj.ae ok (aj.dm ok _) λ_=>aj.ae ok ((aj.lines ok).aM _) λ_=>aj.ae ok aF λ_=>aj.ret _) (aj.ret _)
theorem NT{p:Tok->Bool}{w:Nat}{df:ak Unit}{q:aa}{pd:aq}(a:bx q=some q)(aB:p (av q)=false):qB p w df q pd= .ok () q pd:=by unfold qB;rw[cH,aZ (cB a),aS (by grind)];rfl
section
variable{X:fw}{m:Nat}(hm:X.c0<=m){df:ak Unit}(kl:aj X.E m df){C:aa->Prop}(ec:zv X df C)
include hm kl ec
theorem abx{p:Tok->Bool}{w:Nat}(aB:∀t,p t=true->∃o,t= .op o/\o.length=w/\0<w){v n:aa}(e:hK v n)(k:p (av n)=false):∀(l:List (aa×aa))(q:aa)(pd:aq),(∀x∈l,x.1∈jE/\C x.2)->bx (cZ l++v)=some q->dD X pd q->bX X (Ui p l v) pd (qB p w df q pd)
 |[],q,pd,_,d,ax=>by have s:bx v=some q:=d;rw[e.rY] at s;cases s;rw[NT e.idem k];exact .inl ⟨⟨[],List.suffix_rfl,e.rY,k⟩,rfl⟩
 |(j,c)::l,q,pd,h,d,ax=>by
  have m:=lO _ _ _ (Nat.le_refl _) d;cases f:p (av q) with
  |false=>rw[NT m f];exact .inl ⟨⟨(j,c)::l,List.suffix_rfl,d,f⟩,rfl⟩
  |true=>
   obtain⟨o,u,N,D⟩:=aB _ f;obtain⟨E,aF⟩:=h (j,c) (by simp);have he:cZ ((j,c)::l)++v=j++(c++(cZ l++v)):=by simp[cZ]
   rw[he] at d;rcases NR E with rfl|⟨O,i,ad,P,Q,F,R⟩
   ·have:bx ([10]++(c++(cZ l++v)))=some (10::(c++(cZ l++v))):=by simp[nX,ga]
    simp_all[av]
   ·obtain⟨G,H⟩:=F (c++(cZ l++v));rw[G] at d;cases d;rw[H] at u;cases u;obtain⟨y,hu⟩:=abw (l:=l) (λx I=>h x (by grind)) e;obtain⟨e_,J,S,T,U⟩:=ec.head (cZ l++v) aF;have z:dD X pd (i++(c++(cZ l++v))):=ax.sfx (gY _ _);have A:dD X pd (c++(cZ l++v)):=z.sfx (gY _ _);have K:dD X pd y:=(A.sfx (gY _ _)).sfx (dV hu.rY);unfold qB;have L:bX X (λr=>r=y) pd ((ae (bQ []) λt=>if p t=true then ae (b2 w) λ_=>ae (cU.aM [120]) λ_=>ae df λ_=>(aW (.inl ()):ak (Unit⊕Unit)) else aW (.inr ())) (o++(i++(c++(cZ l++v)))) pd):=by rw[aZ (cB m),bo f];rw[aZ (show b2 w (o++(i++(c++(cZ l++v)))) pd= .ok () (i++(c++(cZ l++v))) pd from by grind[b2])];refine bX.ae hm (zu hm ad e_ J z).aM (λa r' _ g=>?_) (λa=>aj.ae X.ok kl λ_=>aj.ret _);subst g;refine bX.ae hm (ec.run aF hu A) (λa r' _ g=>?_) (λa=>aj.ret _);exact .inl ⟨g,rfl⟩
    refine bX.abv hm (NS X.ok kl p w) L (λs' r1 b B=>?_) (λa r1 b B=>?_)
    ·subst B;refine⟨?_,?_⟩
     ·have V:=(dV hu.rY).length_le;grind
     ·have:=abx aB e k l r1 pd (λx I=>h x (by grind)) hu.rY K;exact this.imp λr g=>by obtain⟨fL,hl,M⟩:=g;exact⟨fL,hl.trans (ee _ _),M⟩
    ·
     exfalso;rw[aZ (cB m),bo f] at b;obtain⟨_,W,Y,_,b⟩:=b3 b;obtain⟨_,Z,b5,_,b⟩:=b3 b;obtain⟨_,bZ,hi,_,b⟩:=b3 b;cases b
end
theorem api(t:Tok)(h:pZ t=true):∃o,t= .op o/\o.length=1/\0<1:=⟨_,N4 h,rfl,by decide⟩
section
variable{X:fw}{m:Nat}(hm:X.c0<=m){df:ak Unit}(kl:aj X.E m df){C:aa->Prop}(ec:zv X df C)
include hm kl ec
theorem aby{c v b:aa}{l:List (aa×aa)}{pd:aq}(aF:C c)(h:∀x∈l,x.1∈jE/\C x.2)(d:hK v b)(e:pZ (av b)=false)(ax:dD X pd (c++(cZ l++v))):bX X (Ui pZ l v) pd (fu df (c++(cZ l++v)) pd):=by obtain⟨e_,k,m,f,n⟩:=ec.head (cZ l++v) aF;obtain⟨g,hu⟩:=abw (l:=l) h d;have i:dD X pd g:=(ax.sfx (gY _ _)).sfx (dV hu.rY);rw[T3,aZ (cB e_),f];simp only[ew,cl];rw[aZ (show aW () (c++(cZ l++v)) pd= .ok () (c++(cZ l++v)) pd from rfl)];refine bX.ae hm (ec.run aF hu ax) (λa r' _ j=>?_) (λa=>aj.rep X.ok (λs=>NS X.ok kl pZ 1 s) ());subst j;exact abx hm kl ec api d e l r' pd h hu.rY i
end
def abz(l:List (aa×aa))(v:aa)(q:aa):Prop:=∃fL,fL<:+l/\bx (cZ fL++v)=some q/\pZ (av q)=false/\qC (av q)=false
section
variable{X:fw}{m:Nat}(hm:X.c0<=m){df:ak Unit}(kl:aj X.E m df){C:aa->Prop}(ec:zv X df C)
include hm kl ec
theorem apj{v p:aa}(k:hK v p)(A:pZ (av p)=false)(B:qC (av p)=false):∀(N:Nat)(l:List (aa×aa))(q:aa)(pd:aq),l.length<=N->(∀x∈l,x.1∈jE/\C x.2)->bx (cZ l++v)=some q->pZ (av q)=false->dD X pd q->bX X (abz l v) pd (qB qC 2 (fu df) q pd):=by
 have D:aj X.E m (fu df):=aj.pipe X.ok kl;intro N;induction N with
 |zero=>intro l q pd hl h d e ax;have:l=[]:=nH.1 (by omega);subst this;have E:bx v=some q:=d;rw[k.rY] at E;cases E;rw[NT k.idem B];exact .inl ⟨⟨[],fQ,k.rY,A,B⟩,rfl⟩
 |succ N K=>
  intro l q pd hl h d e ax;have s:=lO _ _ _ (cX _) d;cases f:qC (av q) with
  |false=>rw[NT s f];exact .inl ⟨⟨l,fQ,d,e,f⟩,rfl⟩
  |true=>
   cases l with
   |nil=>grind
   |cons y l=>
    obtain⟨j,c⟩:=y;obtain⟨L,aF⟩:=h (j,c) (by simp)
    have g:∀x∈l,x.1∈jE/\C x.2:=λx F=>h x (by grind)
    have he:cZ ((j,c)::l)++v=j++(c++(cZ l++v)):=by simp[cZ]
    rw[he] at d
    obtain⟨o,G,Z⟩:∃o,av q= .op o/\o.length=2:=by unfold qC at f;grind
    rcases NR L with rfl|⟨gI,n,ad,af,au,M,bu⟩
    ·have:bx ([10]++(c++(cZ l++v)))=some (10::(c++(cZ l++v))):=by simp[nX,ga]
     simp_all[av]
    ·obtain⟨O,P⟩:=M (c++(cZ l++v));rw[O] at d;cases d;rw[P] at G;cases G;obtain⟨e_,Q,kD,m5,hO⟩:=ec.head (cZ l++v) aF;have H:dD X pd (n++(c++(cZ l++v))):=ax.sfx (gY _ _);have I:dD X pd (c++(cZ l++v)):=H.sfx (gY _ _);unfold qB;have R:bX X (Ui pZ l v) pd ((ae (bQ []) λt=>if qC t=true then ae (b2 2) λ_=>ae (cU.aM [120]) λ_=>ae (fu df) λ_=>(aW (.inl ()):ak (Unit⊕Unit)) else aW (.inr ())) (o++(n++(c++(cZ l++v)))) pd):=by rw[aZ (cB s),bo f];rw[aZ (show b2 2 (o++(n++(c++(cZ l++v)))) pd= .ok () (n++(c++(cZ l++v))) pd from by grind[b2])];refine bX.ae hm (zu hm ad e_ Q H).aM (λa r' _ i=>?_) (λa=>aj.ae X.ok D λ_=>aj.ret _);subst i;refine bX.ae hm (aby hm kl ec aF g k A I) (λa r' _ i=>?_) (λa=>aj.ret _);exact .inl ⟨i,rfl⟩
     refine bX.abv hm (NS X.ok D qC 2) R (λs' r1 b J=>?_) (λa r1 b J=>?_)
     ·obtain⟨fL,u,w,S⟩:=J;have T:cZ fL++v<:+c++(cZ l++v):=by obtain⟨z,rfl⟩:=u;grind[cZ]
      refine⟨?_,?_⟩
      ·have cV:=(dV w).length_le;grind
      ·have U:dD X pd r1:=(I.sfx T).sfx (dV w);have:=K fL r1 pd (by grind) (λx F=>g x (u.subset F)) w S U;exact this.imp λr i=>by obtain⟨V,W,Y⟩:=i;exact⟨V,(W.trans u).trans (ee _ _),Y⟩
     ·exfalso;rw[aZ (cB s),bo f] at b;obtain⟨_,aC,dv,_,b⟩:=b3 b;obtain⟨_,cw,b5,_,b⟩:=b3 b;obtain⟨_,bZ,hi,_,b⟩:=b3 b;cases b
end
section
variable{X:fw}{m:Nat}(hm:X.c0<=m){df:ak Unit}(kl:aj X.E m df){C:aa->Prop}(ec:zv X df C)
include hm kl ec
theorem apk{c v b:aa}{l:List (aa×aa)}{pd:aq}(aF:C c)(h:∀x∈l,x.1∈jE/\C x.2)(e:hK v b)(f:pZ (av b)=false)(i:qC (av b)=false)(ax:dD X pd (c++(cZ l++v))):bX X (abz l v) pd (hs (fu df) (c++(cZ l++v)) pd):=by
 have j:aj X.E m (fu df):=aj.pipe X.ok kl;rw[T4];refine bX.ae hm (aby hm kl ec aF h e f ax) (λa q _ k=>?_) (λa=>aj.rep X.ok (λs=>NS X.ok j qC 2 s) ());obtain⟨fL,d,g,n⟩:=k;have o:cZ fL++v<:+c++(cZ l++v):=by obtain⟨z,rfl⟩:=d;grind[cZ]
 have p:dD X pd q:=(ax.sfx o).sfx (dV g);have:=apj hm kl ec e f i fL.length fL q pd (cX _) (λx t=>h x (d.subset t)) g n p;exact this.imp λr u=>by obtain⟨w,y,A⟩:=u;exact⟨w,y.trans d,A⟩
end
theorem JR{E:lx}(ok:E.mW){n:Nat}{ao:ak Unit}(h:aj E n ao)(c:Ctx)(no:Bool)(s:Nat):aj E n (eh ao c no s):=by
 unfold eh;refine aj.fP ok λt=>aj.ite (aj.ite (aj.ret _) (aj.b7 _)) (aj.ite (aj.ret _) (aj.ae ok h λ_=>aj.fP ok λt=>?_));unfold hX;cases t with
 |eof=>simp[aj.ret]
 |line=>grind[aj.ae,aj.lines,aj.ret]
 |word _ _=>exact aj.bK
 |op o=>exact aj.ite (aj.ae ok (aj.dm ok _) λ_=>aj.ae ok (aj.lines ok) λ_=>aj.ret _) (aj.ite (aj.ret _) aj.bK)
theorem bX.sV{X:fw}{n:Nat}(ax:X.c0<=n){σ α β:Type}{f:σ->ak (σ⊕α)}(hf:∀s,aj X.E n (f s)){i P:aa->Prop}{m:ak β}{k:β->ak (σ⊕α)}{r r0:aa}{pd:aq}(h:bX X i pd (m r pd))
  (hk:∀a r',m r pd= .ok a r' pd->i r'->bX X P pd (cO f r0 (k a r' pd))) (he:∀a,aj X.E n (k a)):bX X P pd (cO f r0 (Go.Eng.ae m k r pd)):=by
 unfold Go.Eng.ae;cases hm:m r pd with
 |ok a r' e=>
  rw[hm] at h;rcases h with⟨ad,rfl⟩|ad
  ·grind
  ·simp only;have c:oH X (k a r' e):=by
    have:=he a r' e (lx.H.NM ad ax);cases d:k a r' e with
    |ok _ _ _=>rw[d] at this;exact lx.H.down X.ok ad this.1 this.2
    |more _ _ _=>trivial
    |bad _=>trivial
    |deep _=>rw[d] at this;exact this
   cases d:k a r' e with
   |ok x g j=>
    rw[d] at c;cases x with
    |inl s'=>
     show bX X P pd (if g.length<r0.length then cb f s' g j else .bad g);split
     ·exact bX.Ud ax (aj.rep X.ok hf s') c
     ·trivial
    |inr b=>exact .inr c
   |more _ _ _=>trivial
   |bad _=>trivial
   |deep _=>rw[d] at c;exact c
 |more _ _ _=>trivial
 |bad _=>trivial
 |deep _=>rw[hm] at h;exact h
section
variable{X:fw}{m:Nat}(hm:X.c0<=m){df:ak Unit}(kl:aj X.E m df){C:aa->Prop}(ec:zv X df C)(uL:∀{c:aa}(x:aa)(k:Ctx),C c->dT k (av (c++x))=false)
include hm kl ec uL
theorem abC{v g i:aa}{ctx:Ctx}{no:Bool}{pd:aq}(A:hK v g)(G:pZ (av g)=false)(H:qC (av g)=false)
  (bl:∀k r0,g.length<r0.length->bX X (λr=>r=i) pd (cO (eh (hs (fu df)) ctx no) r0 (hX ctx k (av g) g pd))) {l:List (aa×aa)} {c:aa} {k:Nat} (aF:C c) (h:∀x∈l,x.1∈jE/\C x.2) (ax:dD X pd (c++(cZ l++v)))
  (qN:∀(j b:aa)(d:List (aa×aa)),(j,b)::d<:+l->∀(n:Nat),C b->dD X pd (b++(cZ d++v))->bX X (λr=>r=i) pd (cb (eh (hs (fu df)) ctx no) n (b++(cZ d++v)) pd)):bX X (λr=>r=i) pd (cb (eh (hs (fu df)) ctx no) k (c++(cZ l++v)) pd):=by
 have e7:aj X.E m (hs (fu df)):=aj.pP X.ok (aj.pipe X.ok kl);obtain⟨e_,b,I,m5,J⟩:=ec.head (cZ l++v) aF;rw[cH];have K:eh (hs (fu df)) ctx no k (c++(cZ l++v)) pd=ae (hs (fu df)) (λ_=>ae (bQ []) (hX ctx k)) (c++(cZ l++v)) pd:=by unfold eh;rw[aZ (cB e_),aS I,aS (by grind)]
 rw[K]
 have p:∀k,aj X.E m (ae (bQ []) (hX ctx k)):=λk=>aj.fP X.ok λt=>by
  unfold hX;cases t with
  |eof=>simp[aj.ret]
  |line=>exact aj.ae X.ok (aj.lines X.ok) λ_=>aj.ret _
  |word _ _=>exact aj.bK
  |op o=>exact aj.ite (aj.ae X.ok (aj.dm X.ok _) λ_=>aj.ae X.ok (aj.lines X.ok) λ_=>aj.ret _) (aj.ite (aj.ret _) aj.bK)
 refine bX.sV hm (JR X.ok e7 ctx no) (apk hm kl ec aF h A G H ax) (λa q bJ L=>?_) (λ_=>p k);obtain⟨fL,s,e,M,N⟩:=L;have O:=lO _ _ _ (Nat.le_refl _) e;rw[aZ (cB O)];have lU:=List.length_pos_iff.2 J;have P:cZ fL++v<:+c++(cZ l++v):=by obtain⟨z,rfl⟩:=s;grind[cZ]
 have Q:(cZ fL++v).length<=(cZ l++v).length:=by obtain⟨z,rfl⟩:=s;simp[cZ]
 have R:=(dV e).length_le;have S:q.length<(c++(cZ l++v)).length:=by grind
 have u:dD X pd q:=(ax.sfx P).sfx (dV e);cases fL with
 |nil=>have T:bx v=some q:=e;rw[A.rY] at T;grind
 |cons y d=>
  obtain⟨j,b⟩:=y;obtain⟨U,V⟩:=h (j,b) (s.subset (by simp));have he:cZ ((j,b)::d)++v=j++(b++(cZ d++v)):=by simp[cZ]
  rw[he] at e Q R;obtain⟨B,D,d3,d4,d5⟩:=ec.head (cZ d++v) V
  have E:∀(r:aa),r=b++(cZ d++v)->r.length<(c++(cZ l++v)).length->dD X pd r->bX X (λr=>r=i) pd (cO (eh (hs (fu df)) ctx no) (c++(cZ l++v)) (aW (.inl (k+1)) r pd)):=by rintro r rfl f NQ;show bX X _ pd (if(b++(cZ d++v)).length<(c++(cZ l++v)).length then cb (eh (hs (fu df)) ctx no) (k+1) (b++(cZ d++v)) pd else .bad _);grind
  rcases NR U with rfl|⟨o,w,ad,af,au,W,bu⟩
  ·have Y:bx ([10]++(b++(cZ d++v)))=some (10::(b++(cZ d++v))):=by simp[nX,ga]
   rw[Y] at e;cases e;have Z:av (10::(b++(cZ d++v)))= .line:=rfl;rw[Z];unfold hX;simp only;refine bX.sV hm (JR X.ok e7 ctx no) (zu hm (j:=[10]) (.inr (.inl rfl)) B D u) (λa r _ f=>?_) (λ_=>aj.ret _);refine E r f ?_ (by rw[f];exact u.sfx (ee _ _));rw[f];exact Nat.lt_trans (xW _) S
  ·obtain⟨cq,n⟩:=W (b++(cZ d++v));rw[cq] at e;cases e;rw[n] at M N⊢;have aN:o=[59]\/o=[38]:=by simp_all[qC,pZ]
   unfold hX;simp only;rw[bo aN];have hw:o.length=1:=by grind
   rw[aZ (show b2 1 (o++(w++(b++(cZ d++v)))) pd= .ok () (w++(b++(cZ d++v))) pd from by grind[b2])];have F:dD X pd (w++(b++(cZ d++v))):=u.sfx (gY _ _);refine bX.sV hm (JR X.ok e7 ctx no) (zu hm ad B D F) (λa r _ f=>?_) (λ_=>aj.ret _);refine E r f ?_ (by rw[f];exact F.sfx (gY _ _));grind
theorem abD{v a b:aa}{ctx:Ctx}{no:Bool}{pd:aq}(d:hK v a)(e:pZ (av a)=false)(f:qC (av a)=false)
  (bl:∀k r0,a.length<r0.length->bX X (λr=>r=b) pd (cO (eh (hs (fu df)) ctx no) r0 (hX ctx k (av a) a pd))):∀(N:Nat)(l:List (aa×aa))(c:aa)(k:Nat),l.length<=N->C c->(∀x∈l,x.1∈jE/\C x.2)->dD X pd (c++(cZ l++v))->bX X (λr=>r=b) pd (cb (eh (hs (fu df)) ctx no) k (c++(cZ l++v)) pd):=by
 have e7:aj X.E m (hs (fu df)):=aj.pP X.ok (aj.pipe X.ok kl);intro N;induction N with
 |zero=>
  intro l c k hl aF h ax;have:l=[]:=nH.1 (by omega);subst this
  exact abC hm kl ec uL d e f bl aF h ax (λj g i n=>by grind)
 |succ N o=>intro l c k hl aF h ax;refine abC hm kl ec uL d e f bl aF h ax (λj g i n p q s=>?_);grind
end
theorem apm{X:fw}{ao:ak Unit}{ctx:Ctx}{no:Bool}{pd:aq}{a o:aa}(b:av a= .op o)(ad:o≠[59])(c:o≠[38])(he:dT ctx (.op o)=true)(k:Nat)(r0:aa):bX X (λr=>r=a) pd (cO (eh ao ctx no) r0 (hX ctx k (av a) a pd)):=by rw[b];unfold hX;simp only;rw[aS (by grind),if_pos he];exact .inl ⟨rfl,rfl⟩
theorem apn{X:fw}{ao:ak Unit}{ctx:Ctx}{no:Bool}{pd:aq}{x:aa}{k:Nat}(a:bx x=some x)(bc:av x≠ .eof)(he:dT ctx (av x)=true):bX X (λr=>r=x) pd (cb (eh ao ctx no) (k+1) x pd):=by
 rw[cH];have:eh ao ctx no (k+1) x pd= .ok (.inr (k+1)) x pd:=by unfold eh;rw[aZ (cB a),if_neg bc,if_pos (by grind)];rfl
 rw[this];exact .inl ⟨rfl,rfl⟩
section
variable{X:fw}{m:Nat}(hm:X.c0<=m){ao:ak Unit}(e7:aj X.E m ao)
include hm e7
theorem abE{ctx:Ctx}{no:Bool}{pd:aq}{u x:aa}{k:Nat}{r0:aa}(hl:bX X (λr=>r=x) pd (cU u pd))(b:x.length<r0.length)(d:bx x=some x)(bc:av x≠ .eof)(he:dT ctx (av x)=true):bX X (λr=>r=x) pd (cO (eh ao ctx no) r0 (ae cU (λ_=>aW (.inl (k+1))) u pd)):=by refine bX.sV hm (JR X.ok e7 ctx no) hl (λa r _ c=>?_) (λ_=>aj.ret _);subst c;show bX X _ pd (if r.length<r0.length then cb (eh ao ctx no) (k+1) r pd else .bad r);simp_all[apn]
theorem apo{ctx:Ctx}{no:Bool}{pd:aq}{x:aa}(b:bx x=some x)(c:av x≠ .line)(bc:av x≠ .eof)(he:dT ctx (av x)=true)(ax:dD X pd (10::x))(k:Nat)(r0:aa)(a:(10::x).length<r0.length):bX X (λr=>r=x) pd (cO (eh ao ctx no) r0 (hX ctx k (av (10::x)) (10::x) pd)):=by have d:av (10::x)= .line:=rfl;rw[d];unfold hX;simp only;exact abE hm e7 (zu hm (j:=[10]) (.inr (.inl rfl)) b c ax) (Nat.lt_trans (Nat.lt_succ_self _) a) b bc he
theorem apq{ctx:Ctx}{no:Bool}{pd:aq}{y x:aa}(a:bx y=some x)(c:av x≠ .line)(bc:av x≠ .eof)(he:dT ctx (av x)=true)(d:av (59::y)= .op [59])(k:Nat)(r0:aa)(b:(59::y).length<r0.length):bX X (λr=>r=x) pd (cO (eh ao ctx no) r0 (hX ctx k (av (59::y)) (59::y) pd)):=by have e:=lO _ _ _ (Nat.le_refl _) a;have hl:=(dV a).length_le;rw[d];unfold hX;simp only;rw[if_pos (by simp),aZ (show b2 1 (59::y) pd= .ok () y pd from rfl)];refine abE hm e7 ?_ (by grind) e bc he;rw[sG a c];exact .inl ⟨rfl,rfl⟩
end
structure jb(X:fw)(ao:ak Unit)(ctx:Ctx)(no:Bool)(v cN eY:aa)(pd:aq):Prop where
 ce:hK v cN
 abF:pZ (av cN)=false
 abG:qC (av cN)=false
 go:∀k r0,cN.length<r0.length->bX X (λr=>r=eY) pd (cO (eh ao ctx no) r0 (hX ctx k (av cN) cN pd))
theorem hK.op{o:aa}{t:aa}(c:bx t=some t)(a:av t= .op o)(ad:e2 o=false)(d:o≠[40]):hK t t:=by
 have e:=iq a;refine⟨?_,?_,c,.inr ⟨o,a,ad,d⟩⟩
 ·grind
 ·cases t with
  |nil=>rfl
  |cons b u=>show(ga b||b==10||bs (b::u)!=[])=true;grind
theorem hK.nl(x:aa):hK (10::x) (10::x):=⟨by simp,rfl,by simp[nX,ga],.inl rfl⟩
section
variable{X:fw}{m:Nat}(hm:X.c0<=m){df:ak Unit}(kl:aj X.E m df){C:aa->Prop}(ec:zv X df C)(uL:∀{c:aa}(x:aa)(k:Ctx),C c->dT k (av (c++x))=false)
theorem jb.op{ao:ak Unit}{ctx:Ctx}{no:Bool}{pd:aq}{v o:aa}(c:bx v=some v)(a:av v= .op o)(he:dT ctx (.op o)=true):jb X ao ctx no v v v pd:=by
 have b:o=[41]\/o=[59,59]:=by cases ctx<;>simp[dT,cG] at he<;>first|grind|grind
 refine⟨hK.op c a ?_ ?_,?_,?_,λk r0 _=>apm a ?_ ?_ he k r0⟩
 ·rcases b with rfl|rfl<;>decide
 ·grind
 ·rw[a];rcases b with rfl|rfl<;>decide
 ·rw[a];rcases b with rfl|rfl<;>decide
 ·grind
 grind
include hm in
theorem jb.nl{ao:ak Unit}(e7:aj X.E m ao){ctx:Ctx}{no:Bool}{pd:aq}{x:aa}(hx:bx x=some x)(ht:av x≠ .line)(bc:av x≠ .eof)(he:dT ctx (av x)=true)(ax:dD X pd (10::x)):jb X ao ctx no (10::x) (10::x) x pd:=
 ⟨hK.nl x,rfl,rfl,λk r0 hl=>apo hm e7 hx ht bc he ax k r0 hl⟩
include hm in
theorem jb.abH{ao:ak Unit}(e7:aj X.E m ao){ctx:Ctx}{no:Bool}{pd:aq}{y x:aa}(bp:bx y=some x)(ht:av x≠ .line)(bc:av x≠ .eof)(he:dT ctx (av x)=true)(ej:av (59::y)= .op [59]):jb X ao ctx no (59::y) (59::y) x pd:=
 ⟨hK.op (kO (by decide) (by decide) (by decide)) ej (by decide) (by decide),by rw[ej];decide,by rw[ej];decide,λk r0 hl=>apq hm e7 bp ht bc he ej k r0 hl⟩
include hm kl ec uL
theorem apr{pre t v e d:aa}{ctx:Ctx}{no:Bool}{pd:aq}(aB:pre=[]\/pre=[32]\/pre=[10])(f:u6 C t)(bl:jb X (hs (fu df)) ctx no v e d pd)(ax:dD X pd (pre++(t++v))):bX X (λr=>r=d) pd (oz (hs (fu df)) ctx no (pre++(t++v)) pd):=by
 obtain⟨c,l,ad,g,rfl⟩:=f;rw[jc] at ax⊢;obtain⟨e_,b,j,k,n⟩:=ec.head (cZ l++v) ad;have h:dD X pd (c++(cZ l++v)):=ax.sfx (gY _ _);rw[uO];have e7:aj X.E m (hs (fu df)):=aj.pP X.ok (aj.pipe X.ok kl);refine bX.ae (P:=λr=>r=c++(cZ l++v)) hm (bX.aM ?_) (λa r' _ i=>?_) (λ_=>aj.rep X.ok (λs=>JR X.ok e7 ctx no s) 0)
 ·rcases aB with rfl|rfl|rfl
  ·rw[sY,sG e_ b];exact .inl ⟨rfl,rfl⟩
  ·exact zu hm (.inl rfl) e_ b ax
  ·exact zu hm (.inr (.inl rfl)) e_ b ax
 ·subst i;exact abD hm kl ec uL bl.ce bl.abF bl.abG bl.go l.length l c 0 (cX _) ad g h
end
def zw(c:aa):Prop:=∃b t,c=b::t/\ga b=false/\b≠35/\b≠92/\b≠10/\b≠33/\(b=40\/o2 b=false/\(([125,116,101,102,100]:aa).contains b=false\/∃k u,t=k::u/\(b=101/\k=99\/b=102/\k≠105)))
theorem aps{r w:aa}(h:cG (av r) w=true):w<+:r:=by grind[Ga,Fo,aam]
theorem zw.facts{c:aa}(h:zw c)(x:aa):(bx (c++x)=some (c++x)/\av (c++x)≠ .line/\av (c++x)≠ .eof/\cG (av (c++x)) [33]=false/\c≠[])/\∀k,dT k (av (c++x))=false:=by
 obtain⟨b,t,rfl,ad,f,g,i,o,e⟩:=h
 have bc:∀w:aa,w<+:b::t++x->w.head?≠none->w.head?=some b:=by
  intro w d ax;cases w with
  |nil=>grind
  |cons a w=>grind
 have hW:∀w∈([[33],[125],iX,il,hR,fe,gU,iO,ev]:bt),cG (av (b::t++x)) w=false:=by
  intro w d;cases a8:cG (av (b::t++x)) w with
  |false=>rfl
  |true=>
   exfalso;have aB:=aps a8;have j:=bc w aB ((by decide:∀w∈([[33],[125],iX,il,hR,fe,gU,iO,ev]:bt),w.head?≠none) w d);rcases e with rfl|⟨l,aF|⟨k,u,rfl,hk⟩⟩
   ·exact(by decide:∀w∈([[33],[125],iX,il,hR,fe,gU,iO,ev]:bt),w.head?≠some 40) w d j
   ·have:([33,125,116,101,102,100]:aa).contains b=true:=by
     have:∀w∈([[33],[125],iX,il,hR,fe,gU,iO,ev]:bt),∀b,w.head?=some b->([33,125,116,101,102,100]:aa).contains b=true:=by decide
     grind
    grind
   ·simp only[kc,qE,tZ] at d;rcases hk with⟨rfl,rfl⟩|⟨rfl,hk⟩
    ·rcases d with rfl|rfl|rfl|rfl|rfl|rfl|rfl|rfl|rfl<;>simp[iX,il,hR,fe,gU,iO,ev] at aB
    ·rcases d with rfl|rfl|rfl|rfl|rfl|rfl|rfl|rfl|rfl<;>simp[iX,il,hR,fe,gU,iO,ev] at aB;grind
 have q:av (b::t++x)= .op [40]\/∃w p,av (b::t++x)= .word w p:=by
  rw[gX,Da,aS i];rcases e with rfl|⟨l,_⟩
  ·simp[Ye]
  simp_all[oB]
 refine⟨⟨kO ad f g,?_,?_,hW _ (by simp),by simp⟩,λk=>?_⟩
 ·grind
 ·grind
 ·have m:(av (b::t++x)== .eof)=false:=by grind
  have n:(av (b::t++x)== .op [41])=false:=by grind
  have r:(av (b::t++x)== .op [59,59])=false:=by grind
  unfold dT;cases k
  ·exact m
  ·exact n
  ·grind
  ·grind
  ·grind
  ·grind
  ·grind
  ·simp_all
  simp_all
def zx(d:Nat)(c:aa):Prop:=zp d c\/c=[97]\/c=[98]\/c=[99]
theorem zx.aE{d:Nat}{c:aa}(h:zx d c):zw c:=by
 have f:∀{W e:aa->Prop},rW W e c->zw c:=by
  rintro W e ⟨x,ws,r,ad,a,rfl,n⟩;simp only[sT,kc,qE,tZ] at ad;rcases ad with rfl|rfl|rfl|rfl
  ·exact⟨_,_,rfl,by decide,by decide,by decide,by decide,by decide,.inr ⟨by decide,.inl (by decide)⟩⟩
  ·exact⟨_,_,rfl,by decide,by decide,by decide,by decide,by decide,.inr ⟨by decide,.inr ⟨_,_,rfl,.inl ⟨rfl,rfl⟩⟩⟩⟩
  ·exact⟨_,_,rfl,by decide,by decide,by decide,by decide,by decide,.inr ⟨by decide,.inl (by decide)⟩⟩
  ·exact⟨_,_,rfl,by decide,by decide,by decide,by decide,by decide,.inr ⟨by decide,.inl (by decide)⟩⟩
 rcases h with h|rfl|rfl|rfl
 ·cases d with
  |zero=>exact f h
  |succ d=>
   rcases h with h|h
   ·grind
   ·have h0:∀{b:UInt8}{t:aa},ga b=false/\b≠35/\b≠92/\b≠10/\b≠33/\o2 b=false/\([125,116,101,102,100]:aa).contains b=false->zw (b::t):=λ⟨g,a2,a3,i,j,l,m⟩=>⟨_,_,rfl,g,a2,a3,i,j,.inr ⟨l,.inl m⟩⟩
    have hf:∀{k:UInt8}{t:aa},k≠105->zw (102::k::t):=λhk=>⟨_,_,rfl,by decide,by decide,by decide,by decide,by decide,.inr ⟨by decide,.inr ⟨_,_,rfl,.inr ⟨rfl,hk⟩⟩⟩⟩
    rcases h with⟨t,ad,rfl⟩|⟨t,ad,rfl⟩|⟨t,u,ad,a,rfl⟩|⟨t,u,ad,a,rfl⟩|⟨t,u,ad,a,rfl⟩|⟨w,u,ad,a,rfl⟩|rfl|⟨w,u,ad,a,rfl⟩|⟨t,ad,rfl⟩
    ·exact⟨40,_,rfl,by decide,by decide,by decide,by decide,by decide,.inl rfl⟩
    ·exact h0 (by decide)
    ·exact h0 (by decide)
    ·exact h0 (by decide)
    ·exact h0 (by decide)
    ·grind
    ·grind
    ·exact h0 (by decide)
    grind
 all_goals exact⟨_,_,rfl,by decide,by decide,by decide,by decide,by decide,.inr ⟨by decide,.inl (by decide)⟩⟩
structure sW(X:fw)(d n:Nat):Prop where
 ls:∀{pre t v cN eY:aa}{ctx:Ctx}{no:Bool}{pd:aq},(pre=[]\/pre=[32]\/pre=[10])->u6 (zx d) t->jb X (jn true n) ctx no v cN eY pd->dD X pd (pre++(t++v))->bX X (λr=>r=eY) pd ((a1 true n).ls ctx no (pre++(t++v)) pd)
 wd:∀w,hZ d w->eP X (a1 true n).dl w
 rd:∀{t v cN eY:aa}{ctx:Ctx}{no:Bool}{pd:aq}(k:Nat),u6 (zx d) t->jb X (jn true n) ctx no v cN eY pd->dD X pd (t++v)->bX X (λr=>r=eY) pd (cb (eh (jn true n) ctx no) k (t++v) pd)
theorem u6.imp{C a:aa->Prop}(h:∀c,C c->a c){t:aa}(d:u6 C t):u6 a t:=by obtain⟨c,l,ad,b,e⟩:=d;exact⟨c,l,h c ad,λp aB=>⟨(b p aB).1,h _ (b p aB).2⟩,e⟩
theorem iv.cc{d:Nat}{t:aa}(h:iv d t):u6 (zx d) t:=by rw[NK] at h;exact h.imp λc aF=> .inl aF
theorem NU{d:Nat}{b:UInt8}(h:b=97\/b=98\/b=99):u6 (zx d) [b]:=by
 refine⟨[b],[],?_,by simp,by rfl⟩;rcases h with rfl|rfl|rfl
 ·exact .inr (.inl rfl)
 ·exact .inr (.inr (.inl rfl))
 ·exact .inr (.inr (.inr rfl))
theorem sW.abJ{X:fw}{d n:Nat}(h:sW X d n):Ug X n d:=by intro t v pd a ax;have:=h.ls (pre:=[]) (t:=t) (v:=41::v) (ctx:= .paren) (no:=true) (pd:=pd) (.inl rfl) a.cc (jb.op (zr v) (zt v) rfl) ax;grind
theorem apt{l:dU}{o r:aa}{pd:aq}:hS l (.op o) r pd=ae ((l.ls .paren false).aM [41]) (λ_=>jR [41]) (r.drop 1) pd:=rfl
theorem Bh{l:dU}{w r:aa}{p:Bool}{pd:aq}:hS l (.word w p) r pd=(if w=[123] then ae ((l.ls .q5 false).aM [10,125]) λ_=>cY [125]
 else if w=m_ then q6 l
 else if w=ny then pO l l.dl
 else if w=pL then q7 l l.dl
 else ae ((l.ls .pM false).aM er) λ_=>iP l er:ak Unit) (r.drop w.length) pd:=rfl
def Gy(l:dU):Unit->ak (Unit⊕Unit):=λ_=>ae ((l.ls .rL false).aM ([10]++iX++[32,120,10]++fe)) λ_=>ae (cY iX) λ_=>ae ((l.ls .qo false).aM (10::fe)) λ_=>
    ae (bQ []) λt=>if cG t il then ae (cY il) λ_=>aW (.inl ()) else
     if cG t hR then ae (cY hR) λ_=>ae ((l.ls .jY false).aM (10::fe)) λ_=>ae (cY fe) λ_=>aW (.inr ()) else ae (cY fe) λ_=>aW (.inr ())
theorem abK(l:dU):q6 l=cb (Gy l) ():=rfl
theorem NV{b:UInt8}{t:aa}(h:b≠59):av (59::b::t)= .op [59]:=by rw[mQ (by simp)];simp[bs,lq,xS,List.isPrefixOf,h.symm]
theorem JS{t:aa}:av (59::59::t)= .op [59,59]:=by rfl
theorem xP(t:aa):bx (59::t)=some (59::t):=kO (by decide) (by decide) (by decide)
theorem jb.Bi{X:fw}{n m:Nat}(hm:X.c0<=m)(e7:aj X.E m (jn true n)){ctx:Ctx}{no:Bool}{pd:aq}{w v:aa}(ax:w≠[])(a:w.all rO=true)(b:w.head?≠some 35)(c:c3 v=true)(he:dT ctx (.word w true)=true)(d:dD X pd (10::(w++v))):jb X (jn true n) ctx no (10::(w++v)) (10::(w++v)) (w++v) pd:=by grind[n0,jb.nl]
theorem jb.abL{X:fw}{n m:Nat}(hm:X.c0<=m)(e7:aj X.E m (jn true n)){ctx:Ctx}{no:Bool}{pd:aq}{w v:aa}(ax:w≠[])(a:w.all rO=true)(c:w.head?≠some 35)(d:c3 v=true)(he:dT ctx (.word w true)=true)(e:w.head?≠some 59):jb X (jn true n) ctx no (59::(w++v)) (59::(w++v)) (w++v) pd:=by
 obtain⟨f,g⟩:=n0 ax a c d;cases w with
 |nil=>grind
 |cons b t=>grind[jb.abH,NV]
theorem jb.Uk{X:fw}{n m:Nat}(hm:X.c0<=m)(e7:aj X.E m (jn true n)){ctx:Ctx}{no:Bool}{pd:aq}{w v:aa}(ax:w≠[])(a:w.all rO=true)(b:w.head?≠some 35)(c:c3 v=true)(he:dT ctx (.word w true)=true):jb X (jn true n) ctx no (59::32::(w++v)) (59::32::(w++v)) (w++v) pd:=by grind[n0,jb.abH,k1,NV]
theorem bX.ok{X:fw}{α:Type}{a:α}{r:aa}{pd:aq}:bX X (λq=>q=r) pd (.ok a r pd):= .inl ⟨rfl,rfl⟩
theorem Dv{E:lx}(ok:E.mW){m:Nat}(hm:xl E m)(s:Unit):aj E m (Gy (a1 true m) s):=aj.ae ok ((hm.ls _ _).aM _) λ_=>aj.ae ok (aj.cY ok _) λ_=>aj.ae ok ((hm.ls _ _).aM _) λ_=>
 aj.fP ok λt=>aj.ite (aj.ae ok (aj.cY ok _) λ_=>aj.ret _) (aj.ite (aj.ae ok (aj.cY ok _) λ_=>aj.ae ok ((hm.ls _ _).aM _) λ_=>aj.ae ok (aj.cY ok _) λ_=>aj.ret _) (aj.ae ok (aj.cY ok _) λ_=>aj.ret _))
theorem abM{E:lx}(ok:E.mW)(m:Nat):aj E (m+1) (jn true (m+1)):=aj.pP ok (aj.pipe ok (aj.command ok (oC ok m)))
section
variable{X:fw}{m:Nat}(hm:X.c0<=m)(e7:aj X.E m (jn true m)){d:Nat}(kw:sW X d m)
include hm e7 kw
theorem apu{t v:aa}{pd:aq}(b:iv d t)(ax:dD X pd ([40]++t++[41]++v)):bX X (λr=>r=v) pd (hS (a1 true m) (.op [40]) ([40]++t++[41]++v) pd):=by
 have he:[40]++t++[41]++v=40::(t++(41::v)):=by simp
 rw[he] at ax⊢;rw[apt];refine bX.ae hm (kw.ls (pre:=[]) (v:=41::v) (.inl rfl) b.cc (jb.op (zr v) (zt v) rfl) (ax.sfx ⟨[40],rfl⟩)).aM (λa r' _ c=>?_) (λ_=>aj.jR X.ok _);grind[FJ,zr,zt,bX.ok]
theorem apv{t v:aa}{pd:aq}(b:c3 v=true)(e:iv d t)(ax:dD X pd ([123,32]++(t++[10])++[125]++v)):bX X (λr=>r=v) pd (hS (a1 true m) (.word [123] true) ([123,32]++(t++[10])++[125]++v) pd):=by
 have he:[123,32]++(t++[10])++[125]++v=123::([32]++(t++(10::([125]++v)))):=by simp
 rw[he] at ax⊢;rw[Bh,bo rfl];have c:dD X pd ([32]++(t++(10::([125]++v)))):=ax.sfx ⟨[123],rfl⟩;refine bX.ae hm (kw.ls (.inr (.inl rfl)) e.cc (jb.Bi (w:=[125]) hm e7 (by simp) (by decide) (by decide) b rfl (c.sfx ⟨32::t,by simp⟩)) c).aM (λa r' _ f=>?_) (λ_=>aj.cY X.ok _);subst f;rw[tx (by simp) (by decide) (by decide) b];exact bX.ok
theorem apw{t u v:aa}{pd:aq}(b:c3 v=true)(g:iv d t)(hu:iv d u)(ax:dD X pd ([105,102,32]++(t++[59])++[32,116,104,101,110,32]++(u++[10])++[102,105]++v)):bX X (λr=>r=v) pd (hS (a1 true m) (.word m_ true) ([105,102,32]++(t++[59])++[32,116,104,101,110,32]++(u++[10])++[102,105]++v) pd):=by
 have bj:=oC X.ok m;have he:[105,102,32]++(t++[59])++[32,116,104,101,110,32]++(u++[10])++[102,105]++v=m_++([32]++(t++(59::32::(iX++([32]++(u++(10::(fe++v)))))))):=by simp[m_,iX,fe]
 rw[he] at ax⊢;rw[Bh,aS (by decide),bo rfl,pf,abK,cH];have e:=ax.sfx (gY m_ _);have f:dD X pd ([32]++(u++(10::(fe++v)))):=e.sfx ⟨32::t++59::32::iX,by simp⟩;have h:dD X pd (10::(fe++v)):=f.sfx ⟨32::u,by simp⟩;unfold Gy;refine bX.sV hm (Dv X.ok bj) (kw.ls (.inr (.inl rfl)) g.cc (jb.Uk (w:=iX) hm e7 (by decide) (by decide) (by decide) rfl rfl) e).aM (λa r' _ c=>?_) (λ_=>aj.ae X.ok (aj.cY X.ok _) λ_=>aj.ae X.ok ((bj.ls _ _).aM _) λ_=>aj.fP X.ok λt=>aj.ite (aj.ae X.ok (aj.cY X.ok _) λ_=>aj.ret _) (aj.ite (aj.ae X.ok (aj.cY X.ok _) λ_=>aj.ae X.ok ((bj.ls _ _).aM _) λ_=>aj.ae X.ok (aj.cY X.ok _) λ_=>aj.ret _) (aj.ae X.ok (aj.cY X.ok _) λ_=>aj.ret _)));subst c;rw[aZ (tx (by decide) (by decide) (by decide) rfl)];refine bX.sV hm (Dv X.ok bj) (kw.ls (.inr (.inl rfl)) hu.cc (jb.Bi (w:=fe) hm e7 (by decide) (by decide) (by decide) b rfl h) f).aM (λa r' _ c=>?_) (λ_=>aj.fP X.ok λt=>aj.ite (aj.ae X.ok (aj.cY X.ok _) λ_=>aj.ret _) (aj.ite (aj.ae X.ok (aj.cY X.ok _) λ_=>aj.ae X.ok ((bj.ls _ _).aM _) λ_=>aj.ae X.ok (aj.cY X.ok _) λ_=>aj.ret _) (aj.ae X.ok (aj.cY X.ok _) λ_=>aj.ret _)));subst c;obtain⟨i,j⟩:=n0 (w:=fe) (r:=v) (by decide) (by decide) (by decide) b;rw[aZ (cB j),i,aS (by decide),aS (by decide),aZ (tx (by decide) (by decide) (by decide) b)];exact bX.ok
theorem apx{t u v:aa}{pd:aq}(q:iv d t)(hu:iv d u)(ax:dD X pd ([105,102,32,97,59,32,116,104,101,110,10]++(t++[10])++[101,108,105,102,32,98,10,116,104,101,110,32,99,10,101,108,115,101,32]++(u++[59])++[102,105,32,50,62,102]++v)):bX X (λr=>r=[32,50,62,102]++v) pd (hS (a1 true m) (.word m_ true) ([105,102,32,97,59,32,116,104,101,110,10]++(t++[10])++[101,108,105,102,32,98,10,116,104,101,110,32,99,10,101,108,115,101,32]++(u++[59])++[102,105,32,50,62,102]++v) pd):=by
 have bj:=oC X.ok m;have he:[105,102,32,97,59,32,116,104,101,110,10]++(t++[10])++[101,108,105,102,32,98,10,116,104,101,110,32,99,10,101,108,115,101,32]++(u++[59])++[102,105,32,50,62,102]++v=m_++([32]++([97]++(59::32::(iX++([10]++(t++(10::(il++([32]++([98]++(10::(iX++([32]++([99]++(10::(hR++([32]++(u++(59::(fe++([32,50,62,102]++v))))))))))))))))))))):=by simp[m_,iX,fe,il,hR]
 rw[he] at ax⊢;rw[Bh,aS (by decide),bo rfl,pf,abK,cH];have l:=ax.sfx (gY m_ _);have n:dD X pd ([10]++(t++(10::(il++([32]++([98]++(10::(iX++([32]++([99]++(10::(hR++([32]++(u++(59::(fe++([32,50,62,102]++v))))))))))))))))):=l.sfx ⟨[32]++([97]++(59::32::iX)),by simp⟩;have o:dD X pd (10::(il++([32]++([98]++(10::(iX++([32]++([99]++(10::(hR++([32]++(u++(59::(fe++([32,50,62,102]++v))))))))))))))):=n.sfx ⟨10::t,by simp⟩;have p:dD X pd ([32]++([98]++(10::(iX++([32]++([99]++(10::(hR++([32]++(u++(59::(fe++([32,50,62,102]++v))))))))))))):=o.sfx ⟨10::il,by simp⟩;have c:dD X pd (10::(iX++([32]++([99]++(10::(hR++([32]++(u++(59::(fe++([32,50,62,102]++v))))))))))):=p.sfx ⟨[32,98],by simp⟩;have e:dD X pd ([32]++([99]++(10::(hR++([32]++(u++(59::(fe++([32,50,62,102]++v))))))))):=c.sfx ⟨10::iX,by simp⟩;have f:dD X pd (10::(hR++([32]++(u++(59::(fe++([32,50,62,102]++v))))))):=e.sfx ⟨[32,99],by simp⟩;have h:dD X pd ([32]++(u++(59::(fe++([32,50,62,102]++v))))):=f.sfx ⟨10::hR,by simp⟩;have i:aj X.E m (ae (cY fe) λ_=>(aW (.inr ()):ak (Unit⊕Unit))):=aj.ae X.ok (aj.cY X.ok _) λ_=>aj.ret _;have g:aj X.E m (ae (bQ []) λt=>if cG t il then ae (cY il) λ_=>(aW (.inl ()):ak (Unit⊕Unit)) else
  if cG t hR then ae (cY hR) λ_=>ae (((a1 true m).ls .jY false).aM (10::fe)) λ_=>ae (cY fe) λ_=>aW (.inr ()) else ae (cY fe) λ_=>aW (.inr ())):=aj.fP X.ok λt=>aj.ite (aj.ae X.ok (aj.cY X.ok _) λ_=>aj.ret _) (aj.ite (aj.ae X.ok (aj.cY X.ok _) λ_=>aj.ae X.ok ((bj.ls _ _).aM _) λ_=>i) i)
 unfold Gy;refine bX.sV hm (Dv X.ok bj) (kw.ls (.inr (.inl rfl)) (NU (.inl rfl)) (jb.Uk (w:=iX) hm e7 (by decide) (by decide) (by decide) rfl rfl) l).aM (λa r' _ b=>?_) (λ_=>aj.ae X.ok (aj.cY X.ok _) λ_=>aj.ae X.ok ((bj.ls _ _).aM _) λ_=>g);subst b;rw[aZ (tx (by decide) (by decide) (by decide) rfl)];refine bX.sV hm (Dv X.ok bj) (kw.ls (.inr (.inr rfl)) q.cc (jb.Bi (w:=il) hm e7 (by decide) (by decide) (by decide) rfl rfl o) n).aM (λa r' _ b=>?_) (λ_=>g);subst b;obtain⟨j,k⟩:=n0 (w:=il) (r:=[32]++([98]++(10::(iX++([32]++([99]++(10::(hR++([32]++(u++(59::(fe++([32,50,62,102]++v))))))))))))) (by decide) (by decide) (by decide) rfl;rw[aZ (cB k),j,bo (by decide),aZ (tx (by decide) (by decide) (by decide) rfl)];show bX X _ pd (if _ then cb (Gy (a1 true m)) () _ pd else .bad _);rw[bo (by grind[List.length_cons]),cH];unfold Gy;refine bX.sV hm (Dv X.ok bj) (kw.ls (.inr (.inl rfl)) (NU (.inr (.inl rfl))) (jb.Bi (w:=iX) hm e7 (by decide) (by decide) (by decide) rfl rfl c) p).aM (λa r' _ b=>?_) (λ_=>aj.ae X.ok (aj.cY X.ok _) λ_=>aj.ae X.ok ((bj.ls _ _).aM _) λ_=>g);subst b;rw[aZ (tx (by decide) (by decide) (by decide) rfl)];refine bX.sV hm (Dv X.ok bj) (kw.ls (.inr (.inl rfl)) (NU (.inr (.inr rfl))) (jb.Bi (w:=hR) hm e7 (by decide) (by decide) (by decide) rfl rfl f) e).aM (λa r' _ b=>?_) (λ_=>g);subst b;obtain⟨j,k⟩:=n0 (w:=hR) (r:=[32]++(u++(59::(fe++([32,50,62,102]++v))))) (by decide) (by decide) (by decide) rfl;rw[aZ (cB k),j,aS (by decide),bo (by decide),aZ (tx (by decide) (by decide) (by decide) rfl)];refine bX.sV hm (Dv X.ok bj) (kw.ls (.inr (.inl rfl)) hu.cc (jb.abL (w:=fe) hm e7 (by decide) (by decide) (by decide) rfl rfl (by decide)) h).aM (λa r' _ b=>?_) (λ_=>i);subst b;rw[aZ (tx (by decide) (by decide) (by decide) rfl)];exact bX.ok
theorem abQ{x u v:aa}{pd:aq}(b:c3 v=true){e:aa}(he:e=[]\/e=[32])(hu:iv d u)(ax:dD X pd (gU++([32]++(u++(59::(e++(iO++v))))))):bX X (λr=>r=v) pd (iP (a1 true m) x (gU++([32]++(u++(59::(e++(iO++v)))))) pd):=by
 have bj:=oC X.ok m;unfold iP;rw[aZ (jC.2 (tx (by decide) (by decide) (by decide) rfl))];have bl:jb X (jn true m) .done false (59::(e++(iO++v))) (59::(e++(iO++v))) (iO++v) pd:=by
  rcases he with rfl|rfl
  ·exact jb.abL (w:=iO) hm e7 (by decide) (by decide) (by decide) b rfl (by decide)
  ·exact jb.Uk (w:=iO) hm e7 (by decide) (by decide) (by decide) b rfl
 refine bX.ae hm (kw.ls (.inr (.inl rfl)) hu.cc bl (ax.sfx (gY gU _))).aM (λa r' _ c=>?_) (λ_=>aj.cY X.ok _);subst c;rw[tx (by decide) (by decide) (by decide) b];exact bX.ok
theorem apz{t u v:aa}{pd:aq}(e:c3 v=true)(f:iv d t)(hu:iv d u)(ax:dD X pd ([119,104,105,108,101,32]++(t++[10])++[100,111,32]++(u++[59])++[32,100,111,110,101]++v)):bX X (λr=>r=v) pd (hS (a1 true m) (.word xg true) ([119,104,105,108,101,32]++(t++[10])++[100,111,32]++(u++[59])++[32,100,111,110,101]++v) pd):=by
 have bj:=oC X.ok m;have he:[119,104,105,108,101,32]++(t++[10])++[100,111,32]++(u++[59])++[32,100,111,110,101]++v=xg++([32]++(t++(10::(gU++([32]++(u++(59::([32]++(iO++v))))))))):=by simp[xg,gU,iO]
 rw[he] at ax⊢;rw[Bh,aS (by decide),aS (by decide),aS (by decide),aS (by decide),pf];have b:=ax.sfx (gY xg _);have c:dD X pd (10::(gU++([32]++(u++(59::([32]++(iO++v))))))):=b.sfx ⟨32::t,by simp⟩;refine bX.ae hm (kw.ls (.inr (.inl rfl)) f.cc (jb.Bi (w:=gU) hm e7 (by decide) (by decide) (by decide) rfl rfl c) b).aM (λa r' _ g=>?_) (λ_=>aj.body X.ok bj _);subst g;exact abQ hm e7 kw e (.inr rfl) hu (c.sfx (ee _ _))
end
theorem abR{X:fw}{D:ak Unit}{w u:aa}{pd:aq}(b:eP X D w)(hu:c3 u=true)(a:u≠[])(ax:dD X pd (w++u)):bX X (λr=>r=u) pd (cQ D (w++u) pd):=by have:=(b u pd a ax).1;rw[JQ hu a] at this;exact this.JO bX.ok
theorem Gz{D:ak Unit}{w u:aa}{pd:aq}(a:w.all rO=true)(hu:c3 u=true)(b:u≠[]):cQ D (w++u) pd= .ok () u pd:=by grind[R9,JQ]
theorem abS{b:UInt8}{t:aa}{pd:aq}:b2 1 (b::t) pd= .ok () t pd:=rfl
def Dw(D:ak Unit):Unit->ak (Unit⊕Unit):=λ_=>ae (bQ []) λt=>match t with
 | .eof=>b7 []
 | .word _ _=>ae (cQ D) λ_=>aW (.inl ())
 | .line=>aW (.inr ())
 | .op o=>if o=[59] then ae (b2 1) λ_=>aW (.inr ()) else bK
theorem apA(D:ak Unit):pN D=cb (Dw D) ():=rfl
theorem apB{E:lx}(ok:E.mW){m:Nat}(hm:xl E m)(s:Unit):aj E m (Dw (a1 true m).dl s):=aj.fP ok λt=>by
 cases t with
 |eof=>simp[aj.b7]
 |word _ _=>exact aj.ae ok (aj.cQ ok hm.dl) λ_=>aj.ret _
 |line=>simp[aj.ret]
 |op o=>exact aj.ite (aj.ae ok (aj.dm ok _) λ_=>aj.ret _) aj.bK
section
variable{X:fw}{m:Nat}(hm:X.c0<=m)(e7:aj X.E m (jn true m)){d:Nat}(kw:sW X d m)
include hm e7 kw
theorem apC{w v:aa}{pd:aq}(b:hZ d w)(ax:dD X pd (32::97::32::(w++(59::32::v)))):bX X (λr=>r=32::v) pd (pN (a1 true m).dl (32::97::32::(w++(59::32::v))) pd):=by have bj:=oC X.ok m;have hf:=λs=>apB X.ok bj s;rw[apA,cH];unfold Dw;obtain⟨e,f⟩:=n0 (w:=[97]) (r:=32::(w++(59::32::v))) (by simp) (by decide) (by decide) rfl;rw[aZ (cB (by rw[k1];exact f)),e];simp only;rw[aZ (Gz (by decide) rfl (by simp))];show bX X _ pd (if _ then cb (Dw (a1 true m).dl) () (32::(w++(59::32::v))) pd else .bad _);rw[bo (by simp),cH];unfold Dw;obtain⟨g,⟨x,p,h⟩,k⟩:=(NP b).tok (u:=59::32::v);rw[aZ (cB (by rw[k1];exact g)),h];simp only;have c:av (59::32::v)= .op [59]:=NV (by decide);have i:c3 (59::32::v)=true:=(hK.op (xP _) c (by decide) (by decide)).p1;refine bX.sV hm hf (abR (kw.wd w b) i (by simp) (ax.sfx ⟨[32,97,32],rfl⟩)) (λa r' _ j=>?_) (λ_=>aj.ret _);subst j;show bX X _ pd (if _ then cb (Dw (a1 true m).dl) () (59::32::v) pd else .bad _);rw[bo (by grind),cH];unfold Dw;rw[aZ (cB (xP _)),c];simp only;rw[if_pos trivial,aZ abS];exact bX.ok
theorem apD{w u v:aa}{pd:aq}(i:c3 v=true)(j:hZ d w)(hu:iv d u)(ax:dD X pd ([102,111,114,32,120,32,105,110,32,97,32]++w++[59,32,100,111,32]++(u++[59])++[100,111,110,101]++v)):bX X (λr=>r=v) pd (hS (a1 true m) (.word ny true) ([102,111,114,32,120,32,105,110,32,97,32]++w++[59,32,100,111,32]++(u++[59])++[100,111,110,101]++v) pd):=by
 have bj:=oC X.ok m;have he:[102,111,114,32,120,32,105,110,32,97,32]++w++[59,32,100,111,32]++(u++[59])++[100,111,110,101]++v=ny++(32::([120]++(32::(fB++(32::97::32::(w++(59::32::(gU++([32]++(u++(59::([]++(iO++v))))))))))))):=by simp[ny,fB,gU,iO]
 rw[he] at ax⊢;generalize g:gU++([32]++(u++(59::([]++(iO++v)))))=z at ax⊢;have b:dD X pd (32::97::32::(w++(59::32::z))):=ax.sfx ⟨ny++(32::([120]++(32::fB))),by simp⟩;have c:dD X pd z:=b.sfx ⟨32::97::32::(w++[59,32]),by simp⟩;rw[Bh,if_neg (by decide),if_neg (by decide),if_pos rfl,List.drop_left];unfold pO;obtain⟨k,l⟩:=n0 (w:=[120]) (r:=32::(fB++(32::97::32::(w++(59::32::z))))) (by simp) (by decide) (by decide) rfl;rw[aZ (cB (by rw[k1];exact l)),k];simp only;rw[bo (by decide),aZ Yd];refine bX.ae (P:=λr=>r=z) hm (bX.aM ?_) (λa r' _ e=>?_) (λ_=>aj.body X.ok bj _)
 ·obtain⟨h,f⟩:=n0 (w:=fB) (r:=32::97::32::(w++(59::32::z))) (by decide) (by decide) (by decide) rfl;rw[aZ (cB (by rw[k1];exact f)),h,aS (by simp),aZ (sG f (by grind)),aZ (cB f),h,if_pos (by decide)];rw[aZ (show b2 2 (fB++(32::97::32::(w++(59::32::z)))) pd= .ok () (32::97::32::(w++(59::32::z))) pd from rfl)];refine bX.ae hm (apC hm e7 kw j b) (λa r' _ e=>?_) (λ_=>aj.ae X.ok (aj.lines X.ok) λ_=>aj.ret _);subst e;subst g;obtain⟨o,n⟩:=n0 (w:=gU) (r:=[32]++(u++(59::([]++(iO++v))))) (by decide) (by decide) (by decide) rfl;rw[aZ (sG (by rw[k1];exact n) (by grind))];exact bX.ok
 ·subst e;subst g;exact abQ hm e7 kw i (.inl rfl) hu c
theorem apF{v:aa}{pd:aq}(e:c3 v=true)(ax:dD X pd ([102,111,114,32,120,10,100,111,32,97,10,100,111,110,101]++v)):bX X (λr=>r=v) pd (hS (a1 true m) (.word ny true) ([102,111,114,32,120,10,100,111,32,97,10,100,111,110,101]++v) pd):=by
 have bj:=oC X.ok m;have he:[102,111,114,32,120,10,100,111,32,97,10,100,111,110,101]++v=ny++(32::([120]++(10::(gU++([32]++([97]++(10::(iO++v)))))))):=by rfl
 rw[he] at ax⊢;have c:dD X pd (10::(gU++([32]++([97]++(10::(iO++v)))))):=ax.sfx ⟨ny++[32,120],by simp⟩;have f:dD X pd ([32]++([97]++(10::(iO++v)))):=c.sfx ⟨10::gU,by simp⟩;rw[Bh,if_neg (by decide),if_neg (by decide),if_pos rfl,List.drop_left];unfold pO;obtain⟨h,i⟩:=n0 (w:=[120]) (r:=10::(gU++([32]++([97]++(10::(iO++v)))))) (by simp) (by decide) (by decide) rfl;rw[aZ (cB (by rw[k1];exact i)),h];simp only;rw[bo (by decide),aZ Yd];obtain⟨g,d⟩:=n0 (w:=gU) (r:=[32]++([97]++(10::(iO++v)))) (by decide) (by decide) (by decide) rfl;generalize k:gU++([32]++([97]++(10::(iO++v))))=z at c g d⊢;refine bX.ae (P:=λr=>r=z) hm (bX.aM ?_) (λa r' _ b=>?_) (λ_=>aj.body X.ok bj _)
 ·rw[aZ (cB (hK.nl _).rY),aS (by simp[av])];refine bX.ae hm (zu hm (j:=[10]) (x:=z) (.inr (.inl rfl)) d (by grind) c) (λa r' _ b=>?_) (λ_=>aj.fP X.ok λt=>aj.ite (aj.ae X.ok (aj.dm X.ok _) λ_=>aj.ae X.ok (aj.words X.ok bj) λ_=>aj.ae X.ok (aj.lines X.ok) λ_=>aj.ret _) (aj.ret _));subst b;rw[aZ (cB d),g,aS (by decide)];exact bX.ok
 ·subst b;subst k;unfold iP;rw[aZ (jC.2 (tx (by decide) (by decide) (by decide) rfl))];refine bX.ae hm (kw.ls (.inr (.inl rfl)) (NU (.inl rfl)) (jb.Bi (w:=iO) hm e7 (by decide) (by decide) (by decide) e rfl (f.sfx ⟨[32,97],rfl⟩)) f).aM (λa r' _ b=>?_) (λ_=>aj.cY X.ok _);subst b;rw[tx (by decide) (by decide) (by decide) e];exact bX.ok
end
def NW(D:ak Unit):Unit->ak (Unit⊕Unit):=λ_=>ae (bQ [120,41]) λt=>match t with
 | .eof=>b7 [120,41]
 | .word _ _=>ae ((cQ D).aM [41]) λ_=>ae (bQ [41]) λt=>match t with
   | .eof=>b7 [41]
   | .op o=>if o=[124] then ae (b2 1) λ_=>aW (.inl ()) else if o=[41] then ae (b2 1) λ_=>aW (.inr ()) else bK
   |_=>bK
 |_=>bK
theorem Ul(D:ak Unit):kZ D=cb (NW D) ():=rfl
theorem abU{b:UInt8}{t:aa}(h:b≠124):av (124::b::t)= .op [124]:=by rw[mQ (by simp)];simp[bs,lq,xS,List.isPrefixOf,h.symm]
theorem Um{D:ak Unit}{b:UInt8}{x y:aa}{pd:aq}(d:rO b=true)(e:b≠35)(a:bx y=some (b::41::x)):kZ D y pd= .ok () x pd:=by have ad:av (b::41::x)= .word [b] true:=tw (w:=[b]) (by simp) (by grind) (hK.op (zr x) (zt x) (by decide) (by decide)).p1;rw[Ul,cH];unfold NW;rw[aZ (cB a),ad];simp only;have c:cQ D (b::41::x) pd= .ok () (41::x) pd:=Gz (w:=[b]) (u:=41::x) (by grind) (hK.op (zr x) (zt x) (by decide) (by decide)).p1 (by simp);rw[aZ (jC.2 c),aZ (cB (zr x)),zt];rfl
theorem apG{D:ak Unit}{x:aa}{pd:aq}:kZ D (97::124::98::41::x) pd= .ok () x pd:=by have a:av (124::98::41::x)= .op [124]:=abU (by decide);have b:bx (124::98::41::x)=some (124::98::41::x):=kO (by decide) (by decide) (by decide);have c:=(hK.op b a (by decide) (by decide)).p1;have ad:av (97::124::98::41::x)= .word [97] true:=tw (w:=[97]) (by simp) (by decide) c;rw[Ul,cH];unfold NW;rw[aZ (cB (kO (by decide) (by decide) (by decide))),ad];simp only;have d:cQ D (97::124::98::41::x) pd= .ok () (124::98::41::x) pd:=Gz (w:=[97]) (u:=124::98::41::x) (by decide) c (by simp);rw[aZ (jC.2 d),aZ (cB b),a];simp only;rw[bo trivial,aZ abS];show(if _ then cb (NW D) () (98::41::x) pd else .bad _)=_;rw[bo (by simp),<-Ul];exact Um (by decide) (by decide) (kO (by decide) (by decide) (by decide))
theorem abV{m:Nat}{y x:aa}{pd:aq}(a:bx y=some x)(ad:av x≠ .eof)(b:av x≠ .line)(he:dT .item (av x)=true):(a1 true m).ls .item true y pd= .ok 0 x pd:=by rw[Fq,uO,aZ (jC.2 (sG a b)),cH];have c:=lO _ _ _ (cX _) a;rw[ajq c ad he rfl];rfl
def zy(l:dU)(D:ak Unit):Unit->ak (Unit⊕Unit):=λ_=>ae cU λ_=>ae (bQ []) λt=>if t= .eof then b7 [] else if cG t ev then ae (b2 4) λ_=>aW (.inr ()) else
 ae ((if t= .op [40] then b2 1 else aW ())) λ_=>ae (kZ D) λ_=>ae (l.ls .item true) λ_=>ae (bQ []) λt=>if t= .op [59,59] then ae (b2 2) λ_=>aW (.inl ()) else aW (.inl ())
theorem Dy(l:dU)(D:ak Unit):nA l D=cb (zy l D) ():=rfl
theorem abW{E:lx}(ok:E.mW){m:Nat}:aj E m (ae (bQ []) λt=>if t= .op [59,59] then ae (b2 2) λ_=>(aW (.inl ()):ak (Unit⊕Unit)) else aW (.inl ())):=aj.fP ok λt=>aj.ite (aj.ae ok (aj.dm ok _) λ_=>aj.ret _) (aj.ret _)
theorem abX{E:lx}(ok:E.mW){m:Nat}(hm:xl E m):aj E m (ae (bQ []) λt=>if t= .eof then b7 [] else if cG t ev then ae (b2 4) λ_=>(aW (.inr ()):ak (Unit⊕Unit)) else
 ae ((if t= .op [40] then b2 1 else aW ())) λ_=>ae (kZ (a1 true m).dl) λ_=>ae ((a1 true m).ls .item true) λ_=>ae (bQ []) λt=>if t= .op [59,59] then ae (b2 2) λ_=>aW (.inl ()) else aW (.inl ())):=aj.fP ok λt=>aj.ite (aj.b7 _) (aj.ite (aj.ae ok (aj.dm ok _) λ_=>aj.ret _)
 (aj.ae ok (aj.ite (aj.dm ok _) (aj.ret _)) λ_=>aj.ae ok (aj.xj ok hm) λ_=>aj.ae ok (hm.ls _ _) λ_=>abW ok))
theorem apH{E:lx}(ok:E.mW){m:Nat}(hm:xl E m)(s:Unit):aj E m (zy (a1 true m) (a1 true m).dl s):=aj.ae ok (aj.lines ok) λ_=>abX ok hm
section
variable{X:fw}{m:Nat}(hm:X.c0<=m)(e7:aj X.E m (jn true m)){d:Nat}(kw:sW X d m)
include hm e7 kw
theorem apI{u v:aa}{pd:aq}(n:c3 v=true)(hu:iv d u)(ax:dD X pd ([32,97,124,98,41]++([32]++(u++([59,59]++([10]++([40,99,41,32,59,59,32,100,41,32]++(ev++v)))))))):bX X (λr=>r=v) pd (nA (a1 true m) (a1 true m).dl ([32,97,124,98,41]++([32]++(u++([59,59]++([10]++([40,99,41,32,59,59,32,100,41,32]++(ev++v))))))) pd):=by
 have bj:=oC X.ok m;have hf:=λs=>apH X.ok bj s;obtain⟨e,f⟩:=n0 (w:=ev) (r:=v) (by decide) (by decide) (by decide) n;have o:nA (a1 true m) (a1 true m).dl (ev++v) pd= .ok () v pd:=by rw[Dy,cH];unfold zy;rw[aZ (sG f (by grind)),aZ (cB f),e,if_neg (by simp),if_pos (by decide)];rfl
 have p:nA (a1 true m) (a1 true m).dl ([32,100,41,32]++(ev++v)) pd= .ok () v pd:=by
  rw[Dy,cH];unfold zy;have b:bx ([32,100,41,32]++(ev++v))=some (100::41::32::(ev++v)):=by show bx (32::100::41::32::(ev++v))=_;rw[k1];exact kO (by decide) (by decide) (by decide)
  have c:av (100::41::32::(ev++v))= .word [100] true:=tw (w:=[100]) (by simp) (by decide) (hK.op (zr _) (zt _) (by decide) (by decide)).p1;have h:=lO _ _ _ (Nat.le_refl _) b
  rw[aZ (sG b (by grind)),aZ (cB h),c,if_neg (by simp),if_neg (by decide),if_neg (by simp),aZ (show aW () (100::41::32::(ev++v)) pd= .ok () (100::41::32::(ev++v)) pd from rfl),aZ (Um (by decide) (by decide) h),
   aZ (abV (x:=ev++v) (by grind[k1]) (by grind) (by grind) (by rw[e];decide)),aZ (cB f),e,aS (by simp)]
  show(if _ then cb (zy (a1 true m) (a1 true m).dl) () (ev++v) pd else .bad _)=_;rw[bo (by grind),<-Dy];exact o
 have i:bX X (λr=>r=v) pd (nA (a1 true m) (a1 true m).dl ([10]++([40,99,41,32,59,59,32,100,41,32]++(ev++v))) pd):=by
  have b:bx ([40,99,41,32,59,59,32,100,41,32]++(ev++v))=some ([40,99,41,32,59,59,32,100,41,32]++(ev++v)):=kO (by decide) (by decide) (by decide);have c:av ([40,99,41,32,59,59,32,100,41,32]++(ev++v))= .op [40]:=by rfl
  have k:dD X pd ([10]++([40,99,41,32,59,59,32,100,41,32]++(ev++v))):=ax.sfx ⟨[32,97,124,98,41]++([32]++(u++[59,59])),by simp⟩;rw[Dy,cH];unfold zy;generalize l:[40,99,41,32,59,59,32,100,41,32]++(ev++v)=z at b c k⊢;refine bX.sV hm hf (zu hm (j:=[10]) (x:=z) (.inr (.inl rfl)) b (by grind) k) (λa r' _ g=>?_) (λ_=>abX X.ok bj);subst g;rw[aZ (cB b),c,aS (by simp),aS (by decide),bo rfl];subst l;rw[aZ (show b2 1 ([40,99,41,32,59,59,32,100,41,32]++(ev++v)) pd= .ok () (99::41::32::59::59::([32,100,41,32]++(ev++v))) pd from rfl),
   aZ (Um (x:=32::59::59::([32,100,41,32]++(ev++v))) (by decide) (by decide) (kO (by decide) (by decide) (by decide))),
   aZ (abV (x:=59::59::([32,100,41,32]++(ev++v))) (by simp[k1,xP]) (by simp[JS]) (by simp[JS]) (by rfl)),
   aZ (cB (xP _)),JS,bo rfl,aZ (show b2 2 (59::59::([32,100,41,32]++(ev++v))) pd= .ok () ([32,100,41,32]++(ev++v)) pd from rfl)]
  show bX X _ pd (if _ then cb (zy (a1 true m) (a1 true m).dl) () ([32,100,41,32]++(ev++v)) pd else .bad _);rw[bo (by simp),<-Dy,p];exact bX.ok
 generalize l:[10]++([40,99,41,32,59,59,32,100,41,32]++(ev++v))=z at ax i⊢;rw[Dy,cH];unfold zy;have q:av (124::98::41::([32]++(u++([59,59]++z))))= .op [124]:=abU (by decide);have b:bx (97::124::98::41::([32]++(u++([59,59]++z))))=some (97::124::98::41::([32]++(u++([59,59]++z)))):=kO (by decide) (by decide) (by decide);have c:av (97::124::98::41::([32]++(u++([59,59]++z))))= .word [97] true:=tw (w:=[97]) (by simp) (by decide) (hK.op (kO (by decide) (by decide) (by decide)) q (by decide) (by decide)).p1;show bX X _ pd (cO _ _ (ae cU _ (32::97::124::98::41::([32]++(u++([59,59]++z)))) pd))
 rw[aZ (sG (r1:=97::124::98::41::([32]++(u++([59,59]++z)))) (show bx (32::97::124::98::41::([32]++(u++([59,59]++z))))=_ by grind[k1]) (by grind)),
  aZ (cB b),c,aS (by simp),aS (by decide),aS (by simp),aZ (show aW () (97::124::98::41::([32]++(u++([59,59]++z)))) pd= .ok () (97::124::98::41::([32]++(u++([59,59]++z)))) pd from rfl),aZ apG]
 have t:dD X pd ([32]++(u++([59,59]++z))):=ax.sfx (gY _ _);refine bX.sV hm hf (kw.ls (v:=[59,59]++z) (.inr (.inl rfl)) hu.cc (jb.op (xP _) JS rfl) t) (λa r' _ g=>?_) (λ_=>abW X.ok);subst g;rw[aZ (cB (show bx ([59,59]++z)=some ([59,59]++z) from xP _)),bo (show av ([59,59]++z)= .op [59,59] from JS),aZ (show b2 2 ([59,59]++z) pd= .ok () z pd from rfl)];show bX X _ pd (if _ then cb (zy (a1 true m) (a1 true m).dl) () z pd else .bad _);rw[bo (by grind),<-Dy];exact i
theorem apJ{w u v:aa}{pd:aq}(j:c3 v=true)(g:hZ d w)(hu:iv d u)(ax:dD X pd ([99,97,115,101,32]++w++[32,105,110,32,97,124,98,41,32]++(u++[])++[59,59,10,40,99,41,32,59,59,32,100,41,32,101,115,97,99]++v)):bX X (λr=>r=v) pd (hS (a1 true m) (.word pL true) ([99,97,115,101,32]++w++[32,105,110,32,97,124,98,41,32]++(u++[])++[59,59,10,40,99,41,32,59,59,32,100,41,32,101,115,97,99]++v) pd):=by
 have bj:=oC X.ok m;have he:[99,97,115,101,32]++w++[32,105,110,32,97,124,98,41,32]++(u++[])++[59,59,10,40,99,41,32,59,59,32,100,41,32,101,115,97,99]++v=pL++(32::(w++(32::(fB++([32,97,124,98,41]++([32]++(u++([59,59]++([10]++([40,99,41,32,59,59,32,100,41,32]++(ev++v))))))))))):=by simp[pL,fB,ev]
 rw[he] at ax⊢;have c:=apI hm e7 kw (v:=v) (u:=u) (pd:=pd) j hu;have e:c3 ([32,97,124,98,41]++([32]++(u++([59,59]++([10]++([40,99,41,32,59,59,32,100,41,32]++(ev++v)))))))=true:=rfl;generalize [32,97,124,98,41]++([32]++(u++([59,59]++([10]++([40,99,41,32,59,59,32,100,41,32]++(ev++v))))))=z at ax c e⊢;have h:dD X pd (w++(32::(fB++z))):=ax.sfx ⟨pL++[32],by simp⟩;have k:dD X pd z:=h.sfx ⟨w++(32::fB),by simp⟩;rw[Bh,if_neg (by decide),if_neg (by decide),if_neg (by decide),if_pos rfl,List.drop_left];unfold q7;obtain⟨l,⟨x,p,n⟩,y⟩:=(NP g).tok (u:=32::(fB++z));rw[aZ (cB (by rw[k1];exact l)),n];simp only;have o:c3 z=true:=e;obtain⟨q,i⟩:=n0 (w:=fB) (r:=z) (by decide) (by decide) (by decide) o;refine bX.ae (P:=λr=>r=fB++z) hm (bX.aM ?_) (λa r' b f=>?_) (λt=>aj.ite (aj.ae X.ok (aj.dm X.ok _) λ_=>(aj.items X.ok bj).aM _) aj.bK)
 ·refine bX.ae hm (abR (kw.wd w g) rfl (by simp) h) (λa r' _ f=>?_) (λ_=>aj.ae X.ok (aj.lines X.ok) λ_=>aj.fP X.ok λt=>aj.ite (aj.b7 _) (aj.ret _));subst f;rw[aZ (sG (by rw[k1];exact i) (by grind)),aZ (cB i),q,if_neg (by simp)];exact bX.ok
 ·subst f;have s:a= .word fB true:=by
   have b:=jC.1 b;obtain⟨_,r1,A,_,b⟩:=b3 b;obtain⟨_,B,C,_,b⟩:=b3 b;obtain⟨t,D,E,aB,b⟩:=b3 b;have xu:=nB aB;split at b
   ·cases b
   ·cases b;grind
  subst s;rw[bo (by decide),aZ (show b2 2 (fB++z) pd= .ok () z pd from rfl)];exact(c k).aM
end
theorem apK{D:ak Unit}{y v:aa}{pd:aq}(c:y=[32,50,62,102]\/y=[32,62,102])(b:c3 v=true)(d:v≠[]):dF D (y++v) pd= .ok true v pd:=by
 have ad:fJ (y++v) pd= .ok (some [62]) (102::v) pd:=by
  rcases c with rfl|rfl
  ·have a:bx ([32,50,62,102]++v)=some (50::62::102::v):=by show bx (32::50::62::102::v)=_;rw[k1];exact kO (by decide) (by decide) (by decide)
   unfold fJ;rw[a];rfl
  ·have a:bx ([32,62,102]++v)=some (62::102::v):=by show bx (32::62::102::v)=_;rw[k1];exact kO (by decide) (by decide) (by decide)
   unfold fJ;rw[a];rfl
 unfold dF;rw[aZ ad];simp only;rw[aS (by decide),aS (by decide)];obtain⟨e,f⟩:=n0 (w:=[102]) (r:=v) (by decide) (by decide) (by decide) b;have g:jQ D [120] (102::v) pd= .ok () v pd:=by unfold jQ;rw[aZ (cB (show bx (102::v)=some (102::v) from f)),show av (102::v)= .word [102] true from e];exact Gz (w:=[102]) (by decide) b d
 rw[aZ g];rfl
theorem ab0{D:ak Unit}{y v b:aa}{pd:aq}(bp:y=[]\/y=[32,50,62,102]\/y=[32,62,102])(a:hK v b):gV D (y++v) pd= .ok () b pd:=by
 rcases bp with rfl|bp
 ·exact a.mK D pd
 ·have ad:dF D (y++v) pd= .ok true v pd:=apK bp a.p1 a.ne;unfold gV;rw[cH,aZ ad];have hl:v.length<(y++v).length:=by grind
  show(if v.length<(y++v).length then gV D v pd else .bad v)=_;rw[bo hl];exact a.mK D pd
section
variable{X:fw}{m:Nat}(hm:X.c0<=m)(e7:aj X.E m (jn true m)){d:Nat}(kw:sW X d m)
include hm e7 kw
theorem apL{t v:aa}{pd:aq}(b:c3 v=true)(e:iv d t)(ax:dD X pd (123::([10]++(t++(10::([125]++v)))))):bX X (λr=>r=v) pd (hS (a1 true m) (.word [123] true) (123::([10]++(t++(10::([125]++v))))) pd):=by rw[Bh,bo rfl];have c:dD X pd ([10]++(t++(10::([125]++v)))):=ax.sfx ⟨[123],rfl⟩;refine bX.ae hm (kw.ls (.inr (.inr rfl)) e.cc (jb.Bi (w:=[125]) hm e7 (by simp) (by decide) (by decide) b rfl (c.sfx ⟨10::t,by simp⟩)) c).aM (λa r' _ f=>?_) (λ_=>aj.cY X.ok _);subst f;rw[tx (by simp) (by decide) (by decide) b];exact bX.ok
end
theorem Bj{X:fw}{m:Nat}(hm:X.c0<=m){c v b y:aa}{pd:aq}(aF:zw c){t:Tok}(d:av (c++(y++v))=t)(i:hG t=true)(e:hK v b)(f:y=[]\/y=[32,50,62,102]\/y=[32,62,102])
  (hk:bX X (λr=>r=y++v) pd (hS (a1 true m) t (c++(y++v)) pd)):bX X (λr=>r=b) pd (gm true (some (a1 true m)) (dM (some (a1 true m))) (c++(y++v)) pd):=by
 obtain⟨⟨ad,j,g,k,l⟩,o⟩:=aF.facts (y++v);have bj:=oC X.ok (m+1);unfold gm;rw[aZ (cB ad),aS g,bo (by grind),d];refine bX.ae (n:=m+1) (by omega) (show bX X (λr=>r=y++v) pd (sA (some (a1 true m)) t (c++(y++v)) pd) from hk.named) (λa r' _ h=>?_) (λ_=>aj.mK X.ok bj.dl);subst h;rw[ab0 f e];exact bX.ok
section
variable{X:fw}{m:Nat}(hm:X.c0<=m){d:Nat}(kw:sW X d m)
include hm kw
theorem apM{t v b:aa}{pd:aq}(h:hK v b)(i:iv d t)(e7:aj X.E m (jn true m))(ax:dD X pd ([102,40,41,32,123,10]++(t++[10])++[125,32,62,102]++v)):bX X (λr=>r=b) pd (gm true (some (a1 true (m+1))) (dM (some (a1 true (m+1)))) ([102,40,41,32,123,10]++(t++[10])++[125,32,62,102]++v) pd):=by
 have bj:=oC X.ok (m+1);have he:[102,40,41,32,123,10]++(t++[10])++[125,32,62,102]++v=[102]++(40::41::32::123::([10]++(t++(10::([125]++([32,62,102]++v)))))):=by simp
 rw[he] at ax⊢;have hk:=apL hm e7 kw (t:=t) (v:=[32,62,102]++v) (pd:=pd) rfl i (ax.sfx ⟨[102,40,41,32],rfl⟩);have f:c3 ([10]++(t++(10::([125]++([32,62,102]++v)))))=true:=rfl;generalize [10]++(t++(10::([125]++([32,62,102]++v))))=z at ax hk f⊢;have j:av (40::41::32::123::z)= .op [40]:=by rfl
 have c:bx (40::41::32::123::z)=some (40::41::32::123::z):=kO (by decide) (by decide) (by decide);obtain⟨k,g⟩:=n0 (w:=[102]) (r:=40::41::32::123::z) (by decide) (by decide) (by decide) (Yf _);unfold gm;rw[aZ (cB g),k,if_neg (by simp),if_neg (by decide)];simp only;rw[if_neg (by decide),aZ (show dF (dM (some (a1 true (m+1)))) ([102]++(40::41::32::123::z)) pd= .ok false ([102]++(40::41::32::123::z)) pd from Yg g (by decide) (by decide)),aS (by simp),aZ (Gz (by decide) (Yf _) (by simp)),bo (by decide),aZ (cB c),j,bo rfl];refine bX.ae (P:=λr=>r=b) (n:=m+1) (by omega) ?_ (λa r' _ e=>by subst e;exact bX.ok) (λ_=>aj.ret _);have l:(a1 true (m+1)).has=true:=rfl;have o:bx (32::123::z)=some (123::z):=by rw[k1];exact kO (by decide) (by decide) (by decide)
 obtain⟨p,q⟩:=n0 (w:=[123]) (r:=z) (by decide) (by decide) (by decide) f;unfold mf;simp only;rw[bo l];refine bX.named ?_
 rw[aZ (show b2 1 (40::41::32::123::z) pd= .ok () (41::32::123::z) pd from rfl),aZ (cB (zr _)),zt,aS (by simp),bo rfl,
  aZ (show b2 1 (41::32::123::z) pd= .ok () (32::123::z) pd from rfl),aZ (jC.2 (sG o (by grind))),
  aZ (cB (show bx (123::z)=some (123::z) from q)),show av (123::z)= .word [123] true from p,aS (by simp),bo (by decide)]
 refine bX.ae (n:=m+1) (by omega) (show bX X (λr=>r=[32,62,102]++v) pd ((a1 true (m+1)).cp (.word [123] true) (123::z) pd) from hk.named) (λa r' _ e=>?_) (λ_=>aj.ite bj.rd (aj.ret _));subst e;rw[bo trivial];rw[show(a1 true (m+1)).rd=gV (dM (some (a1 true m))) from rfl,ab0 (.inr (.inr rfl)) h];exact bX.ok
end
theorem apO{X:fw}{n:Nat}(hm:X.c0<=n){lo:Option dU}(hD:aj X.E n (dM lo)):∀w,hZ 0 w->xO w/\eP X (dM lo) w:=λw a=>⟨NP a,eP.consts hm hD rfl w a⟩
theorem Bk{X:fw}{m d:Nat}(hm:X.c0<=m+1)(hW:∀w,hZ d w->eP X (dM (some (a1 true m))) w){c v a:aa}{pd:aq}(e:wx (hZ d) (hZ 0) c)(f:hK v a)(ax:dD X pd (c++v)):bX X (λq=>q=a) pd (gm true (some (a1 true m)) (dM (some (a1 true m))) (c++v) pd):=by have bj:=oC X.ok (m+1);have hD:aj X.E (m+1) (dM (some (a1 true m))):=bj.dl;exact apd hm hD (show hU (dM (some (a1 true m))) from(pQ true (m+1)).dl) (λw b=>⟨NP b,hW w b⟩) (apO hm hD) e f ax
theorem apP{X:fw}{m:Nat}(hm:X.c0<=m+1):zv X (gm true (some (a1 true m)) (dM (some (a1 true m)))) (zx 0):=by
 have bj:=oC X.ok (m+1);have hD:aj X.E (m+1) (dM (some (a1 true m))):=bj.dl;refine⟨λ{c v b pd} aF a ax=>?_,λ{c} x aF=>(aF.aE.facts x).1⟩;have hW:∀w,hZ 0 w->eP X (dM (some (a1 true m))) w:=eP.consts hm hD rfl
 rcases aF with aF|rfl|rfl|rfl
 ·exact Bk hm hW (rW.q aF) a ax
 ·exact Bk hm hW (wx.one (.inl rfl)) a ax
 ·exact Bk hm hW (wx.one (.inr (.inl rfl))) a ax
 ·exact Bk hm hW (wx.one (.inr (.inr rfl))) a ax
theorem apQ{X:fw}{m d:Nat}(aE:d<=2)(hm:X.c0<=m)(kw:sW X d m)(e:sW X d (m+1))(e7:aj X.E m (jn true m)):zv X (gm true (some (a1 true (m+1))) (dM (some (a1 true (m+1))))) (zx (d+1)):=by
 have bj:=oC X.ok (m+1);have g:=abM X.ok m;have a:X.c0<=m+1:=by omega
 have hW:∀w,hZ (d+1) w->eP X (dM (some (a1 true (m+1)))) w:=abp a bj aE e.abJ e.wd
 refine⟨λ{c v i pd} aF b ax=>?_,λ{c} x aF=>(aF.aE.facts x).1⟩;have h:=aF.aE;rcases aF with(aF|aF)|rfl|rfl|rfl
 ·grind[Bk,rW.q]
 ·rcases aF with⟨t,ad,rfl⟩|⟨t,ad,rfl⟩|⟨t,u,ad,f,rfl⟩|⟨t,u,ad,f,rfl⟩|⟨t,u,ad,f,rfl⟩|⟨w,u,ad,f,rfl⟩|rfl|⟨w,u,ad,f,rfl⟩|⟨t,ad,rfl⟩
  ·exact Bj a h (y:=[]) (mQ (by simp)|>.2 (Ye _)) rfl b (.inl rfl) (apu a g e ad ax)
  ·exact Bj a h (y:=[]) (tw (w:=[123]) (by simp) (by decide) (CU _)) (by decide) b (.inl rfl) (apv a g e b.p1 ad ax)
  ·exact Bj a h (y:=[]) (tw (w:=m_) (by decide) (by decide) (CU _)) (by decide) b (.inl rfl) (apw a g e b.p1 ad f ax)
  ·have he:∀(z:aa),[105,102,32,97,59,32,116,104,101,110,10]++(t++[10])++[101,108,105,102,32,98,10,116,104,101,110,32,99,10,101,108,115,101,32]++(u++[59])++[102,105,32,50,62,102]++z=([105,102,32,97,59,32,116,104,101,110,10]++(t++[10])++[101,108,105,102,32,98,10,116,104,101,110,32,99,10,101,108,115,101,32]++(u++[59])++[102,105])++([32,50,62,102]++z):=λz=>by simp
   have hk:=apx a g e ad f ax;rw[he] at hk⊢;exact Bj a ⟨105,_,rfl,by decide,by decide,by decide,by decide,by decide,.inr ⟨by decide,.inl (by decide)⟩⟩ (tw (w:=m_) (by decide) (by decide) (CU _)) (by decide) b (.inr (.inl rfl)) hk
  ·exact Bj a h (y:=[]) (tw (w:=xg) (by decide) (by decide) (CU _)) (by decide) b (.inl rfl) (apz a g e b.p1 ad f ax)
  ·exact Bj a h (y:=[]) (tw (w:=ny) (by decide) (by decide) (CU _)) (by decide) b (.inl rfl) (apD a g e b.p1 ad f ax)
  ·exact Bj a h (y:=[]) (tw (w:=ny) (by decide) (by decide) (CU _)) (by decide) b (.inl rfl) (apF a g e b.p1 ax)
  ·exact Bj a h (y:=[]) (tw (w:=pL) (by decide) (by decide) (CU _)) (by decide) b (.inl rfl) (apJ a g e b.p1 ad f ax)
  grind[apM]
 ·exact Bk (by omega) hW (wx.one (.inl rfl)) b ax
 ·exact Bk (by omega) hW (wx.one (.inr (.inl rfl))) b ax
 ·exact Bk (by omega) hW (wx.one (.inr (.inr rfl))) b ax
theorem sW.of{X:fw}{m d:Nat}(hm:X.c0<=m+1)(ec:zv X (gm true (some (a1 true m)) (dM (some (a1 true m)))) (zx d))(hW:∀w,hZ d w->eP X (dM (some (a1 true m))) w):sW X d (m+1):=
 ⟨λ{pre t v b e ctx no pd} aB a bl ax=>apr hm (aj.command X.ok (oC X.ok m)) ec (λx k aF=>(aF.aE.facts x).2 k) aB a bl ax,hW,λ{t v b e ctx no pd} k a bl ax=>by obtain⟨c,l,ad,f,rfl⟩:=a;rw[jc] at ax⊢;exact abD hm (aj.command X.ok (oC X.ok m)) ec (λx k aF=>(aF.aE.facts x).2 k) bl.ce bl.abF bl.abG bl.go l.length l c k (cX _) ad f ax⟩
theorem NX{X:fw}(aF:1<=X.c0):∀d,d<=3->∀n,X.c0+2*d<=n->sW X d n
 |0,_,n,ax=>by
  obtain⟨m,rfl⟩:∃m,n=m+1:=⟨n-1,by omega⟩
  exact sW.of (by omega) (apP (by omega)) (eP.consts (m:=m+1) (by omega) (oC X.ok (m+1)).dl rfl)
 |d+1,aE,n,ax=>by
  obtain⟨m,rfl⟩:∃m,n=m+3:=⟨n-3,by omega⟩
  have b:=NX aF d (by omega) (m+1) (by omega);have a:=NX aF d (by omega) (m+2) (by omega);exact sW.of (by omega) (apQ (by omega) (by omega) b a (abM X.ok m)) (abp (by omega) (oC X.ok (m+2)) (by omega) a.abJ a.wd)
def gq(c:aa):Prop:=(69:UInt8)∉c/\c≠[]/\c.getLast?≠some 10
theorem gq.app{x y:aa}(c:(69:UInt8)∉x)(a:gq y):gq (x++y):=by obtain⟨ad,b,d⟩:=a;refine⟨by grind,by simp[b],?_⟩;simp_all
theorem gq.k{x y:aa}(a:gq x)(b:(69:UInt8)∉y/\y≠[]/\y.getLast?≠some 10):gq (x++y):=gq.app a.1 b
theorem gq.args{W:aa->Prop}(hW:∀w,W w->gq w):∀{ws:bt},(∀w∈ws,W w)->jW ws=[]\/gq (jW ws)
 |[],_=> .inl rfl
 |w::t,h=>by
  have he:jW (w::t)=[32]++(w++jW t):=by rfl
  right;rw[he];refine gq.app (by decide) ?_;rcases gq.args hW (ws:=t) (λw a=>h w (by grind)) with ad|ad
  ·grind
  ·exact gq.app (hW w (h w (by simp))).1 ad
theorem gq.simple{W a:aa->Prop}(hW:∀w,W w->gq w)(b:∀w,a w->gq w){s:aa}(h:rW W a s):gq s:=by
 obtain⟨x,ws,r,ad,c,rfl,d⟩:=h;have e:gq x:=by simp only[sT,kc,qE,tZ] at ad;rcases ad with rfl|rfl|rfl|rfl<;>exact⟨by decide,by decide,by decide⟩
 have f:gq (x++jW ws):=by
  rcases gq.args hW c with h|h
  ·grind
  ·exact gq.app e.1 h
 rcases d with rfl|rfl|⟨w,g,rfl⟩
 ·grind
 ·grind[gq.k]
 ·exact gq.app f.1 (gq.app (by decide) (b w g))
theorem gq.list{C:aa->Prop}(b:∀c,C c->gq c){t:aa}(h:u6 C t):gq t:=by
 obtain⟨c,l,ad,a,rfl⟩:=h;induction l generalizing c with
 |nil=>grind[cZ]
 |cons p l d=>
  have he:c++cZ (p::l)=(c++p.1)++(p.2++cZ l):=by simp[cZ]
  rw[he];obtain⟨e,f⟩:=a p (by simp);refine gq.app ?_ (d p.2 f λq g=>a q (by grind));have:(69:UInt8)∉p.1:=(by decide:∀j∈jE,(69:UInt8)∉j) p.1 e;simp[(b c ad).1,this]
end Go.Eng
