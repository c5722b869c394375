/- Part 5 of what FnWrap needs. No condition. -/
import Derived.Test.YthnjiffnjaaejaaGreatDoorFnWrapD
set_option linter.all false
namespace Go.Eng
open Go Go.Proofs
section
variable{R:bg}{n:Nat}(bk:oo R n)(hD:kt R n){e:ca}(bc:e.ne=30- (n:Int))
include bk bc
theorem amM{r:aa}{pd:ao}{st:ah}(h:cB e r pd)(p:fY e r pd st):bL false e r (FI (aR true n) r pd) (λst=>st) (λ_ _ _=>True) (yT R st):=by
 unfold FI yT;refine bL.iH (C:=λx=>x) c3.id (bk.im e .item true rfl bc r pd st h p) (λa r1 u b k s1 c i _=>?_) (λop nd ds b _ l=>?_) (λb d=>?_)
 ·obtain⟨d,m⟩:=b;dsimp only at i⊢;obtain⟨c2,e1⟩:=Ap true n;rw[e1] at k;obtain⟨s,v⟩:=yF (by simp) k;rw[aM (ch s),i.eta.2.2.2.2.1];obtain⟨tr,rfl,t⟩:=i;rw[rK c,fX];simp only[bw,cE,aJ];by_cases f:bs r1=[59,59]
  ·have g:ar r1= .op [59,59]:=(mN (by simp)).2 f;simp only[f,bw,aJ];rw[bh g];obtain⟨q,rfl⟩:=(il g).2.1;have o:q<:+[59,59]++q:=gS _ q;exact⟨_,mq some (sH c 2 rfl),o.trans s1,c.mono o,⟨tr,rfl,λj=>absurd j (c.tE (by simp) (by decide))⟩,trivial⟩
  ·have g:ar r1≠ .op [59,59]:=λj=>f ((mN (by simp)).1 j);simp only[f,bF,aU];rw[aO g];exact⟨_,rfl,s1,c,⟨tr,rfl,t⟩,trivial⟩
 ·obtain⟨d,m⟩:=b;dsimp only at l⊢;rw[l.z.1];simp only[show¬((1:Int)=0) by decide,bF,cP,eB,cn,aU];grind
 ·obtain⟨e4,m⟩:=b;dsimp only at d⊢;rw[d.1];simp only[show¬((2:Int)=0) by decide,bF,cP,eB,cn,aU];grind
include hD
theorem aad{r0 r:aa}{pd:ao}{x:ah}(h:cB e r pd)(L:CQ e r pd x):bL false e r (ae (kQ (a7 true n)) (λ_=>FI (aR true n)) r pd) (λst=>st) (λ_ _ _=>True) (fixF (z8 R (yT R)) bC x):=by
 unfold kQ;rw[amH];refine bL.rep (en:=λ_ r pd x=>CQ e r pd x) (λk s r pd x az L mK hk=>?_) bC () r pd _ (vU h) h L;simp only[kr] at hk⊢;rcases L with⟨i,m,M,rfl,MP,E,F,ib⟩|⟨M,rfl⟩
 ·rw[aM (ch M)];unfold z8;have N:((e.st i pd m).1,(e.st i pd m).2.1,(e.st i pd m).2.2.1,(e.st i pd m).2.2.2.1,(e.st i pd m).2.2.2.2.1,(e.st i pd m).2.2.2.2.2.1,(e.st i pd m).2.2.2.2.2.2.1,(e.st i pd m).2.2.2.2.2.2.2.1,(e.st i pd m).2.2.2.2.2.2.2.2)=e.st i pd m:=rfl;dsimp only;rw[N,qt,aQ rfl];by_cases H:i=[]
  ·subst H;simp only[bw,aJ];obtain⟨f,j,t⟩:=uM (tr:=m) (x:=[120,41]) E (by decide);rw[j,aQ rfl];exact⟨f,rfl,(t.mono F).s⟩
  ·simp only[H,bF,aU];rw[MK E H,aQ rfl];have X:∃f,hr (e.st i pd m) (e.st i pd m).2.1=some f/\iQ e r f:=pK _ E F
   have pH:ar i≠ .eof:=λC=>H (lG.1 C);cases ht:ar i with
   |eof=>grind
   |line=>simp only[aJ];obtain⟨f,j,t⟩:=X;rw[j,aQ rfl];exact⟨_,rfl,by cases j;exact t⟩
   |op o=>simp only[aJ];obtain⟨f,j,t⟩:=X;rw[j,aQ rfl];exact⟨_,rfl,by cases j;exact t⟩
   |word w p=>
    simp only[aU,kr];have gU:cT i=false:=(yJ ib ht).2;have l:=Fv hD bc (tr0:=m) E;have hE:=aH.low (aH.cG (w8 true n▸(tz true n).dl)) E;obtain⟨⟨dE,fo,iY⟩,hb,l⟩:=l;rw[hb,aQ rfl];dsimp only at l⊢;cases hm:cG (a7 true n) i pd with
    |ok a v c=>
     rw[hm] at l;obtain⟨cU,a2,a3, -, -, -⟩:=l;rw[aM (pL hm),a3.eta.2.2.2.2.1];simp only[bw,g9,aU];have hl:=vF (l8 true n) H gU hm;obtain⟨u,rfl,MT⟩:=a3;obtain⟨jO,O,pJ⟩:=xo a2 ⟨u,rfl,MT⟩;rw[O,aQ rfl];rcases pJ with⟨g,d,P,rfl,MU,y,xi,CP⟩|⟨P,rfl⟩
     ·rw[aM (ch P)];have Q:((e.st g c d).1,(e.st g c d).2.1,(e.st g c d).2.2.1,(e.st v c u).2.2.2.1,(e.st g c d).2.2.2.2.1,(e.st g c d).2.2.2.2.2.1,(e.st g c d).2.2.2.2.2.2.1,(e.st v c u).2.2.2.2.2.2.2.1,(e.st g c d).2.2.2.2.2.2.2.2)=e.st g c d:=rfl;rw[Q,qt,aQ rfl];have I:g<:+r:=xi.trans (cU.trans F);by_cases S:g=[]
      ·subst S;simp only[bw,aJ];obtain⟨f,j,t⟩:=uM (tr:=d) (x:=[41]) y (by decide);rw[j,aQ rfl];exact⟨f,rfl,(t.mono I).s⟩
      ·simp only[S,bF,aU];rw[rK y,aQ rfl];have ar9:ar g≠ .eof:=λC=>S (lG.1 C);have T:∃f,hr (e.st g c d) (e.st g c d).2.1=some f/\iQ e r f:=pK _ y I
       by_cases J:bs g=[124]
       ·have D:ar g= .op [124]:=(mN (by simp)).2 J;obtain⟨q,rfl⟩:=(il D).2.1;rw[D,J];simp only[bw,g9,aU,cE,kr,C6,and_true,show¬((124:UInt8)=41) by decide,bF,e2];have G:q<:+[124]++q:=gS _ q;have U:=y.tE (by simp) (by decide);rw[aM (show bU 1 ([124]++q) c= .ok () q c from rfl)];obtain⟨z,I5,Y⟩:=xo (y.mono G) ⟨d,rfl,λC=>absurd C U⟩;have V:g6 ((e.st ([124]++q) c d).1,W ((e.st ([124]++q) c d).2.1+1),(e.st ([124]++q) c d).2.2.1,(e.st v c u).2.2.2.1,(e.st ([124]++q) c d).2.2.2.2.1,(e.st ([124]++q) c d).2.2.2.2.2.1,(e.st ([124]++q) c d).2.2.2.2.2.2.1,(e.st v c u).2.2.2.2.2.2.2.1,(e.st ([124]++q) c d).2.2.2.2.2.2.2.2)=some z:=by rw[<-I5];exact mq g6 (sH y 1 rfl)
        rw[V,aQ rfl];have Z:q.length<r.length:=by grind
        have CS:(z.1,z.2.1,z.2.2.1,(e.st v c u).2.2.2.1,z.2.2.2.2.1,z.2.2.2.2.2.1,z.2.2.2.2.2.2.1,(e.st v c u).2.2.2.2.2.2.2.1,z.2.2.2.2.2.2.2.2)=z:=by rcases Y with⟨nF,Td, -,rfl, -⟩|⟨-,rfl⟩<;>rfl
        rw[CS];exact bL.inl Z (hk () q c z (G.trans I) (y.mono G) Z Y)
       ·by_cases K:bs g=[41]
        ·have D:ar g= .op [41]:=(mN (by simp)).2 K;obtain⟨q,rfl⟩:=(il D).2.1;rw[D,K];simp only[bw,g9,aU,cE,kr,C6,and_true,show¬((41:UInt8)=124) by decide,bF,e2,aJ,cn];have G:q<:+[41]++q:=gS _ q;have U:=y.tE (by simp) (by decide);rw[aM (show bU 1 ([41]++q) c= .ok () q c from rfl)];have ct:=amM bk bc (y.mono G) (st:=e.st q c d) ⟨d,rfl,λC=>absurd C U⟩;have V:yT R ((e.st ([41]++q) c d).1,W ((e.st ([41]++q) c d).2.1+1),(e.st ([41]++q) c d).2.2.1,(e.st v c u).2.2.2.1,(e.st ([41]++q) c d).2.2.2.2.1,(e.st ([41]++q) c d).2.2.2.2.2.1,(e.st ([41]++q) c d).2.2.2.2.2.2.1,(e.st v c u).2.2.2.2.2.2.2.1,(e.st ([41]++q) c d).2.2.2.2.2.2.2.2)=yT R (e.st q c d):=mq (yT R) (sH y 1 rfl);rw[V];obtain⟨b,o7,A⟩:=ct.mono (G.trans I);rw[o7,I2];dsimp only;cases B:FI (aR true n) q c with
         |ok a eL lj=>rw[B] at A;rw[aM B];exact⟨b,rfl,A⟩
         |more op nd ds=>rw[B] at A;rw[de B];exact⟨b,rfl,A⟩
         |bad q=>rw[B] at A;rw[g1 B];exact⟨b,rfl,A⟩
         |deep q=>rw[B] at A;rw[jP B];exact⟨b,rfl,A⟩
        ·simp only[J,K,bF,e2,aJ];obtain⟨f,j,t⟩:=T;rw[j,aQ rfl]
         have fin:∃b:ah,some (f.1,f.2.1,f.2.2.1,(e.st v c u).2.2.2.1,f.2.2.2.2.1,f.2.2.2.2.2.1,f.2.2.2.2.2.2.1,(e.st v c u).2.2.2.2.2.2.2.1,f.2.2.2.2.2.2.2.2)=some b/\iQ e r b:=⟨_,rfl,by cases j;exact t⟩
         cases D:ar g with
         |eof=>grind
         |line=>exact fin
         |word _ _=>exact fin
         |op o=>have aS:=(il D).1;subst aS;simp only[J,K,cn];exact fin
     ·rw[de (op:=[]) (by rw[iG P];rfl)];have Q:((e.tt c).1,(e.tt c).2.1,(e.tt c).2.2.1,(e.st v c u).2.2.2.1,(e.tt c).2.2.2.2.1,(e.tt c).2.2.2.2.2.1,(e.tt c).2.2.2.2.2.2.1,(e.st v c u).2.2.2.2.2.2.2.1,(e.tt c).2.2.2.2.2.2.2.2)=e.tt c:=rfl;rw[Q,oS,aQ rfl];simp only[aJ];obtain⟨f,j,t⟩:=CM (x:=[41]) a2.Au (by decide);rw[j,aQ rfl];exact⟨f,rfl,(t.mono ov).s⟩
    |more op nd ds=>rw[hm] at l;rw[de (sG hm),l.z.1];simp only[show¬((1:Int)=0) by decide,bF,e2,aJ];obtain⟨f,al,bd⟩:=FH (q:=false) (x:=[41]) E l F (by grind) (by decide);rw[al,aQ rfl];exact⟨f,rfl,bd⟩
    |bad q=>rw[hm] at l;rw[g1 (uN hm),l.1];simp only[show¬((2:Int)=0) by decide,bF,e2,aJ];rw[rL l,aQ rfl];exact⟨_,rfl,l.mono F⟩
    |deep q=>rw[hm] at l;rw[jP (uO hm),l.1];simp only[show¬((2:Int)=0) by decide,bF,e2,aJ];rw[rL l,aQ rfl];exact⟨_,rfl,l.mono F⟩
 ·rw[de (op:=[]) (by rw[iG M];rfl)];unfold z8;have N:((e.tt pd).1,(e.tt pd).2.1,(e.tt pd).2.2.1,(e.tt pd).2.2.2.1,(e.tt pd).2.2.2.2.1,(e.tt pd).2.2.2.2.2.1,(e.tt pd).2.2.2.2.2.2.1,(e.tt pd).2.2.2.2.2.2.2.1,(e.tt pd).2.2.2.2.2.2.2.2)=e.tt pd:=rfl;dsimp only;rw[N,oS,aQ rfl];simp only[aJ];obtain⟨f,j,t⟩:=CM (x:=[120,41]) az.Au (by decide);rw[j,aQ rfl];exact⟨f,rfl,(t.mono ov).s⟩
end
theorem I6:(eo:aa)≠[]/\eo.all gp=true:=by decide
def yU:aa:=10::eo
def FJ:aa:=[32]++fl++[10]++eo
def AE:aa:=[120,32]++fl++[10]++eo
theorem amP{σ α:Type}(f:σ->ak (σ⊕α))(x:aa):∀(N:Nat)(s:σ)(r:aa)(pd:ao),r.length<=N->(b8 f s).aK x r pd=b8 (λs=>(f s).aK x) s r pd:=by
 intro N;induction N with
 |zero=>
  intro s r pd h;have d:r.length=0:=by omega
  rw[cm];unfold ak.aK;rw[cm];cases ad:f s r pd with
  |ok y r1 b=>grind[cK]
  |more op nd ds=>rfl
  |bad q=>rfl
  |deep q=>rfl
 |succ N c=>
  intro s r pd h;rw[cm];unfold ak.aK;rw[cm];cases ad:f s r pd with
  |ok y r1 b=>
   cases y with
   |inl s'=>
    simp only[cK];by_cases hl:r1.length<r.length
    ·rw[bh hl,bh hl];exact c s' r1 b (by omega)
    grind
   |inr a=>rfl
  |more op nd ds=>rfl
  |bad q=>rfl
  |deep q=>rfl
noncomputable def yV:ah->Option ah:=λx=>(au (gv x ([]) ([10,101,115,97,99]:aa)) λ(a:ah)=>some a)
noncomputable def I7(R:bg)(a:ah->Option ah):ah->Option ah:=λx=>
 (cP ((decide (x.2.2.2.2.1=0))=true) (lD x) [] λ(b:aa)=>(bif(bif(decide (x.2.2.2.2.1=0)) then(decide (b=([101,115,97,99]:aa))) else false) then some (x.1,(W (x.2.1+4)),x.2.2.1,x.2.2.2.1,x.2.2.2.2.1,x.2.2.2.2.2.1,x.2.2.2.2.2.2.1,x.2.2.2.2.2.2.2.1,x.2.2.2.2.2.2.2.2) else(bif(decide (x.2.2.2.2.1=0)) then(au (Er R x) λ(c:ah)=>a c) else a x)))
noncomputable def I8(R:bg)(b:ah->Option ah):ah->Option ah:=λa=>
 (cP ((decide (a.2.2.2.2.1=0))=true) (gu a) false λ(c:Bool)=>(bif(bif(decide (a.2.2.2.2.1=0)) then c else false) then(au (g7 a ([])) λ(d:ah)=>I7 R b d) else I7 R b a))
theorem aae(R:bg)(j k:ah->Option ah)(x:ah):Es R j k x=(bif(decide (x.2.2.2.2.1=0)) then(au (oc x) λ(a:ah)=>I8 R k a) else j x):=rfl
noncomputable def xp(R:bg):ah->Option ah:=λx=>
 (bif(!(decide (x.2.2.2.2.1=0))) then(au (gv x ([]) ([32,105,110,10,101,115,97,99]:aa)) λ(b:ah)=>some b) else(au (lD x) λ(c:aa)=>(bif(!(decide (c=([105,110]:aa)))) then(au (hr x x.2.1) λ(a:ah)=>some (a.1,a.2.1,a.2.2.1,x.2.2.2.1,a.2.2.2.2.1,a.2.2.2.2.2.1,a.2.2.2.2.2.2.1,x.2.2.2.2.2.2.2.1,a.2.2.2.2.2.2.2.2)) else(fixF (Es R yV) bC (x.1,(W (x.2.1+2)),x.2.2.1,x.2.2.2.1,x.2.2.2.2.1,x.2.2.2.2.2.1,x.2.2.2.2.2.2.1,x.2.2.2.2.2.2.2.1,x.2.2.2.2.2.2.2.2)))))
noncomputable def I9(R:bg):ah->Option ah:=λb=>
 (bif(decide (b.2.2.2.2.1=0)) then(au (oc b) λ(a:ah)=>(cP ((decide (a.2.2.2.2.1=0))=true) (gu a) false λ(c:Bool)=>(bif(bif(decide (a.2.2.2.2.1=0)) then c else false) then(au (g7 a ([])) λ(d:ah)=>xp R d) else xp R a))) else xp R b)
noncomputable def Te(R:bg):ah->Option ah:=λx=>
 (au (gu x) λ(b:Bool)=>(bif b then(au (g7 x ([120,32,105,110,10,101,115,97,99]:aa)) λ(c:ah)=>some c) else(au (vC x) λ(d:Bool)=>(bif d then(au (hr x x.2.1) λ(a:ah)=>some (a.1,a.2.1,a.2.2.1,x.2.2.2.1,a.2.2.2.2.1,a.2.2.2.2.2.1,a.2.2.2.2.2.2.1,x.2.2.2.2.2.2.2.1,a.2.2.2.2.2.2.2.2)) else(au (p_ R x) λy=>I9 R y.2.2)))))
theorem amQ(R:bg)(x0:ah):Et R x0=au (g6 x0) λa=>Te R (a.1,a.2.1,a.2.2.1,x0.2.2.2.1,a.2.2.2.2.1,a.2.2.2.2.2.1,a.2.2.2.2.2.2.1,x0.2.2.2.2.2.2.2.1,a.2.2.2.2.2.2.2.2):=rfl
theorem FK{e:ca}{r:aa}{b pd:ao}{x:aa}(h:cB e r b)(d:eh pd<=100*e.S.length+800)(f:x.length<=100):∃a,g7 (e.tt pd) x=some a/\nZ e r (cQ [] pd x).1 (cQ [] pd x).2 a:=by
 have h0:=h.bZ;have g:=tA pd;have c:=As x [] pd;refine⟨(e.S,(e.S.length:Int),e.ne,(cQ [] pd x).2,1,0,(cQ [] pd x).1,[],true),?_,rfl,rfl,rfl,⟨rfl,?_,?_,?_,?_⟩,?_⟩
 ·unfold g7 a8 ca.tt;simp only[bw,aJ];rw[CH _ _ _ _ _ _ _ _ _ _ (by omega) (by grind) (by omega),aQ rfl]
 ·grind[ax]
 ·grind
 ·grind
 ·simp
 simp
theorem amR{l:dS}{D:ak Unit}(aG:l.dl=D)(hl:yL l)(t:Tok):aH 50 (AB l D t):=by subst aG;exact(aH.ite (aH.dj _) (aH.ret _)).ae λ_=>((aH.w2 hl).mono (by decide)).ae λ_=>(hl.ls _ _).ae λ_=>(aH.dH (by simp)).ae λt=>aH.ite (aH.dj _) (aH.ret _)
section
variable{R:bg}{n:Nat}(bk:oo R n)(hD:kt R n){e:ca}(bc:e.ne=30- (n:Int))
include bk hD bc
theorem amS{r:aa}{pd:ao}{st:ah}(h:cB e r pd)(k:fY e r pd st)(i:bp r=some r):bL false e r (AB (aR true n) (a7 true n) (ar r) r pd) (λst=>st) (λ_ _ _=>True) (Er R st):=by
 unfold AB;rw[amL];obtain⟨tr,rfl,l⟩:=k;rw[rK h,aQ rfl];by_cases a:bs r=[40]
 ·have b:ar r= .op [40]:=(mN (by simp)).2 a;simp only[a,b,bw,aJ,cE];obtain⟨q,rfl⟩:=(il b).2.1;rw[aM (show bU 1 ([40]++q) pd= .ok () q pd from rfl)];have c:q<:+[40]++q:=gS _ q;have m:=h.tE (by simp) (by decide);obtain⟨d,o,j⟩:=xo (h.mono c) (st:=e.st q pd tr) ⟨tr,rfl,λf=>absurd f m⟩;have p:g6 ((e.st ([40]++q) pd tr).1,W ((e.st ([40]++q) pd tr).2.1+1),(e.st ([40]++q) pd tr).2.2.1,(e.st ([40]++q) pd tr).2.2.2.1,(e.st ([40]++q) pd tr).2.2.2.2.1,(e.st ([40]++q) pd tr).2.2.2.2.2.1,(e.st ([40]++q) pd tr).2.2.2.2.2.2.1,(e.st ([40]++q) pd tr).2.2.2.2.2.2.2.1,(e.st ([40]++q) pd tr).2.2.2.2.2.2.2.2)=some d:=by rw[<-o];exact mq g6 (sH h 1 rfl)
  rw[p,aQ rfl];have g:I4 R (e.st ([40]++q) pd tr) d=fixF (z8 R (yT R)) bC d:=by unfold I4;rcases j with⟨s,t, -,rfl, -⟩|⟨-,rfl⟩<;>rfl
  rw[g];exact(aad (r0:=[40]++q) bk hD bc (h.mono c) j).mono c
 ·have b:ar r≠ .op [40]:=λf=>a ((mN (by simp)).1 f);simp only[a,b,bF,aU,cn];rw[I2];have g:I4 R (e.st r pd tr) (e.st r pd tr)=fixF (z8 R (yT R)) bC (e.st r pd tr):=rfl;rw[g];exact aad (r0:=r) bk hD bc h (.inl ⟨r,tr,i,rfl,l,h,fM,i⟩)
omit bk hD bc in
theorem Tf{k:ah->Option ah}{x:ah}(h:x.2.2.2.2.1≠0):I7 R k x=k x:=by unfold I7;simp_all[cP]
omit bk hD bc in
theorem Tg{k:ah->Option ah}{x:ah}(h:x.2.2.2.2.1≠0):I8 R k x=k x:=by unfold I8;simp only[h,bF,cP,eB,cn,aU];exact Tf h
theorem amT{r:aa}{pd:ao}{st:ah}(h:cB e r pd)(I:fY e r pd st):bL false e r ((nu (aR true n) (a7 true n)).aK yU r pd) (λst=>st) (λ_ _ _=>True) (fixF (Es R yV) bC st):=by
 rw[amJ,amP _ _ _ _ _ _ (cV _)];refine bL.rep (en:=λ_ r pd x=>fY e r pd x) (λk s r pd x p w J hk=>?_) bC () r pd _ (vU h) h I
 have m:∀x:ah,x.2.2.2.2.1≠0->k x=yV x:=by intro x w;obtain⟨k',ad⟩:=J x;simp_all[aae]
 have K:yU.length<=100:=by decide
 have y:∀{r1:aa}{nd:aa}{ds:ao}{st:ah}{op:bt},r1<:+r->iI false e r1 nd ds st->nd.length+eh ds<=100*e.S.length+500->oU (aR true n) (a7 true n) s r pd= .more op nd ds->bL false e r (cK (λs=>(oU (aR true n) (a7 true n) s).aK yU) r ((oU (aR true n) (a7 true n) s).aK yU r pd)) (λst=>st) (λ_ _ _=>True) (k st):=by intro r1 nd ds st op ad D L M;rw[sG M,m st (by rw[D.z.1];decide)];obtain⟨z,N,O⟩:=FH (q:=false) (x:=yU) (p.mono ad) D ad L K;unfold yV;rw[show([10,101,115,97,99]:aa)=yU from rfl,N];exact⟨z,rfl,O⟩
 rw[aae,w.eta.2.2.2.2.1];simp only[bw,aJ];obtain⟨V,P,f⟩:=Fp p w;rw[P,aQ rfl];have Q:=aH.low (aH.lines (c:=0)) p;cases hm:cS r pd with
 |ok a r1 i=>
  rw[hm] at f;obtain⟨t,a2,a3,u,W⟩:=f;obtain⟨tr,rfl,S⟩:=a3;unfold I8;have v:(e.st r1 i tr).2.2.2.2.1=0:=rfl;rw[v,qt,fX];simp only[bw,cE,aJ];by_cases A:r1=[]
  ·subst A;simp only[bw,aJ];obtain⟨z,B,o⟩:=uM (tr:=tr) (x:=[]) a2 (by decide);rw[B,aQ rfl,Tf (by rw[o.1];decide)];have g:oU (aR true n) (a7 true n) s r pd= .more [] [] i:=by unfold oU;rw[aM hm,aM (ch u)];rfl
   exact y t o.s (by have:=a2.jM;show([]:aa).length+eh i<=_;omega) g
  ·simp only[A,bF,aU];unfold I7;rw[v,vV a2,fX];simp only[bw,cE,aJ];have E:=h.nl.h7 a2.sfx;have T:ar r1≠ .eof:=λC=>A (lG.1 C);by_cases aG:i_ r1=[101,115,97,99]
   ·have F:=(rJ E I6.1 I6.2).1 aG;simp only[aG,bw,aJ];obtain⟨q,rfl⟩:=(qj F).1;have G:q<:+eo++q:=gS _ q;have g:oU (aR true n) (a7 true n) s r pd= .ok (.inr ()) q i:=by unfold oU;rw[aM hm,aM (ch u),F];rfl
    rw[pL g];exact⟨_,mq some (sH a2 4 rfl),G.trans t,a2.mono G,⟨tr,rfl,λC=>absurd C (a2.tE (by decide) (by decide))⟩,trivial⟩
   ·have bf:cA (ar r1) eo=false:=by rw[<-IU E I6.1 I6.2];exact e3 aG
    simp only[aG,bF,aU];have j:oU (aR true n) (a7 true n) s r pd=ae (AB (aR true n) (a7 true n) (ar r1)) (λ_=>aX (.inl ())) r1 i:=by unfold oU;rw[aM hm,aM (ch u),aO T,aO (by grind)]
    have d:=amS bk hD bc a2 ⟨tr,rfl,S⟩ u;obtain⟨b,H,d⟩:=d;rw[H,aQ rfl];have U:∀op nd ds,AB (aR true n) (a7 true n) (ar r1) r1 i= .more op nd ds->nd.length+eh ds<=100*e.S.length+50:=aH.low (amR (w8 true n) (tz true n) _) a2
    cases l:AB (aR true n) (a7 true n) (ar r1) r1 i with
    |ok a2 X Y=>rw[l] at d;obtain⟨Z,fo,iY,_⟩:=d;rw[aM l] at j;have hl:=amK (s':=()) j;rw[pL j];grind[bL.inl]
    |more op nd ds=>grind[de]
    |bad q=>rw[l] at d;rw[g1 l] at j;rw[uN j];rw[m b (by rw[d.1];decide)];unfold yV;rw[rL d];exact⟨_,rfl,d.mono t⟩
    |deep q=>rw[l] at d;rw[jP l] at j;rw[uO j];rw[m b (by rw[d.1];decide)];unfold yV;rw[rL d];exact⟨_,rfl,d.mono t⟩
 |more op nd ds=>
  rw[hm] at f;have g:oU (aR true n) (a7 true n) s r pd= .more op nd ds:=by unfold oU;grind[de]
  have H:=Q _ _ _ hm;rcases f with f|⟨_,rfl,rfl⟩
  ·rw[Tg (by grind)];exact y List.suffix_rfl (.inl f) (by omega) g
  ·unfold I8;have v:(e.tt ds).2.2.2.2.1=0:=rfl;rw[v,oS,fX];simp only[decide_true,if_true,cond_true];obtain⟨z,B,o⟩:=FK (pd:=ds) (x:=[]) p (by omega) (by simp);rw[B,aQ rfl,Tf (by rw[o.1];decide)];exact y fM o.s (by show([]:aa).length+eh ds<=_;omega) g
 |bad q=>
  rw[hm] at f;have g:oU (aR true n) (a7 true n) s r pd= .bad q:=by simp_all[oU,g1]
  rw[uN g,Tg (by rw[f.1];decide),m _ (by rw[f.1];decide)];unfold yV;rw[rL f];exact⟨_,rfl,f⟩
 |deep q=>
  rw[hm] at f;have g:oU (aR true n) (a7 true n) s r pd= .deep q:=by simp_all[oU,jP]
  rw[uO g,Tg (by rw[f.1];decide),m _ (by rw[f.1];decide)];unfold yV;rw[rL f];exact⟨_,rfl,f⟩
end
def pM(D:ak Unit):ak Tok:=ae (cG D) λ_=>ae cS λ_=>ae (bM []) λt=>if t= .eof then b5 [] else aX t
theorem amU(l:dS)(D:ak Unit):qV l D=ae (bM AE) λt=>match t with
 | .eof=>b5 AE
 | .word _ _=>ae ((pM D).aK FJ) λt=>if cA t fl then ae (bU 2) λ_=>(nu l D).aK yU else bJ
 |_=>bJ:=rfl
section
variable{R:bg}{n:Nat}(bk:oo R n)(hD:kt R n){e:ca}(bc:e.ne=30- (n:Int))
theorem MW{r r0:aa}{nd:aa}{ds:ao}{st:ah}{b:ao}(h0:cB e r b)(hm:iI false e r nd ds st)(c:r<:+r0)(d:nd.length+eh ds<=100*e.S.length+500):∃a,xp R st=some a/\iI false e r0 (cQ nd ds FJ).1 (cQ nd ds FJ).2 a:=by obtain⟨a,f,g⟩:=FH (q:=false) (x:=FJ) h0 hm c d (by decide);unfold xp;rw[hm.z.1];simp only[show¬((1:Int)=0) by decide,bF,e2,aJ];rw[show([32,105,110,10,101,115,97,99]:aa)=FJ from rfl,f];exact⟨a,rfl,g⟩
theorem MX{r:aa}{st:ah}(hm:iQ e r st):xp R st=some st:=by unfold xp;rw[hm.1];simp only[show¬((2:Int)=0) by decide,bF,e2,aJ];rw[rL hm];rfl
theorem Th{st:ah}(hm:st.2.2.2.2.1≠0):I9 R st=xp R st:=by simp_all[I9]
include bk hD bc
theorem amV{r r0:aa}{pd:ao}{st:ah}(h:cB e r pd)(d:fY e r pd st)(h0:r<:+r0)(k:bp r=some r)(l:r≠[]):bL false e r0 ((if cA (ar r) fl then ae (bU 2) λ_=>(nu (aR true n) (a7 true n)).aK yU else bJ:ak Unit) r pd) (λst=>st) (λ_ _ _=>True) (xp R st):=by
 obtain⟨tr,rfl,m⟩:=d;have f:(e.st r pd tr).2.2.2.2.1=0:=rfl;unfold xp;rw[f,vV h,aQ rfl];simp only[bw,g9,aU];have a:=h.nl.h7 h.sfx;by_cases aG:i_ r=[105,110]
 ·have g:=(rJ a Ay.1 Ay.2).1 aG;simp only[aG,bw,g9,aU];have bf:cA (ar r) fl=true:=by grind[cA]
  rw[bh bf];obtain⟨q,rfl⟩:=(qj g).1;rw[aM (show bU 2 (fl++q) pd= .ok () q pd from rfl)];have b:q<:+fl++q:=gS _ q;have aF:=amT bk hD bc (h.mono b) (st:=e.st q pd tr) ⟨tr,rfl,λi=>absurd i (h.tE (by decide) (by decide))⟩;refine bL.dU (aF.mono (b.trans h0)) ?_;exact mq (fixF (Es R yV) bC) (sH h 2 rfl)
 ·have bf:cA (ar r) fl=false:=by rw[<-IU a Ay.1 Ay.2];exact e3 aG
  simp only[aG,bF,e2,aJ];rw[aO (by grind)];obtain⟨o,c,j⟩:=pK (tr:=tr) (e.st r pd tr).2.1 h h0;rw[c,aQ rfl];exact⟨_,rfl,by cases c;exact j⟩
theorem amW{r r0:aa}{pd:ao}{tr0:Bool}(h:cB e r pd)(g:r<:+r0){w:aa}{p:Bool}(N:ar r= .word w p):bL false e r0 (ae ((pM (a7 true n)).aK FJ) (λt=>if cA t fl then ae (bU 2) λ_=>(nu (aR true n) (a7 true n)).aK yU else bJ) r pd) (λst=>st) (λ_ _ _=>True) (au (p_ R (e.st r pd tr0)) λy=>I9 R y.2.2):=by
 have b:=Fv hD bc (tr0:=tr0) h;have O:=aH.low (aH.cG (w8 true n▸(tz true n).dl)) h;obtain⟨⟨P,Q,S⟩,E,b⟩:=b;rw[E,aQ rfl];dsimp only at b⊢;cases hm:cG (a7 true n) r pd with
 |ok a F G=>
  rw[hm] at b;obtain⟨m,a2,a3, -, -, -⟩:=b;unfold I9;rw[a3.eta.2.2.2.2.1];simp only[bw,aJ];obtain⟨T,H,d⟩:=Fp a2 a3;rw[H,aQ rfl];have z:=aH.low (aH.lines (c:=0)) a2;cases i:cS F G with
  |ok U o s=>
   rw[i] at d;obtain⟨e4,u,I,A,V⟩:=d;obtain⟨tr,rfl,J⟩:=I;have B:(e.st o s tr).2.2.2.2.1=0:=rfl;rw[B,qt,fX];simp only[bw,cE,aJ];by_cases v:o=[]
   ·subst v;simp only[bw,aJ];obtain⟨K,C,D⟩:=uM (tr:=tr) (x:=[]) u (by decide);rw[C,aQ rfl];have f:pM (a7 true n) r pd= .more [] [] s:=by unfold pM;rw[aM hm,aM i,aM (ch A)];rfl
    rw[de (sG f)];have:=u.jM;obtain⟨j,k,l⟩:=MW (R:=R) u D.s (e4.trans (m.trans g)) (by show([]:aa).length+eh s<=_;omega);exact⟨j,k,l⟩
   ·simp only[v,bF,aU];have L:ar o≠ .eof:=λM=>v (lG.1 M);have f:pM (a7 true n) r pd= .ok (ar o) o s:=by unfold pM;rw[aM hm,aM i,aM (ch A),aO L];rfl
    rw[aM (pL f)];exact amV bk hD bc u ⟨tr,rfl,J⟩ (e4.trans (m.trans g)) A v
  |more op nd ds=>
   rw[i] at d;have f:pM (a7 true n) r pd= .more op nd ds:=by unfold pM;grind[aM,de]
   rw[de (sG f)];have W:=z _ _ _ i;rcases d with d|⟨_,rfl,rfl⟩
   ·rw[d.1];simp only[show¬((1:Int)=0) by decide,bF,cP,eB,cn,aU];obtain⟨j,k,l⟩:=MW (R:=R) a2 (.inl d) (m.trans g) (by omega);exact⟨j,k,l⟩
   ·have B:(e.tt ds).2.2.2.2.1=0:=rfl;rw[B,oS,fX];simp only[bw,cE,aJ];obtain⟨K,C,D⟩:=FK (pd:=ds) (x:=[]) a2 (by omega) (by simp);rw[C,aQ rfl];obtain⟨j,k,l⟩:=MW (R:=R) a2 D.s (m.trans g) (by show([]:aa).length+eh ds<=_;omega);exact⟨j,k,l⟩
  |bad q=>
   rw[i] at d;have f:pM (a7 true n) r pd= .bad q:=by unfold pM;grind[aM,g1]
   rw[g1 (uN f),d.1];simp only[show¬((2:Int)=0) by decide,bF,cP,eB,cn,aU];rw[MX d];exact⟨_,rfl,d.mono (m.trans g)⟩
  |deep q=>
   rw[i] at d;have f:pM (a7 true n) r pd= .deep q:=by unfold pM;grind[aM,jP]
   rw[jP (uO f),d.1];simp only[show¬((2:Int)=0) by decide,bF,cP,eB,cn,aU];rw[MX d];exact⟨_,rfl,d.mono (m.trans g)⟩
 |more op nd ds=>
  rw[hm] at b;have f:pM (a7 true n) r pd= .more op nd ds:=by unfold pM;rw[de hm]
  rw[de (sG f),Th (by rw[b.z.1];decide)];obtain⟨j,k,l⟩:=MW (R:=R) h b g (by grind);exact⟨j,k,l⟩
 |bad q=>
  rw[hm] at b;have f:pM (a7 true n) r pd= .bad q:=by simp_all[pM,g1]
  rw[g1 (uN f),Th (by rw[b.1];decide),MX b];exact⟨_,rfl,b.mono g⟩
 |deep q=>
  rw[hm] at b;have f:pM (a7 true n) r pd= .deep q:=by simp_all[pM,jP]
  rw[jP (uO f),Th (by rw[b.1];decide),MX b];exact⟨_,rfl,b.mono g⟩
theorem amX{r:aa}{pd:ao}{st:ah}(h:cB e r pd)(s:fY e r pd st):bL false e r (qV (aR true n) (a7 true n) r pd) (λst=>st) (λ_ _ _=>True) (Et R st):=by
 rw[amU,amQ];obtain⟨tr,rfl,t⟩:=s;rcases xd h ⟨tr,rfl,t⟩ with⟨a,y,i,j,u,k,m,z⟩|⟨i,j⟩
 ·rw[j,aQ rfl,aM (ch i)];obtain⟨b,rfl,A⟩:=u;have l:((e.st a pd b).1,(e.st a pd b).2.1,(e.st a pd b).2.2.1,(e.st r pd tr).2.2.2.1,(e.st a pd b).2.2.2.2.1,(e.st a pd b).2.2.2.2.2.1,(e.st a pd b).2.2.2.2.2.2.1,(e.st r pd tr).2.2.2.2.2.2.2.1,(e.st a pd b).2.2.2.2.2.2.2.2)=e.st a pd b:=rfl;rw[l];unfold Te;rw[qt,aQ rfl];by_cases g:a=[]
  ·subst g;simp only[bw,aJ];obtain⟨d,c,f⟩:=uM (tr:=b) (x:=AE) k (by decide);rw[show([120,32,105,110,10,101,115,97,99]:aa)=AE from rfl,c,aQ rfl];exact⟨d,rfl,(f.mono m).s⟩
  ·simp only[g,bF,aU];rw[MK k g,aQ rfl];have q:∃d,hr (e.st a pd b) (e.st a pd b).2.1=some d/\iQ e r d:=pK _ k m
   have B:ar a≠ .eof:=λv=>g (lG.1 v);cases C:ar a with
   |eof=>grind
   |line=>simp only[aJ];obtain⟨d,c,f⟩:=q;rw[c,aQ rfl];exact⟨_,rfl,by cases c;exact f⟩
   |op o=>simp only[aJ];obtain⟨d,c,f⟩:=q;rw[c,aQ rfl];exact⟨_,rfl,by cases c;exact f⟩
   |word w p=>simp only[aU];grind[amW]
 ·rw[j,aQ rfl,de (op:=[]) (nd:=(cQ [] pd AE).1) (ds:=(cQ [] pd AE).2) (by rw[iG i];rfl)];have l:((e.tt pd).1,(e.tt pd).2.1,(e.tt pd).2.2.1,(e.st r pd tr).2.2.2.1,(e.tt pd).2.2.2.2.1,(e.tt pd).2.2.2.2.2.1,(e.tt pd).2.2.2.2.2.2.1,(e.st r pd tr).2.2.2.2.2.2.2.1,(e.tt pd).2.2.2.2.2.2.2.2)=e.tt pd:=rfl;rw[l];unfold Te;rw[oS,aQ rfl];simp only[aJ];obtain⟨d,c,f⟩:=CM (x:=AE) h.Au (by decide);rw[show([120,32,105,110,10,101,115,97,99]:aa)=AE from rfl,c,aQ rfl];exact⟨d,rfl,(f.mono ov).s⟩
end
theorem MY:(iE:aa)≠[]/\iE.all gp=true:=by decide
theorem CU:(eU:aa)≠[]/\eU.all gp=true:=by decide
theorem Ti:(hS:aa)≠[]/\hS.all gp=true:=by decide
theorem Tj:(ig:aa)≠[]/\ig.all gp=true:=by decide
theorem MZ:([125]:aa)≠[]/\([125]:aa).all gp=true:=by decide
theorem Tk(t:Tok)(h:dG .qc t=true):∃w,t= .word w true/\w≠[]/\w.all gp=true/\(w=ig\/w=hS\/w=eU):=by
 simp only[dG,AO] at h;rcases h with(h|h)|h
 ·exact⟨ig,FE h,Tj.1,Tj.2,.inl rfl⟩
 ·exact⟨hS,FE h,Ti.1,Ti.2,.inr (.inl rfl)⟩
 ·exact⟨eU,FE h,CU.1,CU.2,.inr (.inr rfl)⟩
theorem amY{β:Type}{m:Nat}{c:Ctx}{no:Bool}{kw x y:aa}{K:ak β}(aF:c≠ .text)(b:∀t,dG c t=cA t kw)(e:kw≠[]/\kw.all gp=true){r:aa}{pd:ao}(f:dr r):
  ae (((aR true m).ls c no).aK x) (λ_=>ae ((cW kw).aK y) (λ_=>K)) r pd=ae (ae (((aR true m).ls c no).aK x) (λ_=>sF)) (λ_=>K) r pd:=by
 rw[<-MN aF b e f];cases hm:(((aR true m).ls c no).aK x) r pd with
 |ok a r1 g=>
  rw[aM hm,aM hm];have d:=gK.1 hm;obtain⟨c2,e1⟩:=Ap true m;rw[e1] at d;obtain⟨h,i⟩:=yF aF d;rw[b] at i;have j:ar r1= .word kw true:=by grind[cA]
  have:=FB (pd:=g) h j;grind[aM,pL]
 |more op nd ds=>grind[de]
 |bad q=>grind[g1]
 |deep q=>grind[jP]
def Tl:aa:=[10]++iE++[32,120,10]++eU
def xq:aa:=10::eU
def M0(l:dS):Unit->ak (Unit⊕Unit):=λ_=>ae ((l.ls .rB false).aK Tl) λ_=>ae (cW iE) λ_=>ae ((l.ls .qc false).aK xq) λ_=>
    ae (bM []) λt=>if cA t ig then ae (cW ig) λ_=>aX (.inl ()) else
     if cA t hS then ae (cW hS) λ_=>ae ((l.ls .kj false).aK xq) λ_=>ae (cW eU) λ_=>aX (.inr ()) else ae (cW eU) λ_=>aX (.inr ())
theorem amZ(l:dS):qd l=b8 (M0 l) ():=rfl
theorem am0{n:Nat}{s':Unit}{r:aa}{pd:ao}{r':aa}{a:ao}(h:M0 (aR true n) () r pd= .ok (.inl s') r' a):r'.length<r.length:=(XD (qY true n)).lt (s:=()) h
def M1(l:dS):ak (Unit⊕Unit):=ae ((l.ls .qc false).aK xq) λ_=>
    ae (bM []) λt=>if cA t ig then ae (cW ig) λ_=>aX (.inl ()) else
     if cA t hS then ae (cW hS) λ_=>ae ((l.ls .kj false).aK xq) λ_=>ae (cW eU) λ_=>aX (.inr ()) else ae (cW eU) λ_=>aX (.inr ())
def Tm(l:dS):ak (Unit⊕Unit):=ae (ae ((l.ls .qc false).aK xq) λ_=>sF) λa=>if a=ig then aX (.inl ()) else if a=hS then ae (ae ((l.ls .kj false).aK xq) λ_=>sF) λ_=>aX (.inr ()) else aX (.inr ())
theorem am1{n:Nat}{s:Unit}{r:aa}{pd:ao}(a:dr r):M0 (aR true n) s r pd=ae (ae (((aR true n).ls .rB false).aK Tl) λ_=>sF) (λ_=>M1 (aR true n)) r pd:=by show ae (((aR true n).ls .rB false).aK Tl) (λ_=>ae (cW iE) λ_=>M1 (aR true n)) r pd=_;exact MN (by simp) Z0 MY a
theorem am2{r:aa}{pd:ao}{w:aa}(a:dr r)(b:w≠[]/\w.all gp=true)(c:ar r= .word w true):sF r pd= .ok w (r.drop w.length) pd:=by grind[rJ,sF]
theorem am3{n:Nat}{r:aa}{pd:ao}(g:dr r):M1 (aR true n) r pd=Tm (aR true n) r pd:=by
 unfold M1 Tm;rw[kr];cases hm:(((aR true n).ls .qc false).aK xq) r pd with
 |ok a r1 h=>
  rw[aM hm,aM hm];have f:=gK.1 hm;have i:=((qY true n).ls .qc false).sfx f;have b:=g.h7 i;obtain⟨c2,e1⟩:=Ap true n;rw[e1] at f;obtain⟨e,j⟩:=yF (by simp) f;obtain⟨w,d,k,l,o⟩:=Tk _ j;rw[aM (ch e),aM (am2 b ⟨k,l⟩ d),d];rcases o with rfl|rfl|rfl
  ·rw[bh (by decide),bh rfl,aM (FB e d)]
  ·rw[aO (by decide),bh (by decide),aO (by decide),bh rfl,aM (FB e d)];have aG:dr (r1.drop hS.length):=b.h7 (lJ _ _);have:=MN (β:=Unit⊕Unit) (m:=n) (no:=false) (x:=xq) (K:=aX (.inr ())) (c:= .kj) (by simp) Z2 CU aG (pd:=h);omega
  ·rw[aO (by decide),aO (by decide),aO (by decide),aO (by decide),aM (FB e d)]
 |more op nd ds=>grind[de]
 |bad q=>grind[g1]
 |deep q=>grind[jP]
noncomputable def CV(R:bg):aa×ah->Option ah:=λy=>
 (bif(bif(decide (y.2.2.2.2.2.1=0)) then(decide (y.1=([101,108,115,101]:aa))) else false) then(au (py R y.2 ([([102,105]:aa)]:bt) ([10,102,105]:aa)) λ(b,a)=>some a) else some y.2)
theorem aai(R:bg)(j:aa×ah->Option ah)(k:aa×ah->Option ah)(y:aa×ah):HU R j k y=(bif(bif(decide (y.2.2.2.2.2.1=0)) then(decide (y.1=([101,108,105,102]:aa))) else false) then
 (au (py R y.2 ([([116,104,101,110]:aa)]:bt) ([10,116,104,101,110,32,120,10,102,105]:aa)) λz=>
 (bif(decide (z.2.2.2.2.2.1=0)) then
 (au (py R z.2 ([([101,108,105,102]:aa),([101,108,115,101]:aa),([102,105]:aa)]:bt) ([10,102,105]:aa)) λv=>k v)
 else k (y.1,z.2)))
 else j y):=rfl
section
variable{R:bg}{n:Nat}(bk:oo R n)(hD:kt R n){e:ca}(bc:e.ne=30- (n:Int))
theorem M3{y:aa×ah}(h:y.2.2.2.2.2.1≠0):CV R y=some y.2:=by simp_all[CV]
include bk bc
theorem am4{r:aa}{pd:ao}{st:ah}(h:cB e r pd)(E:fY e r pd st):bL false e r (qd (aR true n) r pd) (λst=>st) (λ_ _ _=>True) (fixF (HU R (CV R)) bC (ig,st)):=by
 rw[amZ];refine bL.rep (en:=λ_ r pd (x:aa×ah)=>x.1=ig/\fY e r pd x.2) (λk s r pd x l i F hk=>?_) bC () r pd _ (vU h) h ⟨rfl,E⟩;obtain⟨W,x⟩:=x;obtain⟨rfl,i⟩:=i;dsimp only at i
 have g:∀y:aa×ah,(y.2.2.2.2.2.1≠0\/y.1≠ig)->k y=CV R y:=by
  intro y bx;obtain⟨k',ad⟩:=F y;rw[ad,aai];rcases bx with bx|bx
  ·grind
  ·have:decide (y.1=([101,108,105,102]:aa))=false:=e3 bx;grind
 rw[aai];dsimp only;rw[i.eta.2.2.2.2.1,decide_eq_true (show(ig:aa)=[101,108,105,102] from rfl)];simp only[bw,aJ];have d:∀{u:aa}{m:ao},M0 (aR true n) s r pd= .ok (.inl ()) u m->u.length<r.length:=λG=>am0 (s':=()) G
 rw[am1 (l.nl.h7 l.sfx)] at d⊢;refine bL.iH (C:=cK _ r) c3.k (CN bk bc (c:= .rB) rfl (by simp) (FF Z0 MY) (by decide) l i) (λa r1 X b H s1 o z Y=>?_) (λop nd ds b _ p=>?_) (λb q=>?_)
 ·rw[aM H] at d;rw[z.eta.2.2.2.2.1];simp only[bw,aJ];rw[am3 (o.nl.h7 o.sfx)] at d⊢;unfold Tm at d⊢;have I:=(CN bk bc (c:= .qc) (x:=xq) rfl (by simp) (λt Z=>by grind[Tk]) (by decide) o z).mono s1;refine bL.iH (C:=cK _ r) c3.k I (λa2 J K f L s2 v j M=>?_) (λop nd ds f _ A=>?_) (λf B=>?_)
  ·rw[aM L] at d;obtain⟨rfl, -,N, -⟩:=M;obtain⟨w,O,e5,hU,P⟩:=Tk _ N;cases O;rcases P with sE|sE|sE
   ·rw[sE] at d⊢;rw[bh rfl] at d⊢;have hl:=d rfl;exact bL.inl hl (hk () J K f s2 v hl ⟨sE,j⟩)
   ·rw[sE,aO (by decide),bh rfl,g f (.inr (by rw[sE];decide))];unfold CV;rw[j.eta.2.2.2.2.1,sE,decide_eq_true (show(hS:aa)=[101,108,115,101] from rfl)];simp only[bw,aJ];have Q:=(CN bk bc (c:= .kj) (x:=xq) rfl (by simp) (FF Z2 CU) (by decide) v j).mono s2;refine bL.iH (C:=cK _ r) c3.k Q (λa3 cu b2 D Ms S T U V=>?_) (λop nd ds D _ oJ=>?_) (λD kv=>?_)
    ·exact⟨_,rfl,S,T,U,trivial⟩
    ·grind
    grind
   ·rw[sE,aO (by decide),aO (by decide),g f (.inr (by rw[sE];decide))];unfold CV;rw[sE,e3 (show¬(eU:aa)=[101,108,115,101] by decide)]
    have:∀b:Bool,(bif b then false else false)=false:=by decide
    rw[this];exact⟨_,rfl,s2,v,j,trivial⟩
  ·rw[g f (.inl (by rw[A.z.1];decide)),M3 (by rw[A.z.1];decide)];grind
  ·rw[g f (.inl (by rw[B.1];decide)),M3 (by rw[B.1];decide)];grind
 ·rw[p.z.1];simp only[show¬((1:Int)=0) by decide,bF,aU];rw[g _ (.inl (by show b.2.2.2.2.2.1≠0;rw[p.z.1];decide)),M3 (by show b.2.2.2.2.2.1≠0;rw[p.z.1];decide)];grind
 ·rw[q.1];simp only[show¬((2:Int)=0) by decide,bF,aU];rw[g _ (.inl (by show b.2.2.2.2.2.1≠0;rw[q.1];decide)),M3 (by show b.2.2.2.2.2.1≠0;rw[q.1];decide)];grind
end
theorem CW{α:Type}(m:Option α):au m (λy=>some y)=m:=by cases m<;>rfl
def yW(l:dS)(w:aa):ak Unit:=if w=[123] then ae ((l.ls .qU false).aK [10,125]) λ_=>cW [125]
 else if w=mh then qd l
 else if w=nr then pD l l.dl
 else if w=pA then qV l l.dl
 else ae ((l.ls .pB false).aK eg) λ_=>iF l eg
section
variable{R:bg}{n:Nat}(bk:oo R n)(hD:kt R n){e:ca}(bc:e.ne=30- (n:Int))
noncomputable def To(R:bg)(x0:ah):Option ah:=
 (au (py R x0 ([([100,111]:aa)]:bt) ([10,100,111,32,120,10,100,111,110,101]:aa)) λz=>(bif(decide (z.2.2.2.2.2.1=0)) then(au (py R z.2 ([([100,111,110,101]:aa)]:bt) ([10,100,111,110,101]:aa)) λv=>some v.2) else some z.2))
theorem am6(R:bg)(x0:ah)(w:aa):B8 R x0 w=(bif(decide (w=([123]:aa))) then(au (py R x0 ([([125]:aa)]:bt) ([10,125]:aa)) λz=>some z.2) else
 (bif(bif(decide (w=([119,104,105,108,101]:aa))) then(decide (w=([119,104,105,108,101]:aa))) else(decide (w=([117,110,116,105,108]:aa)))) then To R x0 else
 (bif(decide (w=([105,102]:aa))) then fixF (HU R (CV R)) bC (ig,x0) else
 (bif(decide (w=([102,111,114]:aa))) then(au (Ev R x0) λy=>some y) else
 (bif(decide (w=([99,97,115,101]:aa))) then(au (Et R x0) λy=>some y) else some x0))))):=by
 unfold B8 a8;cases decide (w=([123]:aa)) with
 |true=>rfl
 |false=>cases decide (w=([119,104,105,108,101]:aa))<;>rfl
include bk bc
theorem aaj{r:aa}{pd:ao}{st:ah}(h:cB e r pd)(i:fY e r pd st):bL false e r (ae (((aR true n).ls .pB false).aK eg) (λ_=>iF (aR true n) eg) r pd) (λst=>st) (λ_ _ _=>True) (To R st):=by
 have j:ae (((aR true n).ls .pB false).aK eg) (λ_=>iF (aR true n) eg) r pd=ae (ae (((aR true n).ls .pB false).aK eg) (λ_=>sF)) (λ_=>ae (((aR true n).ls .done false).aK (10::ih)) λ_=>cW ih) r pd:=by unfold iF;exact amY (by simp) Z3 vY (h.nl.h7 h.sfx)
 rw[j];unfold To;refine bL.iH (C:=λx=>x) c3.id (CN bk bc (c:= .pB) rfl (by simp) (FF Z3 vY) (by decide) h i) (λa r1 p b q s1 d f s=>?_) (λop nd ds b _ k=>?_) (λb l=>?_)
 ·rw[f.eta.2.2.2.2.1];simp only[bw,aJ];rw[S3 (by simp) MO FG (d.nl.h7 d.sfx)];refine bL.iH (C:=λx=>x) c3.id ((CN bk bc (c:= .done) rfl (by simp) (FF MO FG) (by decide) d f).mono s1) (λa t u g v s2 m o w=>?_) (λop nd ds g _ y=>?_) (λg z=>?_)
  ·exact⟨_,rfl,s2,m,o,trivial⟩
  ·grind
  grind
 ·rw[k.z.1];grind
 ·rw[l.1];grind
include hD
theorem am7{r:aa}{pd:ao}{st:ah}(h:cB e r pd)(b:fY e r pd st){w:aa}(j:qb w=true):bL false e r (yW (aR true n) w r pd) (λst=>st) (λ_ _ _=>True) (B8 R st w):=by
 rw[am6];unfold yW;have f:w=mh\/w=uA\/w=H_\/w=nr\/w=pA\/w=[123]:=by grind[qb]
 rcases f with rfl|rfl|rfl|rfl|rfl|rfl
 ·rw[aO (by decide),bh rfl];exact am4 bk bc h b
 ·rw[aO (by decide),aO (by decide),aO (by decide),aO (by decide)];exact aaj bk bc h b
 ·rw[aO (by decide),aO (by decide),aO (by decide),aO (by decide)];exact aaj bk bc h b
 ·rw[aO (by decide),aO (by decide),bh rfl,w8];refine bL.dU (amE bk hD bc h b h.sfx) ?_;exact CW _
 ·rw[aO (by decide),aO (by decide),aO (by decide),bh rfl,w8];refine bL.dU (amX bk hD bc h b) ?_;exact CW _
 ·rw[bh rfl,S3 (by simp) Z1 MZ (h.nl.h7 h.sfx)];refine bL.iH (C:=λx=>x) c3.id (CN bk bc (c:= .qU) rfl (by simp) (FF Z1 MZ) (by decide) h b) (λa k l d m s2 g i o=>?_) (λop nd ds d _ p=>?_) (λd q=>?_)
  ·exact⟨_,rfl,s2,g,i,trivial⟩
  ·grind
  grind
end
def setAt(y:ah)(a:Int):ah:=(y.1,a,y.2.2.1,y.2.2.2.1,y.2.2.2.2.1,y.2.2.2.2.2.1,y.2.2.2.2.2.2.1,y.2.2.2.2.2.2.2.1,y.2.2.2.2.2.2.2.2)
noncomputable def AF(R:bg)(nm:aa):ah->Option ah:=λx=>
 (au (gv x nm ([])) λ(a:ah)=>(bif(decide (a.2.2.2.2.1=0)) then(au (B_ R (sD a)) λ(b:ah)=>some b) else some (sD a)))
noncomputable def aak(R:bg):ah->Option ah:=λx=>
 (au (hH x) λ(c:aa)=>(bif(decide (c=([40]:aa))) then(au (R.nI (setAt x (W (x.2.1+1))) ([41]:aa) ([]:bt) true) λz=>(au (gv z.2 ([]) ([41]:aa)) λ(b:ah)=>AF R [40] (setAt b (W (b.2.1+1))))) else(au (lD x) λ(a:aa)=>(au (B8 R (setAt x (W (x.2.1+(a.length:Int)))) a) λ(d:ah)=>AF R a d))))
theorem am8(R:bg)(x0:ah):yr R x0=(au (yk x0 x0.2.1) λz=>
 (bif(!z.1) then
 some (z.2.1,z.2.2.1,z.2.2.2.1,x0.2.2.2.1,z.2.2.2.2.2.1,z.2.2.2.2.2.2.1,z.2.2.2.2.2.2.2.1,x0.2.2.2.2.2.2.2.1,z.2.2.2.2.2.2.2.2.2)
 else aak R (z.2.1,z.2.2.1,z.2.2.2.1,x0.2.2.2.1,z.2.2.2.2.2.1,z.2.2.2.2.2.2.1,z.2.2.2.2.2.2.2.1,x0.2.2.2.2.2.2.2.1,z.2.2.2.2.2.2.2.2.2))):=rfl
theorem aal{st:ah}{nm:aa}(h:st.2.2.2.2.1=1)(aw:nm≠[])(i:st.2.2.2.2.2.2.2.1.length<=2000000)(j:st.2.2.2.2.2.2.1.length+eh st.2.2.2.1<=1000000000):gv st nm []=some (st.1,st.2.1,st.2.2.1,st.2.2.2.1,st.2.2.2.2.1,st.2.2.2.2.2.1,st.2.2.2.2.2.2.1,[nm]++st.2.2.2.2.2.2.2.1,st.2.2.2.2.2.2.2.2):=by
 obtain⟨a,b,c,d,SG,f,g,op,tr⟩:=st;simp only at h i j⊢;subst h;have l:=tA d
 have k:∀e,vy (a,b,c,d,1,f,g,e,tr) []=some (a,b,c,(cQ g d []).2,1,f,(cQ g d []).1,e,tr):=λe=>CH _ _ _ _ _ _ _ _ _ _ (by simp) (by omega) (by omega)
 unfold gv a8;simp only[bw,aJ];simp only[aw,bF,e2,aJ];rw[bS (by grind),k,aQ rfl];rfl
theorem aam{R:bg}{e:ca}{q r:aa}{nd:aa}{ds:ao}{y:ah}{nm:aa}(hm:nZ e.up q nd ds y)(i:q<:+r)(hl:q.length<r.length)(f:r<:+e.S)(j:e.S.length<=1000000)(k:nd.length+eh ds<=100*e.S.length+1000)(aw:nm≠[])(a:Int)(l:y.2.1<=a/\a<=y.2.1+1):∃c,AF R nm (setAt y a)=some c/\iI true e r nd ds c:=by
 obtain⟨ad,g,h,b,m⟩:=hm;have d:=f.length_le;have n:=b.op;unfold AF;rw[aal (st:=setAt y a) ad aw (by show y.2.2.2.2.2.2.2.1.length<=_;omega) (by show y.2.2.2.2.2.2.1.length+eh y.2.2.2.1<=_;grind),aQ rfl];show∃c,(bif decide (y.2.2.2.2.1=0) then _ else _)=some c/\_
 rw[ad];simp only[show¬((1:Int)=0) by decide,decide_false,cond_false];refine⟨_,rfl,.inl ⟨ad,g,h,⟨b.s,?_,?_,b.nd,?_⟩,?_⟩⟩
 ·show ax e.S r<=a;have:ax e.S r<=ax e.S q:=by grind[ax]
  have:=b.lo;have hu:ax e.up.S q=ax e.S q:=rfl;omega
 ·show a<=_;have:=b.bf;have hu:e.up.S=e.S:=rfl;grind
 ·show([nm]++y.2.2.2.2.2.2.2.1).length<=_;grind
 ·show _<=a;have hu:e.up.S=e.S:=rfl;grind
theorem M4{R:bg}{e:ca}{q r:aa}{y:ah}{nm:aa}(hm:iQ e.up q y)(d:q<:+r)(hl:q.length<r.length)(a:Int)(f:y.2.1<=a/\a<=y.2.1+1):∃c,AF R nm (setAt y a)=some c/\iQ e r c:=by
 obtain⟨ad,b⟩:=hm;have g:=b.op;unfold AF;rw[pI (st:=setAt y a) (by show y.2.2.2.2.1≠1;omega),aQ rfl];show∃c,(bif decide (y.2.2.2.2.1=0) then _ else _)=some c/\_
 rw[ad];simp only[show¬((2:Int)=0) by decide,bF,aU];refine⟨_,rfl,ad,⟨b.s,?_,?_,b.nd,?_⟩⟩
 ·show ax e.S r<=a;have:ax e.S r<=ax e.S q:=by grind[ax]
  have:=b.lo;have hu:ax e.up.S q=ax e.S q:=rfl;omega
 ·show a<=_;have:=b.bf;have hu:e.up.S=e.S:=rfl;grind
 ·show y.2.2.2.2.2.2.2.1.length<=_;omega
theorem aan{R:bg}{e:ca}{q:aa}{pd:ao}{tr:Bool}{nm:aa}{n:Nat}(bc:e.ne=30- (n:Int))(aw:n<=30):AF R nm (e.up.st q pd tr)=B_ R (e.st q pd tr):=by
 unfold AF;rw[pI (by show(0:Int)≠1;decide),aQ rfl];have h0:(e.up.st q pd tr).2.2.2.2.1=0:=rfl;rw[h0];simp only[bw,aJ];have:sD (e.up.st q pd tr)=e.st q pd tr:=by
  show(e.S,ax e.S q,W (e.ne+1-1),pd,(0:Int),(0:Int),([]:aa),([]:bt),tr)=_;have ad:e.ne+1-1=e.ne:=by omega
  rw[ad,dV (by omega) (by omega)];rfl
 grind[CW]
section
variable{R:bg}{n:Nat}(gL:∀m,n=m+1->kt R m/\oo R m)(hD:kt R n)(aw:n<=30){e:ca}(bc:e.ne=30- (n:Int))
include gL hD aw bc
theorem aao{r:aa}{pd:ao}{st:ah}(h:cB e r pd)(Y:fY e r pd st)(ag:bp r=some r)(aF:hv (ar r)=true):bL true e r (ae ((aR true n).cp (ar r)) (λ_=>gJ (a7 true n)) r pd) (λst=>st) (λ_ _ _=>True) (yr R st):=by
 obtain⟨tr,rfl,g2⟩:=Y;rw[am8];unfold yk;have Z:=h.nl.h7 h.sfx;cases n with
 |zero=>
  have D:decide (30<=(e.st r pd tr).2.2.1)=true:=by show decide (30<=e.ne)=true;grind
  rw[D];have aB:(aR true 0).cp (ar r) r pd= .deep r:=rfl;rw[jP aB];obtain⟨st,j,c⟩:=pK (tr:=tr) ((e.st r pd tr).2.1) h fM;simp only[aJ,sC];rw[j,aQ rfl,aQ rfl];exact⟨_,rfl,by cases j;exact c⟩
 |succ m=>
  obtain⟨MG,O⟩:=gL m rfl;have D:decide (30<=(e.st r pd tr).2.2.1)=false:=by show decide (30<=e.ne)=false;grind
  rw[D];simp only[aU,n0,g9];have xh:W ((e.st r pd tr).2.2.1+1)=e.ne+1:=dV (by show-_<=e.ne+1;omega) (by grind);rw[xh];have IW:((e.st r pd tr).1,(e.st r pd tr).2.1,e.ne+1,(e.st r pd tr).2.2.2.1,(e.st r pd tr).2.2.2.2.1,(e.st r pd tr).2.2.2.2.2.1,(e.st r pd tr).2.2.2.2.2.2.1,(e.st r pd tr).2.2.2.2.2.2.2.1,(e.st r pd tr).2.2.2.2.2.2.2.2)=e.up.st r pd tr:=rfl;rw[IW];unfold aak;rw[rK h.xg,aQ rfl];have P:e.up.ne=30- (m:Int):=by show e.ne+1=_;omega
  have Fj:(aR true (m+1)).cp (ar r)=(g0 (aR true m) (ar r)).named (mC (ar r)):=rfl;rw[Fj];by_cases B:bs r=[40]
  ·have Q:ar r= .op [40]:=(mN (by simp)).2 B;simp only[B,bw,aJ];rw[Q];obtain⟨q,rfl⟩:=(il Q).2.1;have f:q<:+[40]++q:=gS _ q;have hl:q.length<([40]++q).length:=by simp
   have E:=h.tE (by simp) (by decide);have k:=(h.mono f).xg;have F:setAt (e.up.st ([40]++q) pd tr) (W ((e.up.st ([40]++q) pd tr).2.1+1))=e.up.st q pd tr:=sH h.xg 1 rfl;rw[F];obtain⟨b,j,c⟩:=O.im e.up .paren false rfl P q pd (e.up.st q pd tr) k ⟨tr,rfl,λi=>absurd i E⟩;have vX:R.nI (e.up.st q pd tr) [41] [] true=some b:=j;rw[vX,aQ rfl];have p:=aH.low ((tz true m).ls .paren false) k;have G:∀x,((g0 (aR true m) (.op [40])).named x) ([40]++q) pd=((ae (((aR true m).ls .paren false).aK [41]) (λ_=>ji [41])).named x) q pd:=λx=>rfl
   have H:∀(x:aa),(ae ((g0 (aR true m) (.op [40])).named x) (λ_=>gJ (a7 true (m+1)))) ([40]++q) pd=ae ((ae (((aR true m).ls .paren false).aK [41]) (λ_=>ji [41])).named x) (λ_=>gJ (a7 true (m+1))) q pd:=λx=>rfl
   rw[H];have s:e.up.S=e.S:=rfl;cases hk:(aR true m).ls .paren false q pd with
   |ok a r1 l=>
    rw[hk] at c;obtain⟨I,a2,⟨o,a3,S⟩,eY⟩:=c;dsimp only at a3;have mK:=hk;obtain⟨c2,e1⟩:=Ap true m;rw[e1] at hk;obtain⟨ho,ly⟩:=yF (by simp) hk;have J:ar r1= .op [41]:=by grind[dG]
    obtain⟨v,rfl⟩:=(il J).2.1;have d:(ae (((aR true m).ls .paren false).aK [41]) (λ_=>ji [41])).named (mC (.op [40])) q pd= .ok () v l:=by grind[ak.named,aM,pL,E_]
    rw[aM d];have nw:gv b.2 [] [41]=some b.2:=pI (by rw[a3];show(0:Int)≠1;decide);rw[nw,aQ rfl,a3];have T:v<:+[41]++v:=gS [41] v;have K:setAt (e.up.st ([41]++v) l o) (W ((e.up.st ([41]++v) l o).2.1+1))=e.up.st v l o:=sH a2 1 rfl;rw[K,aan bc aw];have sB:=a2.tE (by simp) (by decide);exact(ZZ hD bc (a2.tC.mono T) ⟨o,rfl,λi=>absurd i sB⟩).mono (T.trans (I.trans f))
   |more op nd ds=>
    rw[hk] at c;have hb:=p _ _ _ hk;rw[s] at hb;have d:(ae (((aR true m).ls .paren false).aK [41]) (λ_=>ji [41])).named (mC (.op [40])) q pd= .more ([40]::op) (cQ nd ds [41]).1 (cQ nd ds [41]).2:=by unfold ak.named;rw[de (sG hk)];rfl
    rw[de d];obtain⟨U,al,L⟩:=xe (e:=e.up) (nm:=[]) (x:=[41]) (r1:=q) (r0:=q) c.z fM k.sfx (.inl rfl) (by grind) k.bZ (by simp);rw[al,aQ rfl];have aaf:=As [41] nd ds;have t:=L.2.2.2.1.bf;have j2:=L.2.2.2.1.lo;have y:=f.length_le;have hle:=h.sfx.length_le;have V:0<=ax e.up.S q:=by grind[ax]
    have X:=h.bZ;rw[s] at t;have z:W (U.2.1+1)=U.2.1+1:=dV (by omega) (by omega);rw[z];exact aam L f hl h.sfx h.bZ (by grind) (by simp) _ ⟨by omega,by omega⟩
   |bad u=>
    rw[hk] at c;have d:(ae (((aR true m).ls .paren false).aK [41]) (λ_=>ji [41])).named (mC (.op [40])) q pd= .bad u:=by grind[ak.named,g1,uN]
    rw[g1 d,rL c,aQ rfl];have g:iQ e.up q b.2:=c;have t:=g.2.bf;have j2:=g.2.lo;have hle:=h.sfx.length_le;have y:=f.length_le;have V:0<=ax e.up.S q:=by grind[ax]
    have X:=h.bZ;rw[s] at t;have z:W (b.2.2.1+1)=b.2.2.1+1:=dV (by omega) (by omega);rw[z];exact M4 g f hl _ ⟨by omega,by omega⟩
   |deep u=>
    rw[hk] at c;have d:(ae (((aR true m).ls .paren false).aK [41]) (λ_=>ji [41])).named (mC (.op [40])) q pd= .deep u:=by grind[ak.named,jP,uO]
    rw[jP d,rL c,aQ rfl];have g:iQ e.up q b.2:=c;have t:=g.2.bf;have j2:=g.2.lo;have hle:=h.sfx.length_le;have y:=f.length_le;have V:0<=ax e.up.S q:=by grind[ax]
    have X:=h.bZ;rw[s] at t;have z:W (b.2.2.1+1)=b.2.2.1+1:=dV (by omega) (by omega);rw[z];exact M4 g f hl _ ⟨by omega,by omega⟩
  ·have asa:ar r≠ .op [40]:=λi=>B ((mN (by simp)).1 i);simp only[B,bF,aU];rw[vV h.xg,aQ rfl]
   obtain⟨w,A,M⟩:∃w,ar r= .word w true/\qb w=true:=by unfold hv at aF;grind
   have C:w≠[]/\w.all gp=true:=by
    have gU:w=mh\/w=uA\/w=H_\/w=nr\/w=pA\/w=[123]:=by grind[qb]
    rcases gU with rfl|rfl|rfl|rfl|rfl|rfl<;>decide
   have aB:=(rJ Z C.1 C.2).2 A;rw[aB,A];have h_:=(qj A).1;have l6:=(qj A).2;obtain⟨q,rfl⟩:=h_;have f:q<:+w++q:=gS _ q;have hl:q.length<(w++q).length:=by grind[List.length_pos_iff]
   have E:=h.tE C.1 l6;have k:=(h.mono f).xg;have F:setAt (e.up.st (w++q) pd tr) (W ((e.up.st (w++q) pd tr).2.1+(w.length:Int)))=e.up.st q pd tr:=sH h.xg w.length rfl;rw[F];obtain⟨b,j,c⟩:=am7 O MG P k (st:=e.up.st q pd tr) ⟨tr,rfl,λi=>absurd i E⟩ M;rw[j,aQ rfl];have G:(g0 (aR true m) (.word w true)) (w++q) pd=yW (aR true m) w q pd:=by show ae (bU w.length) (λ_=>yW (aR true m) w) (w++q) pd=_;rw[aM (show bU w.length (w++q) pd= .ok () q pd from by simp[bU])]
   have p:=dZ.kind (tz true m) (r:=w++q) (pd:=pd) (by omega);rw[A,G] at p;have s:e.up.S=e.S:=rfl;have vM:=h.jM;have N:setAt b b.2.1=b:=rfl;cases hk:yW (aR true m) w q pd with
   |ok a r1 l=>
    rw[hk] at c;obtain⟨I,a2,⟨o,a3,S⟩,eY⟩:=c;have d:((g0 (aR true m) (.word w true)).named (mC (.word w true))) (w++q) pd= .ok () r1 l:=by grind[ak.named]
    rw[aM d];dsimp only at a3;rw[a3,aan bc aw];exact(ZZ hD bc a2.tC ⟨o,rfl,S⟩).mono (I.trans f)
   |more op nd ds=>
    rw[hk] at c p;simp only[dZ] at p;have d:((g0 (aR true m) (.word w true)).named (mC (.word w true))) (w++q) pd= .more (w::op) nd ds:=by unfold ak.named;rw[G,hk];rfl
    rw[de d];have g:iI false e.up q nd ds b:=c;have:=aam (R:=R) (nm:=w) g.z f hl h.sfx h.bZ (by omega) C.1 b.2.1 ⟨by omega,by omega⟩;rw[N] at this;exact this
   |bad u=>
    rw[hk] at c;have d:((g0 (aR true m) (.word w true)).named (mC (.word w true))) (w++q) pd= .bad u:=by grind[ak.named]
    rw[g1 d];have g:iQ e.up q b:=c;have:=M4 (R:=R) (nm:=w) g f hl b.2.1 ⟨by omega,by omega⟩;rw[N] at this;exact this
   |deep u=>
    rw[hk] at c;have d:((g0 (aR true m) (.word w true)).named (mC (.word w true))) (w++q) pd= .deep u:=by grind[ak.named]
    rw[jP d];have g:iQ e.up q b:=c;have:=M4 (R:=R) (nm:=w) g f hl b.2.1 ⟨by omega,by omega⟩;rw[N] at this;exact this
end
noncomputable def q_:ah->Option ah:=λx=>
 (au (gv x ([102,40,41]:aa) ([])) λ(a:ah)=>some (sD a))
theorem anc{e:ca}{q r:aa}{nd:aa}{ds:ao}{y:ah}(hm:nZ e.up q nd ds y)(k:q<:+r)(hl:q.length<r.length)(f:r<:+e.S)(l:e.S.length<=1000000)(m:nd.length+eh ds<=100*e.S.length+1000):∃b,q_ y=some b/\iI true e r nd ds b:=by
 obtain⟨ad,g,h,a,c⟩:=hm;have d:=f.length_le;have n:=a.op;have hu:e.up.S=e.S:=rfl;have i:ax e.up.S q=ax e.S q:=rfl;unfold q_;rw[aal (st:=y) ad (by simp) (by omega) (by grind),aQ rfl];have o:ax e.S r<=ax e.S q:=by grind[ax]
 have j2:=a.lo;have j:=a.bf;rw[hu] at j c;refine⟨_,rfl,.inl ⟨ad,g,h,⟨a.s,?_,?_,a.nd,?_⟩,c⟩⟩
 ·show ax e.S r<=y.2.1;omega
 ·show y.2.1<=_;omega
 ·show([[102,40,41]]++y.2.2.2.2.2.2.2.1).length<=_;grind
theorem aaq{e:ca}{q r:aa}{y:ah}(hm:iQ e.up q y)(b:q<:+r):∃a,q_ y=some a/\iQ e r a:=by unfold q_;rw[rL hm,aQ rfl];exact⟨_,rfl,(iQ.mono (e:=e) ⟨hm.1,hm.2.tC.sD⟩ b)⟩
theorem ane{e:ca}{q:aa}{pd:ao}{tr:Bool}{n:Nat}(bc:e.ne=30- (n:Int))(aw:n<=30):sD (e.up.st q pd tr)=e.st q pd tr:=by
 show(e.S,ax e.S q,W (e.ne+1-1),pd,(0:Int),(0:Int),([]:aa),([]:bt),tr)=_;have ad:e.ne+1-1=e.ne:=by omega
 rw[ad,dV (by omega) (by omega)];rfl
theorem aar{e:ca}{q:aa}{pd:ao}{tr:Bool}{n:Nat}(bc:e.ne=30- (n:Int))(aw:n<=30):q_ (e.up.st q pd tr)=some (e.st q pd tr):=by unfold q_;rw[pI (by show(0:Int)≠1;decide),aQ rfl,ane bc aw]
theorem anf{e:ca}{pd:ao}{n:Nat}(bc:e.ne=30- (n:Int))(aw:n<=30):q_ (e.up.tt pd)=some (e.tt pd):=by grind[xc,aar]
noncomputable def Tq(R:bg):ah->Option ah:=λa=>
 (au (gu a) λ(d:Bool)=>(bif d then(au (g7 a ([123,32,120,10,125]:aa)) λ(e:ah)=>q_ e) else(au (hH a) λ(c:aa)=>(cP ((decide (c=([40]:aa)))=false) (lD a) [] λ(f:aa)=>(cP ((decide (c=([40]:aa)))=false) (yi f) false λ(g:Bool)=>(bif(bif(decide (c=([40]:aa))) then true else g) then(au (yr R a) λ(h:ah)=>q_ h) else(au (hr a a.2.1) λ(b:ah)=>q_ (b.1,b.2.1,b.2.2.1,a.2.2.2.1,b.2.2.2.2.1,b.2.2.2.2.2.1,b.2.2.2.2.2.2.1,a.2.2.2.2.2.2.2.1,b.2.2.2.2.2.2.2.2))))))))
noncomputable def Tr(R:bg):ah->Option ah:=λx=>
 (au (gu x) λ(c:Bool)=>(bif c then(au (g7 x ([41,32,123,32,120,10,125]:aa)) λ(d:ah)=>q_ d) else(au (hH x) λ(e:aa)=>(bif(!(decide (e=([41]:aa)))) then(au (hr x x.2.1) λ(a:ah)=>q_ (a.1,a.2.1,a.2.2.1,x.2.2.2.1,a.2.2.2.2.1,a.2.2.2.2.2.1,a.2.2.2.2.2.2.1,x.2.2.2.2.2.2.2.1,a.2.2.2.2.2.2.2.2)) else(au (oc (setAt x (W (x.2.1+1)))) λ(b:ah)=>(bif(!(decide (b.2.2.2.2.1=0))) then(au (gv b ([]) ([123,32,120,10,125]:aa)) λ(f:ah)=>q_ f) else Tq R b))))))
theorem ang(R:bg)(x0:ah):Ex R x0=(bif(decide (28<x0.2.2.1)) then
 (au (hr x0 x0.2.1) λ(a:ah)=>
 some (a.1,a.2.1,a.2.2.1,x0.2.2.2.1,a.2.2.2.2.1,a.2.2.2.2.2.1,a.2.2.2.2.2.2.1,x0.2.2.2.2.2.2.2.1,a.2.2.2.2.2.2.2.2))
 else
 (au (g6 (x0.1,(W (x0.2.1+1)),(W (x0.2.2.1+1)),x0.2.2.2.1,x0.2.2.2.2.1,x0.2.2.2.2.2.1,x0.2.2.2.2.2.2.1,x0.2.2.2.2.2.2.2.1,x0.2.2.2.2.2.2.2.2)) λ(b:ah)=>
 Tr R (b.1,b.2.1,b.2.2.1,x0.2.2.2.1,b.2.2.2.2.1,b.2.2.2.2.2.1,b.2.2.2.2.2.2.1,x0.2.2.2.2.2.2.2.1,b.2.2.2.2.2.2.2.2))):=rfl
noncomputable def FL(R:bg):ah->Option ah:=λa=>
 (au (gu a) λ(d:Bool)=>(bif d then g7 a ([123,32,120,10,125]:aa) else(au (hH a) λ(c:aa)=>(cP ((decide (c=([40]:aa)))=false) (lD a) [] λ(e:aa)=>(cP ((decide (c=([40]:aa)))=false) (yi e) false λ(f:Bool)=>(bif(bif(decide (c=([40]:aa))) then true else f) then yr R a else(au (hr a a.2.1) λ(b:ah)=>some (b.1,b.2.1,b.2.2.1,a.2.2.2.1,b.2.2.2.2.1,b.2.2.2.2.2.1,b.2.2.2.2.2.2.1,a.2.2.2.2.2.2.2.1,b.2.2.2.2.2.2.2.2))))))))
noncomputable def M6(R:bg):ah->Option ah:=λx=>
 (au (gu x) λ(c:Bool)=>(bif c then g7 x ([41,32,123,32,120,10,125]:aa) else(au (hH x) λ(d:aa)=>(bif(!(decide (d=([41]:aa)))) then(au (hr x x.2.1) λ(a:ah)=>some (a.1,a.2.1,a.2.2.1,x.2.2.2.1,a.2.2.2.2.1,a.2.2.2.2.2.1,a.2.2.2.2.2.2.1,x.2.2.2.2.2.2.2.1,a.2.2.2.2.2.2.2.2)) else(au (oc (setAt x (W (x.2.1+1)))) λ(b:ah)=>(bif(!(decide (b.2.2.2.2.1=0))) then gv b ([]) ([123,32,120,10,125]:aa) else FL R b))))))
theorem aas{α β:Type}(c:Bool)(a b:Option α)(k:α->Option β):au (bif c then a else b) k=bif c then au a k else au b k:=by grind
theorem anh(R:bg)(x:ah):Tq R x=au (FL R x) q_:=by unfold Tq FL;simp[sC,aas,ZL,n0]
theorem ani(R:bg)(x:ah):Tr R x=au (M6 R x) q_:=by unfold Tr M6;simp[sC,aas,n0,anh]
theorem anj{q:Bool}{e:ca}{r1 r:aa}{X:dD Unit}{y:Option ah}{n:Nat}(bc:e.ne=30- (n:Int))(aw:n<=30)(h:bL q e.up r1 X (λst=>st) (λ_ _ _=>True) y)(ad:r1<:+r)(hl:r1.length<r.length)(f:r<:+e.S)(g:e.S.length<=1000000):bL true e r X (λst=>st) (λ_ _ _=>True) (au y q_):=by
 obtain⟨b,rfl,h⟩:=h;rw[aQ rfl];cases X with
 |ok a r' l=>obtain⟨i,a2,⟨tr,a3,j⟩,_⟩:=h;dsimp only at a3;subst a3;rw[aar bc aw];exact⟨_,rfl,i.trans ad,a2.tC,⟨tr,rfl,j⟩,trivial⟩
 |more op nd ds=>
  rcases h with h|⟨_,k,d⟩
  ·have c:nZ e.up r1 nd ds b:=h;exact anc c ad hl f g (by have:=c.2.2.2.1.nd;rw[c.2.1,c.2.2.1] at this;exact this)
  ·dsimp only at d;subst k d;rw[anf bc aw];exact⟨_,rfl,.inr ⟨rfl,rfl,rfl⟩⟩
 |bad u=>exact aaq h ad
 |deep u=>exact aaq h ad
theorem bL.named{q:Bool}{α β:Type}{e:ca}{r0 r:aa}{pd:ao}{m:ak α}{x:aa}{pr:β->ah}{cv:α->aa->β->Prop}{y:Option β}(h:bL q e r0 (m r pd) pr cv y):bL q e r0 (m.named x r pd) pr cv y:=by unfold ak.named;cases hm:m r pd<;>rw[hm] at h<;>exact h
def FM:aa:=[41,32,123,32,120,10,125]
def yX:aa:=[123,32,120,10,125]
def Ts(l:dS):ak Unit:=ae (bM yX) λt=>if t= .eof then b5 yX else if hv t then ae (l.cp t) λ_=>l.rd else bJ
def Tt(l:dS):ak Unit:=ae (bM FM) λt=>if t= .eof then b5 FM else if t= .op [41] then ae (bU 1) λ_=>ae (cS.aK yX) λ_=>Ts l else bJ
section
variable{R:bg}{n:Nat}(gL:∀m,n=m+1->kt R m/\oo R m)(hD:kt R n)(aw:n<=30){e:ca}(bc:e.ne=30- (n:Int))
include gL hD aw bc
theorem ank{r:aa}{pd:ao}{st:ah}(h:cB e r pd)(f:fY e r pd st)(g:bp r=some r):bL true e r (Ts (aR true n) r pd) (λst=>st) (λ_ _ _=>True) (FL R st):=by
 unfold Ts;rw[aM (ch g)];have k:= @aao R n gL hD aw e bc r pd st h f g;obtain⟨tr,rfl,q⟩:=f;unfold FL;rw[qt,aQ rfl];by_cases b:r=[]
 ·subst b;simp only[bw,aJ];obtain⟨i,a,c⟩:=uM (tr:=tr) (x:=yX) h (by decide);rw[show([123,32,120,10,125]:aa)=yX from rfl,a];exact⟨i,rfl,c.s⟩
 ·simp only[b,bF,aU];have l:ar r≠ .eof:=λm=>b (lG.1 m);rw[aO l,rK h,aQ rfl,vV h];have o:=h.nl.h7 h.sfx;have s:=ZA o;by_cases j:bs r=[40]
  ·simp only[j,bw,cP,tK,cn,aJ];have aF:hv (ar r)=true:=by grind
   rw[bh aF];have p:(aR true n).rd=gJ (a7 true n):=by cases n<;>rfl
   grind
  ·simp only[j,bF];rw[fX,Zr,fX];simp only[cE,aU];have d:qb (i_ r)=hv (ar r):=by grind
   rw[d];by_cases aF:hv (ar r)=true
   ·rw[aF,bh rfl];have p:(aR true n).rd=gJ (a7 true n):=by cases n<;>rfl
    grind
   ·rw[aO aF,F6.2 aF];simp only[aU];obtain⟨i,a,c⟩:=pK (tr:=tr) (e.st r pd tr).2.1 h fM;rw[a,aQ rfl];exact⟨_,rfl,by cases a;exact c⟩
theorem anm{u:aa}{pd:ao}{x:ah}(h:cB e u pd)(z:CQ e u pd x):bL true e u (Tt (aR true n) u pd) (λst=>st) (λ_ _ _=>True) (M6 R x):=by
 unfold Tt M6;rcases z with⟨r,tr,p,rfl,K,i,s,L⟩|⟨p,rfl⟩
 ·rw[aM (ch p),qt,aQ rfl];by_cases t:r=[]
  ·subst t;simp only[bw,aJ];obtain⟨d,f,g⟩:=uM (tr:=tr) (x:=FM) i (by decide);rw[show([41,32,123,32,120,10,125]:aa)=FM from rfl,f];exact⟨d,rfl,(g.mono s).s⟩
  ·simp only[t,bF,aU];have A:ar r≠ .eof:=λj=>t (lG.1 j);rw[aO A,rK i,aQ rfl];by_cases l:bs r=[41]
   ·have m:ar r= .op [41]:=(mN (by simp)).2 l;simp only[l,bw,g9,aU];rw[bh m];obtain⟨v,rfl⟩:=(il m).2.1;have y:v<:+[41]++v:=gS [41] v;have B:=i.tE (by simp) (by decide);have C:setAt (e.st ([41]++v) pd tr) (W ((e.st ([41]++v) pd tr).2.1+1))=e.st v pd tr:=sH i 1 rfl;rw[C,aM (show bU 1 ([41]++v) pd= .ok () v pd from rfl)];have o:=i.mono y;obtain⟨M,D,b⟩:=Fp o (st:=e.st v pd tr) ⟨tr,rfl,λj=>absurd j B⟩;rw[D,aQ rfl];have E:=aH.low (aH.lines (c:=0)) o;have k:v<:+u:=y.trans s;cases hm:cS v pd with
    |ok a r1 N=>rw[hm] at b;obtain⟨F,a2,a3,G,O⟩:=b;rw[aM (pL hm),a3.eta.2.2.2.2.1];simp only[bw,g9,aU];exact(ank gL hD aw bc a2 a3 G).mono (F.trans k)
    |more op nd ds=>
     rw[hm] at b;rw[de (sG hm)];have P:=E _ _ _ hm;rcases b with b|⟨_,rfl,rfl⟩
     ·rw[b.1];simp only[show¬((1:Int)=0) by decide,bF,e2,aJ];obtain⟨d,H,I⟩:=FH (q:=true) (x:=yX) o (.inl b) k (by omega) (by decide);rw[show([123,32,120,10,125]:aa)=yX from rfl,H];exact⟨d,rfl,I⟩
     ·have J:(e.tt ds).2.2.2.2.1=0:=rfl;rw[J];simp only[bw,g9,aU];unfold FL;rw[oS,aQ rfl];simp only[aJ];obtain⟨d,f,g⟩:=FK (pd:=ds) (x:=yX) o (by omega) (by decide);rw[show([123,32,120,10,125]:aa)=yX from rfl,f];exact⟨d,rfl,(g.mono k).s⟩
    |bad w=>rw[hm] at b;rw[g1 (uN hm),b.1];simp only[show¬((2:Int)=0) by decide,bF,e2,aJ];rw[rL b];exact⟨_,rfl,b.mono k⟩
    |deep w=>rw[hm] at b;rw[jP (uO hm),b.1];simp only[show¬((2:Int)=0) by decide,bF,e2,aJ];rw[rL b];exact⟨_,rfl,b.mono k⟩
   ·have m:ar r≠ .op [41]:=λj=>l ((mN (by simp)).1 j);simp only[l,bF,e2,aJ];rw[aO m];obtain⟨d,f,g⟩:=pK (tr:=tr) (e.st r pd tr).2.1 i s;rw[f,aQ rfl];exact⟨_,rfl,by cases f;exact g⟩
 ·rw[de (op:=[]) (by rw[iG p];rfl),oS,aQ rfl];simp only[aJ];obtain⟨d,f,g⟩:=CM (x:=FM) h.Au (by decide);rw[show([41,32,123,32,120,10,125]:aa)=FM from rfl,f];exact⟨d,rfl,(g.mono ov).s⟩
omit gL hD in
theorem ann(a:n<2)(r:aa)(pd:ao):lF true (jt true n) r pd= .deep r:=by
 match n,a with
 |0,_=>rfl
 |1,_=>rfl
end
section
variable{R:bg}{n:Nat}(gL:∀k m,n=m+1+k->kt R m/\oo R m)(aw:n<=30){e:ca}(bc:e.ne=30- (n:Int))
include gL aw bc
theorem ano{u:aa}{pd:ao}{tr:Bool}(h:cB e (40::u) pd):bL true e (40::u) (lF true (jt true n) (40::u) pd) (λst=>st) (λ_ _ _=>True) (Ex R (e.st (40::u) pd tr)):=by
 rw[ang];by_cases i:n<2
 ·have b:decide (28<(e.st (40::u) pd tr).2.2.1)=true:=by show decide (28<e.ne)=true;grind
  rw[b,ann aw bc i];simp only[aJ];obtain⟨y,c,j⟩:=pK (tr:=tr) (e.st (40::u) pd tr).2.1 h fM;rw[c,aQ rfl];exact⟨_,rfl,by cases c;exact j⟩
 ·have b:decide (28<(e.st (40::u) pd tr).2.2.1)=false:=by show decide (28<e.ne)=false;grind
  rw[b];simp only[aU]
  obtain⟨m,rfl⟩:∃m,n=m+2:=⟨n-2,by omega⟩
  have l:W ((e.st (40::u) pd tr).2.2.1+1)=e.ne+1:=dV (by show-_<=e.ne+1;omega) (by grind);rw[l];have d:u<:+40::u:=eb _ u;have o:u≠[]:=h.yM (by decide);have f:=(h.mono d).xg;obtain⟨a,p,g⟩:=xo f (st:=e.up.st u pd tr) ⟨tr,rfl,λr=>absurd r o⟩;have s:g6 ((e.st (40::u) pd tr).1,W ((e.st (40::u) pd tr).2.1+1),e.ne+1,(e.st (40::u) pd tr).2.2.2.1,(e.st (40::u) pd tr).2.2.2.2.1,(e.st (40::u) pd tr).2.2.2.2.2.1,(e.st (40::u) pd tr).2.2.2.2.2.2.1,(e.st (40::u) pd tr).2.2.2.2.2.2.2.1,(e.st (40::u) pd tr).2.2.2.2.2.2.2.2)=some a:=by rw[<-p];exact mq g6 (sH (w:=[40]) (q:=u) h.xg 1 rfl)
  rw[s,aQ rfl];have t:(a.1,a.2.1,a.2.2.1,(e.st (40::u) pd tr).2.2.2.1,a.2.2.2.2.1,a.2.2.2.2.2.1,a.2.2.2.2.2.2.1,(e.st (40::u) pd tr).2.2.2.2.2.2.2.1,a.2.2.2.2.2.2.2.2)=a:=by rcases g with⟨z,A, -,rfl, -⟩|⟨-,rfl⟩<;>rfl
  rw[t,ani];have v:lF true (jt true (m+2)) (40::u) pd=((Tt (aR true (m+1))).named [102,40,41]) u pd:=rfl;rw[v]
  have x:∀k,m+1=k+1->kt R k/\oo R k:=λk hk=>gL 1 k (by omega)
  have:=anm x (gL 0 (m+1) (by omega)).1 (by omega) (e:=e.up) (by show e.ne+1=_;omega) f g;exact(anj bc aw this d (by simp) h.sfx h.bZ).named
end
def vZ{X:Type}(D:ak Unit)(A:ak X)(B:aa->Bool->ak X)(E:ak X):ak X:=ae (dx D) λb=>if b then A else ae (bM []) λt=>match t with
 | .word w p=>ae (cG D) λ_=>B w p
 | .op o=>if o=[40] then bJ else E
 |_=>E
noncomputable def FN(R:bg)(k:(Int×Int×Bool×ah)->Option ah)(a b:Int)(f:Bool):ah->Option ah:=λx=>
 (au (gu x) λ(e:Bool)=>(cP (e=false) (ie x) (0:UInt8) λ(h:UInt8)=>(bif(bif e then true else(decide ((h.toNat:Int)=(10:Int)))) then some x else(au (hH x) λ(d:aa)=>(bif(decide (d=([40]:aa))) then(bif(bif(bif(decide (a=1)) then(decide (b=0)) else false) then f else false) then(au (Ex R x) λ(i:ah)=>some i) else(au (hr x x.2.1) λ(c:ah)=>some (c.1,c.2.1,c.2.2.1,x.2.2.2.1,c.2.2.2.2.1,c.2.2.2.2.2.1,c.2.2.2.2.2.2.1,x.2.2.2.2.2.2.2.1,c.2.2.2.2.2.2.2.2))) else(au (vA d) λ(g:Bool)=>(cP (g=false) (zZ x) false λ(j:Bool)=>(bif(bif g then true else j) then(au (B1 R x) λ(l:ah)=>k (a,(W (b+1)),f,l)) else(bif(!(decide (d=[]))) then some x else(au (p_ R x) λ(z:aa×Bool×ah)=>(cP (z.2.1=true) (z6 z.1) false λ(m:Bool)=>k ((W (a+1)),b,(bif z.2.1 then m else false),z.2.2))))))))))))
theorem aat(R:bg)(j:ah->Option ah)(k:(Int×Int×Bool×ah)->Option ah)(a b:Int)(f:Bool)(x:ah):HV R j k (a,b,f,x)=(bif(decide (x.2.2.2.2.1=0)) then
 (au (g6 x) λ(c:ah)=>FN R k a b f (c.1,c.2.1,c.2.2.1,x.2.2.2.1,c.2.2.2.2.1,c.2.2.2.2.2.1,c.2.2.2.2.2.2.1,x.2.2.2.2.2.2.2.1,c.2.2.2.2.2.2.2.2)) else j x):=rfl
section
variable{R:bg}{n:Nat}(hD:kt R n){e:ca}(bc:e.ne=30- (n:Int))
include hD bc
theorem Tw{X:Type}{C:dD X->dD Unit}(y:c3 C){A:ak X}{B:aa->Bool->ak X}{E:ak X}(uB:∀r pd,C (E r pd)= .ok () r pd)
  {k:(Int×Int×Bool×ah)->Option ah} {a b:Int} {f:Bool} {r:aa} {pd:ao} {x:ah} (h:cB e r pd) (hx:CQ e r pd x)
  (z:∀a b f (x:ah),x.2.2.2.2.1≠0->k (a,b,f,x)=some x)
  (hA:∀r' D J,r'<:+r->cB e r' D->r'.length<r.length->fY e r' D J->bL true e r (C (A r' D)) (λst=>st) (λ_ _ _=>True) (k (a,W (b+1),f,J)))
  (ej:∀j w p r' D J,bp r=some j->ar j= .word w p->r'<:+r->cB e r' D->r'.length<r.length->fY e r' D J->bL true e r (C (B w p r' D)) (λst=>st) (λ_ _ _=>True) (k (W (a+1),b,p&&l4 w,J)))
  (bq:∀j,bp r=some j->bs j=[40]->(bif(bif(decide (a=1)) then(decide (b=0)) else false) then f else false)=false):
  bL true e r (C (vZ (a7 true n) A B E r pd)) (λst=>st) (λ_ _ _=>True) (FN R k a b f x):=by
 unfold vZ FN;rcases hx with⟨j,tr,K,rfl,U,d,l,L⟩|⟨K,rfl⟩
 ·rw[qt,aQ rfl,Fy d];by_cases V:j=[]
  ·subst V;simp only[bw,aJ,cP,tK,cn];rw[aM (uL K (by decide))];simp only[eB,cn];rw[aM (ch L)];show bL true e r (C (E [] pd)) _ _ _;rw[uB];exact⟨_,rfl,l,d,⟨tr,rfl,U⟩,trivial⟩
  ·rw[e3 V,fX];simp only[cE,aU];have pH:ar j≠ .eof:=λY=>V (lG.1 Y);cases j with
   |nil=>grind
   |cons c t=>
    simp only[y9,pF];have Q:=MD (c::t);have S:eV (bs ((c::t).dropWhile b_))=false->ae (dx (a7 true n)) (λb=>if b then A else ae (bM []) λt=>match t with
      | .word w p=>ae (cG (a7 true n)) λ_=>B w p
      | .op o=>if o=[40] then bJ else E
      |_=>E) r pd=(match ar (c::t) with
      | .word w p=>ae (cG (a7 true n)) λ_=>B w p
      | .op o=>if o=[40] then bJ else E
      |_=>E) (c::t) pd:=by
     intro Y;rw[aM (uL K Y)];simp only[eB,cn];rw[aM (ch L)]
    have fp:hH (e.st (c::t) pd tr)=some (bs (c::t)):=rK d;rcases I0 (b:=c) (t:=t) with⟨M,N⟩|⟨M,N,O⟩|⟨M,N,O⟩
    ·subst M;have aG:eV (bs ((10::t).dropWhile b_))=false:=by rfl
     rw[S aG,N];simp only[bw,aJ];rw[uB];exact⟨_,rfl,l,d,⟨tr,rfl,U⟩,trivial⟩
    ·simp only[M,bF,aU];rw[fp,aQ rfl];by_cases H:bs (c::t)=[40]
     ·have aG:eV (bs ((c::t).dropWhile b_))=false:=by
       have aF:c=40:=by
        have gw:ar (c::t)= .op [40]:=by grind
        obtain⟨v,az⟩:=(il gw).2.1;grind
       subst aF;rfl
      rw[S aG,O,H,bq (c::t) K H];simp only[bw,aJ,aU,cE];show bL true e r (C (.bad (c::t))) _ _ _;rw[y.bad];obtain⟨aP,a1,bl⟩:=pK (tr:=tr) (e.st (c::t) pd tr).2.1 d l;rw[a1,aQ rfl];exact⟨_,rfl,by cases a1;exact bl⟩
     ·simp only[H,bF,aU];rw[Fl,aQ rfl,SM d,fX];cases m:eV (bs ((c::t).dropWhile b_)) with
      |true=>
       rw[m] at Q;have F:(bif eV (bs (c::t)) then true else if eV (bs (c::t))=false then(decide ((c::t).dropWhile b_≠c::t)&&true) else false)=true:=by grind
       rw[F];simp only[aJ];have Mv:dx (a7 true n) r pd=dx (a7 true n) (c::t) pd:=by simp_all[dx,ae,fF]
       have Z:ae (dx (a7 true n)) (λb=>if b then A else ae (bM []) λt=>match t with
         | .word w p=>ae (cG (a7 true n)) λ_=>B w p
         | .op o=>if o=[40] then bJ else E
         |_=>E) r pd=ae (dx (a7 true n)) (λb=>if b then A else ae (bM []) λt=>match t with
         | .word w p=>ae (cG (a7 true n)) λ_=>B w p
         | .op o=>if o=[40] then bJ else E
         |_=>E) (c::t) pd:=by
        grind[ae]
       rw[Z];refine bL.iH y ((SZ hD bc (tr:=tr) d L m).mono l) (λu3 r1 aD s IS s1 v1 gR q5=>?_) (λop nd ds s _ P=>?_) (λs g=>?_)
       ·subst q5;rw[bh rfl];grind[su,l8]
       ·exact⟨s,z _ _ _ _ (by rw[P.z.1];decide),P.up⟩
       ·exact⟨s,z _ _ _ _ (by rw[g.1];decide),g⟩
      |false=>
       rw[m] at Q;have F:(bif eV (bs (c::t)) then true else if eV (bs (c::t))=false then(decide ((c::t).dropWhile b_≠c::t)&&false) else false)=false:=by grind
       rw[F,S m,O];simp only[N,H,aU,bF,e2,aJ,cn];rw[uB];exact⟨_,rfl,l,d,⟨tr,rfl,U⟩,trivial⟩
    ·simp only[M,bF,aU];rw[fp,aQ rfl];have H:¬bs (c::t)=[40]:=by grind
     simp only[H,bF,aU];rw[Fl,aQ rfl,SM d,fX];cases m:eV (bs ((c::t).dropWhile b_)) with
     |true=>
      rw[m] at Q;have F:(bif eV (bs (c::t)) then true else if eV (bs (c::t))=false then(decide ((c::t).dropWhile b_≠c::t)&&true) else false)=true:=by grind
      rw[F];simp only[aJ];have Mv:dx (a7 true n) r pd=dx (a7 true n) (c::t) pd:=by simp_all[dx,ae,fF]
      have Z:ae (dx (a7 true n)) (λb=>if b then A else ae (bM []) λt=>match t with
        | .word w p=>ae (cG (a7 true n)) λ_=>B w p
        | .op o=>if o=[40] then bJ else E
        |_=>E) r pd=ae (dx (a7 true n)) (λb=>if b then A else ae (bM []) λt=>match t with
        | .word w p=>ae (cG (a7 true n)) λ_=>B w p
        | .op o=>if o=[40] then bJ else E
        |_=>E) (c::t) pd:=by
       grind[ae]
      rw[Z];refine bL.iH y ((SZ hD bc (tr:=tr) d L m).mono l) (λu3 r1 aD s IS s1 v1 gR q5=>?_) (λop nd ds s _ P=>?_) (λs g=>?_)
      ·subst q5;rw[bh rfl];grind[su,l8]
      ·exact⟨s,z _ _ _ _ (by rw[P.z.1];decide),P.up⟩
      ·exact⟨s,z _ _ _ _ (by rw[g.1];decide),g⟩
     |false=>
      rw[m] at Q;have F:(bif eV (bs (c::t)) then true else if eV (bs (c::t))=false then(decide ((c::t).dropWhile b_≠c::t)&&false) else false)=false:=by grind
      rw[F,S m,O];simp only[N,aU,bw,g9];have gU:cT (c::t)=false:=(yJ L O).2;obtain⟨⟨g,fo,G⟩,hb,u⟩:=Fv hD bc (tr0:=tr) d;have T:G.1=e.S->g.length<=1000000:=λag=>lK (SX d ag hb).1 h.bZ;rw[hb,aQ rfl];dsimp only at u⊢;cases hm:cG (a7 true n) (c::t) pd with
      |ok anp r1 aD=>rw[hm] at u;obtain⟨cU,a2,a3, -,bO,eY⟩:=u;rw[aM hm];have I:=(yI g (T a3.eta.1)).2;grind[vF,l8,fX]
      |more op nd ds=>rw[hm] at u;have i:iI false e (c::t) nd ds G:=u;have I:=(yI g (T i.z.2.2.2.1.s)).2;rw[de hm,y.more,I,fX,z _ _ _ _ (by rw[i.z.1];decide)];exact⟨G,rfl,(i.mono l).up⟩
      |bad q=>rw[hm] at u;have i:iQ e (c::t) G:=u;have I:=(yI g (T i.2.s)).2;rw[g1 hm,y.bad,I,fX,z _ _ _ _ (by rw[i.1];decide)];exact⟨G,rfl,i.mono l⟩
      |deep q=>rw[hm] at u;have i:iQ e (c::t) G:=u;have I:=(yI g (T i.2.s)).2;rw[jP hm,y.deep,I,fX,z _ _ _ _ (by rw[i.1];decide)];exact⟨G,rfl,i.mono l⟩
 ·have ES:dx (a7 true n) r pd= .more [] [] pd:=by
   unfold dx;have:fF r pd= .more [] [] pd:=by unfold fF;rw[K];rfl
   grind[de]
  rw[de ES,y.more,oS,aQ rfl];simp only[cP,tK,cn,aJ];exact⟨_,rfl,.inr ⟨rfl,rfl,rfl⟩⟩
end
def yZ(D:ak Unit):Unit->ak (Unit⊕Unit):=λ_=>vZ D (aX (.inl ())) (λ_ _=>aX (.inl ())) (aX (.inr ()))
theorem Jb(D:ak Unit):hy true D=b8 (yZ D) ():=by unfold hy yZ vZ;grind
structure FO(a b:Int)(f:Bool)(r:aa):Prop where
 g:1<=b\/2<=a\/(a=1/\f=false)
 a0:0<=a
 aau:0<=b
 anq:a+r.length<=1000001
 anr:b+r.length<=1000001
theorem FO.no{a b:Int}{f:Bool}{r:aa}(h:FO a b f r):(bif(bif(decide (a=1)) then(decide (b=0)) else false) then f else false)=false:=by obtain⟨g,a0,aau,_,_⟩:=h;grind
theorem FP{a:Int}(h0:0<=a)(h:a<=1000001):W (a+1)=a+1:=dV (by omega) (by omega)
noncomputable abbrev uP(R:bg):((Int×Int×Bool×ah)->Option ah)->(Int×Int×Bool×ah)->Option ah:=HV R (λx=>some x)
section
variable{R:bg}{n:Nat}(hD:kt R n){e:ca}(bc:e.ne=30- (n:Int))
theorem FQ{r:aa}{pd:ao}{x y:ah}(a:CQ e r pd y)(b:fY e r pd x):(y.1,y.2.1,y.2.2.1,x.2.2.2.1,y.2.2.2.2.1,y.2.2.2.2.2.1,y.2.2.2.2.2.2.1,x.2.2.2.2.2.2.2.1,y.2.2.2.2.2.2.2.2)=y:=by obtain⟨tr,rfl,_⟩:=b;rcases a with⟨c,d, -,rfl, -⟩|⟨-,rfl⟩<;>rfl
theorem Tx{k:(Int×Int×Bool×ah)->Option ah}{a b:Int}{f:Bool}{r:aa}{pd:ao}{x:ah}(h:cB e r pd)(c:fY e r pd x):∃y,CQ e r pd y/\uP R k (a,b,f,x)=FN R k a b f y:=by obtain⟨y,ad,d⟩:=xo h c;refine⟨y,d,?_⟩;show HV R (λx=>some x) k (a,b,f,x)=_;rw[aat,c.eta.2.2.2.2.1];simp only[bw,aJ];rw[ad,aQ rfl,FQ d c]
theorem aav{k:(Int×Int×Bool×ah)->Option ah}{a b:Int}{f:Bool}{x:ah}(h:x.2.2.2.2.1≠0):uP R k (a,b,f,x)=some x:=by simp_all[aat]
include hD bc
theorem aaw{N:Nat}{a b:Int}{f:Bool}{r:aa}{pd:ao}{x:ah}(u:r.length+1<N)(h:cB e r pd)(c:fY e r pd x)(bq:FO a b f r):bL true e r (hy true (a7 true n) r pd) (λst=>st) (λ_ _ _=>True) (fixF (uP R) N (a,b,f,x)):=by
 rw[Jb];refine bL.rep (en:=λ_ r pd (y:Int×Int×Bool×ah)=>fY e r pd y.2.2.2/\FO y.1 y.2.1 y.2.2.1 r) (λk s r pd y t l v hk=>?_) N () r pd _ u h ⟨c,bq⟩;obtain⟨a,b,f,x⟩:=y;obtain⟨c,bq⟩:=l;dsimp only at c bq
 have z:∀a b f (x:ah),x.2.2.2.2.1≠0->k (a,b,f,x)=some x:=by intro a b f x c;obtain⟨k',ad⟩:=v (a,b,f,x);grind[aav]
 obtain⟨y,l,he⟩:=Tx (R:=R) (k:=k) (a:=a) (b:=b) (f:=f) t c;rw[he];have E:=bq.anr;have A:=bq.anq;have d:=bq.a0;have i:=bq.aau;refine Tw hD bc (C:=cK (yZ (a7 true n)) r) c3.k (λ_ _=>rfl) t l z (λr' m B s1 o j q=>?_) (λD w p r' m B F G s1 o j q=>?_) (λD _ _=>bq.no)
 ·refine bL.inl j (hk () r' m _ s1 o j ⟨q,?_⟩);dsimp only;rw[FP i (by omega)];exact⟨.inl (by omega),d,by omega,by omega,by omega⟩
 ·refine bL.inl j (hk () r' m _ s1 o j ⟨q,?_⟩);dsimp only;rw[FP d (by omega)];refine⟨?_,by omega,i,by omega,by omega⟩;rcases bq.g with g|g|g
  ·omega
  ·omega
  omega
end
def CZ(lo:Option dS)(D:ak Unit):ak Unit:=ae (bM []) λt=>if t= .op [40] then ae (lF true lo) λ_=>aX () else hy true D
theorem Jc{D:ak Unit}{r:aa}{pd:ao}(d:bp r=some r)(e:eV (bs (r.dropWhile b_))=true){b:Bool}{r1:aa}{a:ao}(h:dx D r pd= .ok b r1 a):b=true:=by
 have c:fF r pd= .ok (some (bs (r.dropWhile b_))) ((r.dropWhile b_).drop (bs (r.dropWhile b_)).length) pd:=by simp_all[fF]
 unfold dx at h;rw[aM c] at h;obtain⟨_,f,g,_,h⟩:=b1 h;cases h;rfl
theorem ans{D:ak Unit}{r d:aa}{pd:ao}(n:bp r=some d)(f:bp d=some d)(hl:d.length<=r.length)(hD:hT D):hy true D r pd=hy true D d pd:=by
 have s:dx D r pd=dx D d pd:=by simp_all[dx,ae,fF]
 have h:yZ D () r pd=yZ D () d pd:=by simp_all[yZ,vZ,ae]
 rw[Jb,cm,cm,h];unfold cK;cases hm:yZ D () d pd with
 |ok x r' t=>
  cases x with
  |inr a=>rfl
  |inl u=>
   have v:r'.length<d.length:=by
    have bq:=hm;unfold yZ vZ at bq;obtain⟨b,i,j,k,c⟩:=b1 bq;cases b with
    |true=>simp only[cE] at c;cases c;exact su hD k
    |false=>
     simp only[eB,cn] at c;have g:i=d/\j=pd:=by
      cases y:eV (bs (d.dropWhile b_)) with
      |true=>grind[Jc]
      |false=>simp_all[uL]
     rw[g.1,g.2,aM (ch f)] at c;cases e:ar d with
     |eof=>rw[e] at c;cases c
     |line=>rw[e] at c;cases c
     |op o=>rw[e] at c;simp only at c;split at c<;>cases c
     |word w p=>rw[e] at c;simp only at c;obtain⟨_,z,A,l,m⟩:=b1 c;cases m;exact vF hD (yJ f e).1 (yJ f e).2 l
   grind
 |more op nd ds=>rfl
 |bad q=>rfl
 |deep q=>rfl
section
variable{R:bg}{n:Nat}(gL:∀k m,n=m+1+k->kt R m/\oo R m)(hD:kt R n)(aw:n<=30){e:ca}(bc:e.ne=30- (n:Int))
theorem aaz{M:Nat}(c:0<M):∀a b f (x:ah),x.2.2.2.2.1≠0->fixF (uP R) M (a,b,f,x)=some x:=by
 intro a b f x d
 obtain⟨m,rfl⟩:∃m,M=m+1:=⟨M-1,by omega⟩
 grind[e7,aav]
include gL hD aw bc
theorem ant{N:Nat}{r:aa}{pd:ao}{x:ah}(U:r.length+1<N)(h:cB e r pd)(F:fY e r pd x):bL true e r (CZ (jt true n) (a7 true n) r pd) (λst=>st) (λ_ _ _=>True) (fixF (uP R) N (1,0,true,x)):=by
 obtain⟨M,rfl⟩:∃m,N=m+1:=⟨N-1,by omega⟩
 rw[e7];have D:=aaz (R:=R) (M:=M) (by omega)
 have l:∀{a b:Int}{f:Bool}{r':aa}{c:ao}{i:ah},r'.length<r.length->cB e r' c->fY e r' c i->FO a b f r'->bL true e r' (hy true (a7 true n) r' c) (λst=>st) (λ_ _ _=>True) (fixF (uP R) M (a,b,f,i)):=λad G H I=>aaw hD bc (by omega) G H I
 generalize fixF (uP R) M=k at D l;obtain⟨y,J,he⟩:=Tx (R:=R) (k:=k) (a:=1) (b:=0) (f:=true) h F;rw[he];have V:=h.bZ;have hle:=h.sfx.length_le;rcases J with⟨d,tr,o,rfl,K,g,q,E⟩|⟨o,rfl⟩
 ·unfold CZ;rw[aM (ch o)];by_cases s:bs d=[40]
  ·have j:ar d= .op [40]:=(mN (by simp)).2 s;rw[bh j];obtain⟨u,rfl⟩:=(il j).2.1;have L:=ano gL aw bc (tr:=tr) (u:=u) g;unfold FN;rw[qt,aQ rfl,Fy g,e3 (by simp),fX];have O:(decide ((((40:UInt8)).toNat:Int)=(10:Int)))=false:=by decide
   have t:(([40]++u:aa)).headD 0=40:=rfl;simp only[cE,aU,t,O];rw[rK g,aQ rfl,s];simp only[bw,aJ];have v:ae (lF true (jt true n)) (λ_=>aX ()) ([40]++u) pd=lF true (jt true n) ([40]++u) pd:=E9 _ _ _;rw[v];exact bL.dU (L.mono q) (CW _)
  ·have j:ar d≠ .op [40]:=λP=>s ((mN (by simp)).1 P);rw[aO j,Jb,cm];have W:=q.length_le;refine bL.mono ?_ q;refine Tw hD bc (C:=cK (yZ (a7 true n)) d) c3.k (λ_ _=>rfl) g (.inl ⟨d,tr,E,rfl,K,g,fM,E⟩) D (λr' c i s1 z A B=>?_) (λQ w p r' c i S T s1 z A B=>?_) (λQ S T=>?_)
   ·refine bL.inl A ?_;rw[<-Jb];refine(l (by omega) z B ?_).mono s1;rw[FP (by omega) (by omega)];exact⟨.inl (by omega),by omega,by omega,by omega,by omega⟩
   ·refine bL.inl A ?_;rw[<-Jb];refine(l (by omega) z B ?_).mono s1;rw[FP (by omega) (by omega)];exact⟨.inr (.inl (by omega)),by omega,by omega,by omega,by omega⟩
   grind
 ·unfold CZ;rw[de (op:=[]) (nd:=[]) (ds:=pd) (by rw[iG o];rfl)];unfold FN;rw[oS,aQ rfl];simp only[cP,tK,cn,aJ];exact⟨_,rfl,.inr ⟨rfl,rfl,rfl⟩⟩
end
noncomputable def M8(R:bg):ah->Option ah:=λx=>
 (au (gu x) λ(e:Bool)=>(bif e then(au (g7 x ([120]:aa)) λ(f:ah)=>some f) else(au (hH x) λ(b:aa)=>(au (lD x) λ(y23:aa)=>(cP ((decide (b=([40]:aa)))=false) (yi y23) false λ(g:Bool)=>(bif(bif(decide (b=([40]:aa))) then true else g) then(au (yr R x) λ(h:ah)=>some h) else(au (ie x) λ(c:UInt8)=>(cP ((!(decide (b=[])))=true/\(decide ((c.toNat:Int)=(10:Int)))=false) (vA b) false λ(d:Bool)=>(cP ((bif(decide ((c.toNat:Int)=(10:Int))) then true else(bif(!(decide (b=[]))) then(!d) else false))=false) (Eh y23) false λ(i:Bool)=>(bif(bif(bif(decide ((c.toNat:Int)=(10:Int))) then true else(bif(!(decide (b=[]))) then(!d) else false)) then true else i) then(au (hr x x.2.1) λ(a:ah)=>some (a.1,a.2.1,a.2.2.1,x.2.2.2.1,a.2.2.2.2.1,a.2.2.2.2.2.1,a.2.2.2.2.2.2.1,x.2.2.2.2.2.2.2.1,a.2.2.2.2.2.2.2.2)) else(au (fixF (uP R) bC (0,0,false,x)) λ(j:ah)=>some j)))))))))))
theorem aaA(R:bg)(x0:ah):sm R x0=au (g6 x0) λa=>M8 R (a.1,a.2.1,a.2.2.1,x0.2.2.2.1,a.2.2.2.2.1,a.2.2.2.2.2.1,a.2.2.2.2.2.2.1,x0.2.2.2.2.2.2.2.1,a.2.2.2.2.2.2.2.2):=rfl
theorem Ty{R:bg}{e:ca}{r:aa}{b pd:ao}(h:cB e r b)(c:eh pd<=100*e.S.length+800):∃a,sm R (e.tt pd)=some a/\nZ e r (cQ [] pd [120]).1 (cQ [] pd [120]).2 a:=by rw[aaA,CG,aQ rfl];obtain⟨a,f,g⟩:=FK (pd:=pd) (x:=[120]) h c (by simp);have d:((e.tt pd).1,(e.tt pd).2.1,(e.tt pd).2.2.1,(e.tt pd).2.2.2.1,(e.tt pd).2.2.2.2.1,(e.tt pd).2.2.2.2.2.1,(e.tt pd).2.2.2.2.2.2.1,(e.tt pd).2.2.2.2.2.2.2.1,(e.tt pd).2.2.2.2.2.2.2.2)=e.tt pd:=rfl;rw[d];simp_all[M8,oS,aQ]
section
variable{R:bg}{n:Nat}(gL:∀k m,n=m+1+k->kt R m/\oo R m)(hD:kt R n)(aw:n<=30){e:ca}(bc:e.ne=30- (n:Int))
include gL hD aw bc
theorem anw{r:aa}{pd:ao}{tr:Bool}(h:cB e r pd)(v:fY e r pd (e.st r pd tr))(G:bp r=some r)(H:bs r≠[40]):bL true e r (vZ (a7 true n) (hy true (a7 true n)) (λw p=>if p&&l4 w then CZ (jt true n) (a7 true n) else hy true (a7 true n)) (aX ()) r pd) (λst=>st) (λ_ _ _=>True) (fixF (uP R) bC (0,0,false,e.st r pd tr)):=by
 have z:r.length+1<bC:=vU h
 obtain⟨M,o⟩:∃m,bC=m+1:=⟨bC-1,by omega⟩
 rw[o,e7];rw[o] at z;clear o;have u:=aaz (R:=R) (M:=M) (by omega)
 have q:∀{a b:Int}{f:Bool}{r':aa}{c:ao}{d:ah},r'.length<r.length->cB e r' c->fY e r' c d->FO a b f r'->bL true e r' (hy true (a7 true n) r' c) (λst=>st) (λ_ _ _=>True) (fixF (uP R) M (a,b,f,d)):=λad s t A=>aaw hD bc (by omega) s t A
 have g:∀{r':aa}{c:ao}{d:ah},r'.length<r.length->cB e r' c->fY e r' c d->bL true e r' (CZ (jt true n) (a7 true n) r' c) (λst=>st) (λ_ _ _=>True) (fixF (uP R) M (1,0,true,d)):=λad s t=>ant gL hD aw bc (by omega) s t
 generalize fixF (uP R) M=k at u q g;obtain⟨y,B,he⟩:=Tx (R:=R) (k:=k) (a:=0) (b:=0) (f:=false) h v;rw[he];have I:=h.bZ;have hle:=h.sfx.length_le;refine Tw hD bc (C:=λx=>x) c3.id (λ_ _=>rfl) h B u (λr' c d s1 i j l=>?_) (λD w p r' c d E F s1 i j l=>?_) (λD E F=>?_)
 ·refine(q j i l ?_).mono s1;rw[FP (by omega) (by omega)];exact⟨.inl (by omega),by omega,by omega,by omega,by omega⟩
 ·rw[FP (by omega) (by omega)];cases aB:(p&&l4 w) with
  |true=>rw[bh rfl];exact(g j i l).mono s1
  |false=>rw[aO (by simp)];exact(q j i l ⟨.inr (.inr ⟨rfl,rfl⟩),by omega,by omega,by omega,by omega⟩).mono s1
 ·rfl
theorem aaC{r:aa}{pd:ao}{st:ah}(h:cB e r pd)(I:fY e r pd st):bL true e r (fx true (jt true n) (a7 true n) r pd) (λst=>st) (λ_ _ _=>True) (sm R st):=by
 rw[aaA];obtain⟨y,O,J⟩:=xo h I;rw[O,aQ rfl,FQ J I];rcases J with⟨a,tr,v,rfl,K,d,i,o⟩|⟨v,rfl⟩
 ·unfold fx;rw[aM (ch v)];unfold M8;rw[qt,aQ rfl];by_cases z:a=[]
  ·subst z;simp only[bw,aJ];obtain⟨s,g,j⟩:=uM (tr:=tr) (x:=[120]) d (by decide);rw[g];exact⟨s,rfl,(j.mono i).s⟩
  ·simp only[z,bF,aU];have P:ar a≠ .eof:=λA=>z (lG.1 A);rw[aO P,rK d,aQ rfl,vV d,aQ rfl,Zr,fX];have L:=h.nl.h7 d.sfx;have Z:=ZA L;have B:(bif decide (bs a=[40]) then true else if decide (bs a=[40])=false then qb (i_ a) else false)=hv (ar a):=by grind
   rw[B];cases aF:hv (ar a) with
   |true=>
    simp only[aJ,cE]
    have Q:∀m,n=m+1->kt R m/\oo R m:=λm hm=>gL 0 m (by omega)
    have C:=aao Q hD aw bc d ⟨tr,rfl,K⟩ o aF;have S:qe (jt true n) (ar a)=(aR true n).cp (ar a):=by rw[Y6]
    rw[S];exact bL.dU (C.mono i) (CW _)
   |false=>
    simp only[aU,eB,cn];rw[Fy d,aQ rfl];have D:ar a≠ .op [40]:=by grind[hv]
    have T:bs a≠[40]:=λA=>D ((mN (by simp)).2 A);have U:=anw gL hD aw bc d ⟨tr,rfl,K⟩ o T;have yH:=alL L;have E:∀X:dD Unit,X= .bad a->bL true e r X (λst=>st) (λ_ _ _=>True) (au (hr (e.st a pd tr) (e.st a pd tr).2.1) λ(f:ah)=>
      some (f.1,f.2.1,f.2.2.1,(e.st a pd tr).2.2.2.1,f.2.2.2.2.1,f.2.2.2.2.2.1,f.2.2.2.2.2.2.1,(e.st a pd tr).2.2.2.2.2.2.2.1,f.2.2.2.2.2.2.2.2)):=by
     rintro X rfl;obtain⟨s,g,j⟩:=pK (tr:=tr) (e.st a pd tr).2.1 d i;rw[g,aQ rfl];exact⟨_,rfl,by cases g;exact j⟩
    cases a with
    |nil=>grind
    |cons c t=>
     simp only[y9,pF];rcases I0 (b:=c) (t:=t) with⟨k,l⟩|⟨k,l,u⟩|⟨k,l,u⟩
     ·subst k;rw[l];simp only[bw,cP,tK,and_false,cn,aJ];exact E _ rfl
     ·rw[u];have F:rA (i_ (c::t))=false:=by grind
      rw[Fl,fX,Zs,fX,F];have V:decide (bs (c::t)=[])=false:=e3 l;simp only[k,V,bF,e2,nB,cE,aJ,aU];have G:(if(!eV (bs (c::t)))=false then false else false)=false:=by simp
      rw[G];cases W:eV (bs (c::t)) with
      |false=>simp only[e2,aJ,eB,cn];exact E _ rfl
      |true=>
       simp only[g9,aU,cE];refine bL.dU (bL.mono ?_ i) (CW _);have H:eV (bs ((c::t).dropWhile b_))=true:=by grind[MD]
       have Y:ae (dx (a7 true n)) (λ_=>hy true (a7 true n)) (c::t) pd=vZ (a7 true n) (hy true (a7 true n)) (λw p=>if p&&l4 w then CZ (jt true n) (a7 true n) else hy true (a7 true n)) (aX ()) (c::t) pd:=by
        unfold vZ;cases hm:dx (a7 true n) (c::t) pd with
        |ok b r1 M=>have:=Jc o H hm;subst this;rw[aM hm,aM hm,bh rfl]
        |more op nd ds=>grind[de]
        |bad q=>grind[g1]
        |deep q=>grind[jP]
       grind
     ·rw[u];have F:rA (i_ (c::t))=((c5 (c::t)).2&&rA (c5 (c::t)).1):=by grind
      rw[Fl,fX,Zs,fX,F];simp only[k,l,bw,bF,g9,aU,eB,false_and,cE];cases Mv:((c5 (c::t)).2&&rA (c5 (c::t)).1) with
      |true=>simp only[aJ,cE];exact E _ rfl
      |false=>
       simp only[aU,eB,cn];refine bL.dU (bL.mono ?_ i) (CW _);have Y:ae (dx (a7 true n)) (λb=>if b then hy true (a7 true n) else ae (cG (a7 true n)) λ_=>
         if(c5 (c::t)).2&&l4 (c5 (c::t)).1 then ae (bM []) λt=>if t= .op [40] then ae (lF true (jt true n)) λ_=>aX () else hy true (a7 true n) else hy true (a7 true n)) (c::t) pd=vZ (a7 true n) (hy true (a7 true n)) (λw p=>if p&&l4 w then CZ (jt true n) (a7 true n) else hy true (a7 true n)) (aX ()) (c::t) pd:=by
        unfold vZ;cases hm:dx (a7 true n) (c::t) pd with
        |ok b r1 M=>
         rw[aM hm,aM hm];cases b with
         |true=>rfl
         |false=>
          simp only[eB,cn,cE];have N:r1=c::t/\M=pd:=by
           cases W:eV (bs ((c::t).dropWhile b_)) with
           |true=>grind[Jc]
           |false=>simp_all[uL]
          rw[N.1,N.2,aM (ch o),u];rfl
        |more op nd ds=>grind[de]
        |bad q=>grind[g1]
        |deep q=>grind[jP]
       grind
 ·unfold fx;rw[de (op:=[]) (by rw[iG v];rfl)];unfold M8;rw[oS,aQ rfl];simp only[aJ];obtain⟨s,g,j⟩:=CM (x:=[120]) h.Au (by decide);rw[g];exact⟨s,rfl,(j.mono ov).s⟩
end
structure Tz(e:ca)(da:ak Unit)(F:ah->Option ah):Prop where
 im:∀{r:aa}{pd:ao}{st:ah},cB e r pd->fY e r pd st->bL true e r (da r pd) (λst=>st) (λ_ _ _=>True) (F st)
 tt:∀{r:aa}{gn pd:ao},cB e r gn->eh pd<=100*e.S.length+800->∃aP,F (e.tt pd)=some aP/\nZ e r (cQ [] pd [120]).1 (cQ [] pd [120]).2 aP
 sfx:∀{r:aa}{pd:ao}{a:Unit}{r':aa}{aC:ao},da r pd= .ok a r' aC->r'<:+r
 pb:aH 50 da
noncomputable def M9(tst:aa->Bool)(w:Int)(F k:ah->Option ah):ah->Option ah:=λx=>
 (au (hH x) λ(b:aa)=>(bif tst b then some x else(au (oc (setAt x (W (x.2.1+w)))) λ(a:ah)=>(bif(!(decide (a.2.2.2.2.1=0))) then(au (gv a ([]) ([120]:aa)) λ(c:ah)=>some c) else(au (F a) λ(d:ah)=>k d)))))
noncomputable def xr(tst:aa->Bool)(w:Int)(F:ah->Option ah)(k:ah->Option ah):ah->Option ah:=λx=>
 (bif(decide (x.2.2.2.2.1=0)) then(au (g6 x) λ(a:ah)=>M9 tst w F k (a.1,a.2.1,a.2.2.1,x.2.2.2.1,a.2.2.2.2.1,a.2.2.2.2.2.1,a.2.2.2.2.2.2.1,x.2.2.2.2.2.2.2.1,a.2.2.2.2.2.2.2.2)) else some x)
def qu(p:Tok->Bool)(w:Nat)(da:ak Unit):ak Unit:=b8 (λ_=>ae (bM []) λt=>if p t=true then ae (bU w) λ_=>ae (cS.aK [120]) λ_=>ae da λ_=>aX (.inl ()) else aX (.inr ())) ()
section
variable{e:ca}{da:ak Unit}{F:ah->Option ah}(dg:Tz e da F){p:Tok->Bool}{tst:aa->Bool}{w:Nat}
 (aB:∀t,p t=true->∃o,t= .op o/\o.length=w/\0<w/\tst o=false) (xb:∀r,tst (bs r)=false->p (ar r)=true) (TA:tst []=true)
include dg aB xb TA
theorem aaD{r:aa}{pd:ao}{st:ah}(h:cB e r pd)(S:fY e r pd st):bL true e r (qu p w da r pd) (λst=>st) (λ_ _ _=>True) (fixF (xr tst w F) bC st):=by
 unfold qu;refine bL.rep (en:=λ_ r pd x=>fY e r pd x) (λk s r pd x m f E hk=>?_) bC () r pd _ (vU h) h S
 have n:∀x:ah,x.2.2.2.2.1≠0->k x=some x:=by intro x f;obtain⟨k',ad⟩:=E x;simp_all[xr]
 have u5:∀ds,k (e.tt ds)=some (e.tt ds):=by intro ds;obtain⟨k',ad⟩:=E (e.tt ds);rw[ad];unfold xr;have t:(e.tt ds).2.2.2.2.1=0:=rfl;rw[t,CG,aQ rfl];have T:((e.tt ds).1,(e.tt ds).2.1,(e.tt ds).2.2.1,(e.tt ds).2.2.2.1,(e.tt ds).2.2.2.2.1,(e.tt ds).2.2.2.2.2.1,(e.tt ds).2.2.2.2.2.2.1,(e.tt ds).2.2.2.2.2.2.2.1,(e.tt ds).2.2.2.2.2.2.2.2)=e.tt ds:=rfl;rw[T];unfold M9;rw[Fz ds m.bZ,aQ rfl,TA];rfl
 unfold xr;rw[f.eta.2.2.2.2.1];simp only[bw,aJ];obtain⟨y,U,G⟩:=xo m f;have H:=FQ G f;rw[f.eta.2.2.2.1] at H;rw[U,aQ rfl,f.eta.2.2.2.1,H];unfold M9;rcases G with⟨I,tr,z,rfl,V,g,J,ib⟩|⟨z,rfl⟩
 ·rw[aM (ch z),rK g,aQ rfl];cases X:tst (bs I) with
  |true=>
   have j:¬p (ar I)=true:=by intro A;obtain⟨o,ad,K,_,Y⟩:=aB _ A;have:=(il ad).1;grind
   rw[aO j];simp only[aJ];exact⟨_,rfl,J,g,⟨tr,rfl,V⟩,trivial⟩
  |false=>
   have j:=xb _ X;rw[bh j];simp only[aU];obtain⟨o,ad,K,Y,_⟩:=aB _ j;obtain⟨aW,Z,b6,dk⟩:=il ad;obtain⟨v,rfl⟩:=Z;have L:v<:+o++v:=gS o v;have sB:=g.tE dk b6;have kE:setAt (e.st (o++v) pd tr) (W ((e.st (o++v) pd tr).2.1+(w:Int)))=e.st v pd tr:=sH g w K;have TB:bU w (o++v) pd= .ok () v pd:=by grind[bU]
   rw[kE,aM TB];have l:=g.mono L;have i:v<:+r:=L.trans J;have eP:v.length<r.length:=by grind
   obtain⟨bV,bD,d⟩:=Fp l (st:=e.st v pd tr) ⟨tr,rfl,λA=>absurd A sB⟩;rw[bD,aQ rfl];have hE:=aH.low (aH.lines (c:=0)) l;cases hm:cS v pd with
   |ok a r1 aD=>
    rw[hm] at d;obtain⟨M,a2,a3,bO,eY⟩:=d;rw[aM (pL hm),a3.eta.2.2.2.2.1];simp only[bw,g9,aU];refine bL.iH (C:=cK _ r) c3.k ((dg.im a2 a3).mono (M.trans i)) (λanp N b2 b bI iX eT yR _=>?_) (λop nd ds b _ B=>?_) (λb O=>?_)
    ·have lX:=(dg.sfx bI).length_le;have l6:=M.length_le;have P:N.length<r.length:=by omega
     exact bL.inl P (hk () N b2 b iX eT P yR)
    ·rcases B with B|⟨_,rfl,Q⟩
     ·exact⟨b,n b (by omega),.inl B⟩
     ·subst Q;exact⟨_,u5 ds,.inr ⟨rfl,rfl,rfl⟩⟩
    ·exact⟨b,n b (by rw[O.1];decide),O⟩
   |more op nd ds=>
    rw[hm] at d;rw[de (sG hm)];have Q:=hE _ _ _ hm;rcases d with d|⟨_,rfl,rfl⟩
    ·rw[d.1];simp only[show¬((1:Int)=0) by decide,bF,e2,aJ];obtain⟨D,al,bd⟩:=FH (q:=true) (x:=[120]) l (.inl d) i (by omega) (by decide);rw[al];exact⟨D,rfl,bd⟩
    ·have t:(e.tt ds).2.2.2.2.1=0:=rfl;rw[t];simp only[bw,g9,aU];obtain⟨D,a1,R⟩:=dg.tt l (pd:=ds) (by omega);rw[a1,aQ rfl,n _ (by rw[R.1];decide)];exact⟨D,rfl,(R.mono i).s⟩
   |bad u=>rw[hm] at d;rw[g1 (uN hm),d.1];simp only[show¬((2:Int)=0) by decide,bF,e2,aJ];rw[rL d];exact⟨_,rfl,d.mono i⟩
   |deep u=>rw[hm] at d;rw[jP (uO hm),d.1];simp only[show¬((2:Int)=0) by decide,bF,e2,aJ];rw[rL d];exact⟨_,rfl,d.mono i⟩
 ·rw[de (op:=[]) (nd:=[]) (ds:=pd) (by rw[iG z];rfl),Fz pd m.bZ,aQ rfl,TA];exact⟨_,rfl,.inr ⟨rfl,rfl,rfl⟩⟩
end
def pN(t:Tok):Bool:=decide (t= .op [124])
def qv(t:Tok):Bool:=decide (t= .op [38,38])||decide (t= .op [124,124])
theorem TC(da:ak Unit):fi da=ae (bM [120]) λt=>ae (if cA t [33] then bU 1 else aX ()) λ_=>ae da λ_=>qu pN 1 da:=by simp[fi,qu,pN]
theorem TD(a:ak Unit):hB a=ae a λ_=>qu qv 2 a:=by simp[hB,qu,qv]
noncomputable def Na(R:bg):ah->Option ah:=λa=>fixF (xr (λo=> !(decide (o=([124]:aa)))) 1 (sm R)) bC a
noncomputable def Je(R:bg):ah->Option ah:=λx=>
 (au (lD x) λ(b:aa)=>(bif(decide (b=([33]:aa))) then(au (sm R (setAt x (W (x.2.1+1)))) λa=>Na R a) else(au (sm R x) λa=>Na R a)))
theorem aaE(R:bg)(x0:ah):wW R x0=au (g6 x0) λa=>Je R (a.1,a.2.1,a.2.2.1,x0.2.2.2.1,a.2.2.2.2.1,a.2.2.2.2.2.1,a.2.2.2.2.2.2.1,x0.2.2.2.2.2.2.2.1,a.2.2.2.2.2.2.2.2):=rfl
theorem anC(R:bg)(x0:ah):Ez R x0=au (wW R x0) λa=>fixF (xr (λo=>bif(!(decide (o=([38,38]:aa)))) then(!(decide (o=([124,124]:aa)))) else false) 2 (wW R)) bC a:=rfl
theorem FR{tst:aa->Bool}{w:Int}{F:ah->Option ah}{x:ah}(h:x.2.2.2.2.1≠0):fixF (xr tst w F) bC x=some x:=by
 obtain⟨m,hm⟩:∃m,bC=m+1:=⟨bC-1,by rw[gg]⟩
 simp_all[e7,xr]
theorem aaF{tst:aa->Bool}{w:Int}{F:ah->Option ah}{e:ca}(ds:ao)(b:e.S.length<=1000000)(c:tst []=true):fixF (xr tst w F) bC (e.tt ds)=some (e.tt ds):=by
 obtain⟨m,hm⟩:∃m,bC=m+1:=⟨bC-1,by rw[gg]⟩
 rw[hm,e7];unfold xr;have a:(e.tt ds).2.2.2.2.1=0:=rfl;rw[a,CG,aQ rfl];have d:((e.tt ds).1,(e.tt ds).2.1,(e.tt ds).2.2.1,(e.tt ds).2.2.2.1,(e.tt ds).2.2.2.2.1,(e.tt ds).2.2.2.2.2.1,(e.tt ds).2.2.2.2.2.2.1,(e.tt ds).2.2.2.2.2.2.2.1,(e.tt ds).2.2.2.2.2.2.2.2)=e.tt ds:=rfl;simp_all[M9,Fz,aQ]
theorem TE:([33]:aa)≠[]/\([33]:aa).all gp=true:=by decide
theorem Jf(n:Nat):∀l,jt true n=some l->uC l:=by
 intro l h;cases n with
 |zero=>cases h
 |succ m=>cases h;simp[qY]
theorem anD(n:Nat):∀l,jt true n=some l->yL l:=by
 intro l h;cases n with
 |zero=>cases h
 |succ m=>cases h;simp[tz]
section
variable{R:bg}{n:Nat}(gL:∀k m,n=m+1+k->kt R m/\oo R m)(hD:kt R n)(aw:n<=30){e:ca}(bc:e.ne=30- (n:Int))
include gL hD aw bc
theorem aaG:Tz e (fx true (jt true n) (a7 true n)) (sm R) where
 im:=λh b=>aaC gL hD aw bc h b
 tt:=λh c=>Ty h c
 sfx:=by intro r pd a r' d hm;exact(aq.command (λl hl=>Jf n l hl) (l8 true n)).sfx hm
 pb:=by grind[Fi,aH.command,anD]
theorem anE{r:aa}{pd:ao}{st:ah}(h:cB e r pd)(b:fY e r pd st):bL true e r (qu pN 1 (fx true (jt true n) (a7 true n)) r pd) (λst=>st) (λ_ _ _=>True) (Na R st):=by
 refine aaD (aaG gL hD aw bc) (λt a=>?_) (λr a=>?_) rfl h b
 ·exact⟨[124],NL a,rfl,by decide,rfl⟩
 ·have:bs r=[124]:=by grind
  exact decide_eq_true ((mN (by simp)).2 this)
theorem anF{r c:aa}{pd:ao}{tr:Bool}(d:cB e c pd)(g:c=[]->tr=false)(k:c<:+r)(z:bp c=some c):bL true e r (ae (if cA (ar c) [33] then bU 1 else aX ()) (λ_=>ae (fx true (jt true n) (a7 true n)) λ_=>qu pN 1 (fx true (jt true n) (a7 true n))) c pd) (λst=>st) (λ_ _ _=>True) (Je R (e.st c pd tr)):=by
 unfold Je;rw[vV d,aQ rfl];have l:=d.nl.h7 d.sfx
 have m:∀{v:aa}{tr:Bool},cB e v pd->(v=[]->tr=false)->v<:+r->bL true e r (ae (fx true (jt true n) (a7 true n)) (λ_=>qu pN 1 (fx true (jt true n) (a7 true n))) v pd) (λst=>st) (λ_ _ _=>True) (au (sm R (e.st v pd tr)) λo=>Na R o):=by
  intro v tr h g p;refine bL.iH (C:=λx=>x) c3.id ((aaC gL hD aw bc h ⟨tr,rfl,g⟩).mono p) (λa r1 A b B s1 q s _=>?_) (λop nd ds b _ f=>?_) (λb i=>?_)
  ·exact(anE gL hD aw bc q s).mono s1
  ·rcases f with f|⟨_,rfl,t⟩
   ·exact⟨b,FR (by omega),.inl f⟩
   ·subst t;exact⟨_,aaF ds h.bZ rfl,.inr ⟨rfl,rfl,rfl⟩⟩
  ·exact⟨b,FR (by rw[i.1];decide),i⟩
 by_cases aG:i_ c=[33]
 ·have u:=(rJ l TE.1 TE.2).1 aG;simp only[aG,bw,aJ];rw[bh (by grind[cA])];obtain⟨v,rfl⟩:=(qj u).1;have j:v<:+[33]++v:=gS _ v;rw[aM (show bU 1 ([33]++v) pd= .ok () v pd from rfl)];have w:setAt (e.st ([33]++v) pd tr) (W ((e.st ([33]++v) pd tr).2.1+1))=e.st v pd tr:=sH d 1 rfl;rw[w];exact m (d.mono j) (λy=>absurd y (d.tE (by simp) (by decide))) (j.trans k)
 ·have bf:cA (ar c) [33]=false:=by grind[IU,TE]
  simp only[aG,bF,aU];rw[aO (by grind),I2];grind
theorem aaH{r:aa}{pd:ao}{st:ah}(h:cB e r pd)(b:fY e r pd st):bL true e r (fi (fx true (jt true n) (a7 true n)) r pd) (λst=>st) (λ_ _ _=>True) (wW R st):=by
 rw[TC,aaE];obtain⟨y,g,c⟩:=xo h b;rw[g,aQ rfl,FQ c b];rcases c with⟨j,tr,a,rfl,k,l,m,p⟩|⟨a,rfl⟩
 ·rw[aM (ch a)];grind[anF]
 ·rw[de (op:=[]) (by rw[iG a];rfl)];unfold Je;rw[S_ h,aQ rfl];simp only[reduceCtorEq,bF,aU];have q:=h.jM;obtain⟨d,i,f⟩:=Ty (R:=R) (pd:=pd) h (by omega);rw[i,aQ rfl];have:=FR (tst:=λo=> !(decide (o=([124]:aa)))) (w:=1) (F:=sm R) (x:=d) (by rw[f.1];decide);exact⟨d,this,f.s⟩
theorem anG{r:aa}{c pd:ao}(h:cB e r c)(d:eh pd<=100*e.S.length+800):∃a,wW R (e.tt pd)=some a/\nZ e r (cQ [] pd [120]).1 (cQ [] pd [120]).2 a:=by rw[aaE,CG,aQ rfl];have f:((e.tt pd).1,(e.tt pd).2.1,(e.tt pd).2.2.1,(e.tt pd).2.2.2.1,(e.tt pd).2.2.2.2.1,(e.tt pd).2.2.2.2.2.1,(e.tt pd).2.2.2.2.2.2.1,(e.tt pd).2.2.2.2.2.2.2.1,(e.tt pd).2.2.2.2.2.2.2.2)=e.tt pd:=rfl;rw[f];unfold Je;rw[S_ h,aQ rfl];simp only[reduceCtorEq,bF,aU];obtain⟨a,g,b⟩:=Ty (R:=R) (pd:=pd) h d;rw[g,aQ rfl];have:=FR (tst:=λo=> !(decide (o=([124]:aa)))) (w:=1) (F:=sm R) (x:=a) (by rw[b.1];decide);exact⟨a,this,b⟩
theorem aaI:Tz e (fi (fx true (jt true n) (a7 true n))) (wW R) where
 im:=λh b=>aaH gL hD aw bc h b
 tt:=λh c=>anG gL hD aw bc h c
 sfx:=by intro r pd a r' d hm;exact(aq.pipe (aq.command (λl hl=>Jf n l hl) (l8 true n))).sfx hm
 pb:=aH.pipe (aaG gL hD aw bc).pb
theorem anH{r:aa}{pd:ao}{st:ah}(h:cB e r pd)(g:fY e r pd st):bL true e r (hB (fi (fx true (jt true n) (a7 true n))) r pd) (λst=>st) (λ_ _ _=>True) (Ez R st):=by
 rw[TD,anC];refine bL.iH (C:=λx=>x) c3.id (aaH gL hD aw bc h g) (λa r1 l b m s1 i j _=>?_) (λop nd ds b _ c=>?_) (λb d=>?_)
 ·refine(aaD (aaI gL hD aw bc) (λt f=>?_) (λr f=>?_) rfl i j).mono s1
  ·unfold qv at f;grind
  ·unfold qv;rw[AO];grind[mN]
 ·rcases c with c|⟨_,rfl,k⟩
  ·exact⟨b,FR (by omega),.inl c⟩
  ·subst k;exact⟨_,aaF ds h.bZ rfl,.inr ⟨rfl,rfl,rfl⟩⟩
 ·exact⟨b,FR (by rw[d.1];decide),d⟩
end
noncomputable def v5(a:Bool):Int×ah->Option (Int×ah):=λy=>
 (bif(bif a then(decide (y.1=0)) else false) then(au (gv y.2 ([]) ([120]:aa)) λ(b:ah)=>some (y.1,b)) else some y)
noncomputable def TF(a:aa)(k:Int×ah->Option (Int×ah))(kW:Int):ah->Option (Int×ah):=λx=>
 (au (hH x) λ(c:aa)=>(au (gu x) λ(d:Bool)=>(cP (d=false) (ie x) (0:UInt8) λ(e:UInt8)=>(bif(bif(bif d then true else(decide ((e.toNat:Int)=(10:Int)))) then true else(bif(decide (c=a)) then(!(decide (a=[]))) else false)) then k ((W (kW+1)),x) else(bif(bif(!(decide (c=([59]:aa)))) then(!(decide (c=([38]:aa)))) else false) then(au (hr x x.2.1) λ(b:ah)=>some ((W (kW+1)),(b.1,b.2.1,b.2.2.1,x.2.2.2.1,b.2.2.2.2.1,b.2.2.2.2.2.1,b.2.2.2.2.2.2.1,x.2.2.2.2.2.2.2.1,b.2.2.2.2.2.2.2.2))) else k ((W (kW+1)),setAt x (W (x.2.1+1))))))))
noncomputable def aaJ(R:bg)(b:aa)(k:Int×ah->Option (Int×ah))(kW:Int):ah->Option (Int×ah):=λx=>
 (au (Ez R x) λ(c:ah)=>(bif(!(decide (c.2.2.2.2.1=0))) then some ((W (kW+1)),c) else(au (g6 c) λ(a:ah)=>TF b k kW (a.1,a.2.1,a.2.2.1,c.2.2.2.1,a.2.2.2.2.1,a.2.2.2.2.2.1,a.2.2.2.2.2.2.1,c.2.2.2.2.2.2.2.1,a.2.2.2.2.2.2.2.2))))
noncomputable def Nb(R:bg)(a:aa)(b:bt)(c:Bool)(j k:Int×ah->Option (Int×ah))(kW:Int):ah->Option (Int×ah):=λx=>
 (au (gu x) λ(f:Bool)=>(bif f then(bif(!(decide (a=[]))) then(au (g7 x ([])) λ(g:ah)=>j (kW,g)) else j (kW,x)) else(au (ie x) λ(h:UInt8)=>(bif(decide ((h.toNat:Int)=(10:Int))) then(au (zX x) λ(i:ah)=>k (kW,i)) else(au (hH x) λ(d:aa)=>(au (lD x) λ(e:aa)=>(cP ((decide (0<kW))=true/\(bif(bif(decide (d=a)) then(!(decide (a=[]))) else false) then(bif(decide (0<kW)) then true else(!c)) else false)=false) (yh e b) false λ(l:Bool)=>(bif(bif(bif(bif(bif(decide (d=a)) then(!(decide (a=[]))) else false) then(bif(decide (0<kW)) then true else(!c)) else false) then true else(bif(decide (0<kW)) then l else false)) then true else(bif(decide (a=([59,59]:aa))) then(decide (e=([101,115,97,99]:aa))) else false)) then some (kW,x) else aaJ R a k kW x))))))))
theorem TG(R:bg)(b:aa)(a:bt)(d:Bool)(j k:Int×ah->Option (Int×ah))(kW:Int)(x:ah):Aa R b a d j k (kW,x)=(bif(decide (x.2.2.2.2.1=0)) then
 (au (g6 x) λ(c:ah)=>Nb R b a d j k kW (c.1,c.2.1,c.2.2.1,x.2.2.2.1,c.2.2.2.2.1,c.2.2.2.2.2.1,c.2.2.2.2.2.2.1,x.2.2.2.2.2.2.2.1,c.2.2.2.2.2.2.2.2)) else j (kW,x)):=rfl
theorem anI(R:bg)(x0:ah)(b:aa)(a:bt)(c:Bool):EA R x0 b a c=fixF (Aa R b a c (v5 c)) bC (0,x0):=rfl
def tG(c:Ctx)(no:Bool):Bool:=xf c no||(decide (c= .text)&&no)
theorem aaK(r:aa):bs r≠[119]:=by
 intro h;have ad:(lg.find? λo=>o.isPrefixOf r)=some [119]\/¬(lg.find? λo=>o.isPrefixOf r)=some [119]:=Classical.em _;rcases ad with ad|ad
 ·have:=List.mem_of_find?_eq_some ad;revert this;decide
 ·unfold bs at h;cases a:(lg.find? λo=>o.isPrefixOf r) with
  |none=>grind
  |some o=>grind
theorem anJ{c:Ctx}{no:Bool}(aF:tG c no=true){r:aa}(h:dr r)(k:r≠[])(n:Nat)(a:Bool)(i:a=(if((decide (0<(n:Int)))=true/\(bif(bif(decide (bs r=ju c)) then(!(decide (ju c=[]))) else false) then(bif(decide (0<(n:Int))) then true else(!(!no))) else false)=false) then(oR c).contains (i_ r) else false)):
  (bif(bif(bif(bif(decide (bs r=ju c)) then(!(decide (ju c=[]))) else false) then(bif(decide (0<(n:Int))) then true else(!(!no))) else false) then true else(bif(decide (0<(n:Int))) then a else false)) then true else(bif(decide (ju c=([59,59]:aa))) then(decide (i_ r=([101,115,97,99]:aa))) else false))=((no||decide (n>0))&&dG c (ar r)):=by
 have aw:decide (0<(n:Int))=decide (n>0):=by simp
 rw[aw] at i⊢;subst i
 have e:∀j,ju j=[119]->decide (bs r=ju j)=false:=by grind[aaK]
 have l:decide (([119]:aa)=[59,59])=false:=by decide
 have m:∀{w:aa},w≠[]->w.all gp=true->(i_ r=w↔ar r= .word w true):=λad f=>rJ h ad f
 have d:∀{w:aa},w≠[]->w.all gp=true->cA (ar r) w=decide (i_ r=w):=λad f=>(IU h ad f).symm
 have g:∀{o:aa},o≠[]->(ar r== .op o)=decide (bs r=o):=by grind[mN]
 cases c with
 |text=>grind[dG,lG,ju,oR]
 |paren=>have:dG .paren (ar r)=decide (bs r=[41]):=g (by simp);grind[ju,oR]
 |item=>
  have b:no=true:=by grind[tG,xf]
  subst b;have:dG .item (ar r)=(decide (bs r=[59,59])||decide (i_ r=eo)):=by show(ar r== .op [59,59]||cA (ar r) eo)=_;grind[I6]
  grind[ju,oR,eo]
 |qU=>
  have b:no=false:=by grind[tG,xf]
  subst b;have:dG .qU (ar r)=decide (i_ r=[125]):=d MZ.1 MZ.2;rw[this,e _ rfl];grind[ju,oR]
 |rB=>
  have b:no=false:=by grind[tG,xf]
  subst b;have:dG .rB (ar r)=decide (i_ r=iE):=d MY.1 MY.2;rw[this,e _ rfl];grind[ju,oR]
 |qc=>
  have b:no=false:=by grind[tG,xf]
  subst b;have:dG .qc (ar r)=(decide (i_ r=ig)||decide (i_ r=hS)||decide (i_ r=eU)):=by show(cA (ar r) ig||cA (ar r) hS||cA (ar r) eU)=_;grind[Tj,Ti,CU]
  rw[this,e _ rfl];grind[ju,oR]
 |kj=>
  have b:no=false:=by grind[tG,xf]
  subst b;have:dG .kj (ar r)=decide (i_ r=eU):=d CU.1 CU.2;rw[this,e _ rfl];grind[ju,oR]
 |pB=>
  have b:no=false:=by grind[tG,xf]
  subst b;have:dG .pB (ar r)=decide (i_ r=gD):=d vY.1 vY.2;rw[this,e _ rfl];grind[ju,oR]
 |done=>
  have b:no=false:=by grind[tG,xf]
  subst b;have:dG .done (ar r)=decide (i_ r=ih):=d FG.1 FG.2;rw[this,e _ rfl];grind[ju,oR]
theorem anL{c:Ctx}{no:Bool}(aF:tG c no=true){r:aa}(d:dr r){o:aa}(a:ar r= .op o):(bif(decide (bs r=ju c)) then(!(decide (ju c=[]))) else false)=dG c (.op o):=by
 have b:=(il a).1;have bc:=(il a).2.2.2;subst b;cases c with
 |text=>simp[ju,dG]
 |paren=>grind[ju,dG]
 |item=>grind[ju,dG,cA]
 |_=>simp[ju,dG,cA,aaK]
theorem anM{c:Ctx}{r:aa}(h:bs r=[]):(bif(decide (bs r=ju c)) then(!(decide (ju c=[]))) else false)=false:=by grind
def tH(c2:ak Unit)(c:Ctx)(no:Bool)(n:Nat):ak Nat:=ae (cS.aK (if no||n>0 then [] else [120])) λ_=>b8 (eN c2 c no) n
theorem Nd{c2:ak Unit}{c:Ctx}{no:Bool}{n:Nat}{r r1:aa}{pd:ao}(a:bp r=some r1)(b:ar r1≠ .line):tH c2 c no n r pd=b8 (eN c2 c no) n r1 pd:=by unfold tH;rw[aM (pL (rE a b))]
theorem anN{c2:ak Unit}{c:Ctx}{no:Bool}{n:Nat}{r:aa}{pd:ao}(a:bp r=none):tH c2 c no n r pd= .more [] (cQ [] pd (if no||n>0 then [] else [120])).1 (cQ [] pd (if no||n>0 then [] else [120])).2:=by
 unfold tH;have:cS r pd= .more [] [] pd:=by rw[qk,cm];have:gE false r pd= .more [] (cQ [] pd []).1 (cQ [] pd []).2:=de (iG a);rw[this];rfl
 grind[de,sG]
theorem anO{r t:aa}{pd:ao}(e:bp r=some (10::t)):(∃a b r' d,cS r pd= .ok a r' d/\ae iV (λ_=>cS) (10::t) pd= .ok b r' d)\/cS r pd=ae iV (λ_=>cS) (10::t) pd:=by
 have ad:cS r pd=cK gE r (ae iV (λ_=>aX (.inl true)) (10::t) pd):=by rw[qk,cm,tk e]
 have g:=(dT e).length_le;cases hm:iV (10::t) pd with
 |ok a r1 c=>
  obtain⟨i,_⟩:=SJ hm;have hl:r1.length<r.length:=by grind
  rw[ad,aM hm,aM hm];have f:cK gE r (aX (.inl true) r1 c)=b8 gE true r1 c:=by show(if r1.length<r.length then b8 gE true r1 c else _)=_;grind
  rw[f,qk];rcases XU r1.length true r1 c (cV _) with⟨r',d,⟨x,j⟩,y,k⟩|h
  ·grind
  grind
 |more op nd ds=>right;rw[ad,de hm,de hm];rfl
 |bad q=>right;rw[ad,g1 hm,g1 hm];rfl
 |deep q=>right;rw[ad,jP hm,jP hm];rfl
theorem anP{c2:ak Unit}{c:Ctx}{no:Bool}{n:Nat}{r t:aa}{pd:ao}(a:bp r=some (10::t)):tH c2 c no n r pd=ae (iV.aK (if no||n>0 then [] else [120])) (λ_=>tH c2 c no n) (10::t) pd:=by
 have hk:ae (iV.aK (if no||n>0 then [] else [120])) (λ_=>tH c2 c no n)=ae ((ae iV (λ_=>cS)).aK (if no||n>0 then [] else [120])) (λ_=>b8 (eN c2 c no) n):=by rw[I1,kr];rfl
 rw[hk];unfold tH;grind[anO,ae,ak.aK]
theorem anQ(c2:ak Unit)(c:Ctx)(no:Bool):oe c2 c no=tH c2 c no 0:=by simp[qX,tH]
theorem aaL{r r1:aa}{k:Nat}{pd b:ao}{a:Unit}(hk:0<k)(c:r≠[])(h:bU k r pd= .ok a r1 b):r1.length<r.length:=by cases h;grind[List.length_pos_iff]
theorem anR{l:dS}(hl:uC l){r:aa}{pd:ao}{a:Unit}{r':aa}{b:ao}(aF:hv (ar r)=true)(h:g0 l (ar r) r pd= .ok a r' b):r'.length<r.length:=by
 have g:r≠[]:=by rintro rfl;grind[ar,hv]
 cases c:ar r with
 |eof=>rw[c] at h;cases h
 |line=>rw[c] at h;cases h
 |op o=>rw[c] at h;have d:ae (bU 1) (λ_=>ae ((l.ls .paren false).aK [41]) λ_=>ji [41]) r pd= .ok a r' b:=h;obtain⟨_,r1,i,ad,e⟩:=b1 d;have f:aq (ae ((l.ls .paren false).aK [41]) λ_=>ji [41]):=((hl.ls _ _).aK _).ae λ_=>aq.op _;have:=(f.sfx e).length_le;have:=aaL (by decide) g ad;omega
 |word w p=>
  rw[c] at h aF;have j:w≠[]:=by rintro rfl;cases p<;>simp[hv] at aF;revert aF;decide
  have d:ae (bU w.length) (λ_=>yW l w) r pd= .ok a r' b:=h;obtain⟨_,r1,i,ad,e⟩:=b1 d;have f:aq (yW l w):=by unfold yW;refine aq.ite (((hl.ls _ _).aK _).ae λ_=>aq.res _) (aq.ite (aq.cond hl) (aq.ite (aq.for_ hl hl.dl) (aq.ite (aq.w3 hl hl.dl) (((hl.ls _ _).aK _).ae λ_=>aq.body hl _))))
  have k:yW l w r1 i= .ok a r' b:=e;have:=(f.sfx k).length_le;have:=aaL (Jy.2 j) g ad;omega
theorem anS{n:Nat}{r:aa}{pd:ao}{a:Unit}{r':aa}{x:ao}(h:fx true (jt true n) (a7 true n) r pd= .ok a r' x):r'.length<r.length:=by
 have hD:=l8 true n;have j2:=Jf n;unfold fx at h;obtain⟨t,r1,k,ad,c⟩:=b1 h;obtain⟨s,rfl,rfl⟩:=nv ad;have G:=(dT s).length_le;split at c
 ·cases c
 ·rename_i bc;split at c
  ·rename_i aF;obtain⟨_,g,i,e,d⟩:=b1 c;have a2:=((aq.mG hD).sfx d).length_le;cases n with
   |zero=>cases e
   |succ m=>
    have u:((g0 (aR true m) (ar r1)).named (mC (ar r1))) r1 k= .ok () g i:=e;have j:g0 (aR true m) (ar r1) r1 k= .ok () g i:=by grind[ak.named]
    have:=anR (qY true m) aF j;omega
  ·have H:r1≠[]:=λy=>bc (lG.2 y);have l:bp r1=some r1:=kR _ _ _ (cV _) s;cases f:ar r1 with
   |eof=>grind
   |line=>rw[f] at c;cases c
   |op o=>
    rw[f] at c;simp only at c;split at c
    ·rename_i z;obtain⟨b,g,i,e,d⟩:=b1 c;have a2:=((aq.simple hD true).sfx d).length_le;have A:=(il f).1;subst A;have B:=Jc l (by grind[MD]) e;subst B;have:=su hD e;omega
    ·cases c
   |word w p=>
    rw[f] at c;simp only at c;split at c
    ·cases c
    ·obtain⟨b,g,i,e,d⟩:=b1 c;cases b with
     |true=>simp only[cE] at d;have a2:=((aq.simple hD true).sfx d).length_le;have:=su hD e;omega
     |false=>
      simp only[eB,cn] at d;have C:g=r1/\i=k:=by
       cases z:eV (bs (r1.dropWhile b_)) with
       |true=>grind[Jc]
       |false=>simp_all[uL]
      obtain⟨rfl,rfl⟩:=C;obtain⟨_,I,J,u,j⟩:=b1 d;have a3:=vF hD (yJ l f).1 (yJ l f).2 u;split at j
      ·obtain⟨t,K,L,D,q⟩:=b1 j;obtain⟨E,rfl,rfl⟩:=nv D;have M:=(dT E).length_le;split at q
       ·rename_i N;obtain⟨_,O,P,F,v⟩:=b1 q;have Q:=((dX.function (fr:=true) j2).sfx F).length_le;simp only[cE] at v;cases v;omega
       ·have:=((aq.simple hD true).sfx q).length_le;omega
      ·have:=((aq.simple hD true).sfx j).length_le;omega
theorem anT{σ α:Type}{f:σ->ak (σ⊕α)}(hf:∀s r pd x r' c,f s r pd= .ok x r' c->r'.length<=r.length):∀(N:Nat)(s:σ)(r:aa)(pd:ao)(a:α)(r':aa)(c:ao),r.length<=N->b8 f s r pd= .ok a r' c->r'.length<=r.length:=by
 intro N;induction N with
 |zero=>
  intro s r pd a r' c aw h;rw[cm] at h;cases hm:f s r pd with
  |ok x r1 d=>
   rw[hm] at h;have:=hf _ _ _ _ _ _ hm;cases x with
   |inl s'=>simp_all[cK]
   |inr b=>cases h;omega
  |more op nd ds=>rw[hm] at h;cases h
  |bad q=>rw[hm] at h;cases h
  |deep q=>rw[hm] at h;cases h
 |succ N e=>
  intro s r pd a r' c aw h;rw[cm] at h;cases hm:f s r pd with
  |ok x r1 d=>
   rw[hm] at h;have:=hf _ _ _ _ _ _ hm;cases x with
   |inl s'=>unfold cK at h;grind
   |inr b=>cases h;omega
  |more op nd ds=>rw[hm] at h;cases h
  |bad q=>rw[hm] at h;cases h
  |deep q=>rw[hm] at h;cases h
theorem aaM{p:Tok->Bool}{w:Nat}{da:ak Unit}(c:aq da){r:aa}{pd:ao}{a:Unit}{r':aa}{b:ao}(h:qu p w da r pd= .ok a r' b):r'.length<=r.length:=by unfold qu at h;refine anT (λs r pd x r' b h=>?_) _ _ _ _ _ _ _ (cV _) h;have ad:aq (ae (bM []) λt=>if p t=true then ae (bU w) λ_=>ae (cS.aK [120]) λ_=>ae da λ_=>(aX (.inl ()):ak (Unit⊕Unit)) else aX (.inr ())):=(aq.dH _).ae λt=>aq.ite ((aq.dj _).ae λ_=>(aq.lines.aK _).ae λ_=>c.ae λ_=>aq.ret _) (aq.ret _);exact(ad.sfx h).length_le
theorem anU{n:Nat}{r:aa}{pd:ao}{a:Unit}{r':aa}{c:ao}(h:fi (fx true (jt true n) (a7 true n)) r pd= .ok a r' c):r'.length<r.length:=by
 rw[TC] at h;have d:aq (fx true (jt true n) (a7 true n)):=aq.command (λl hl=>Jf n l hl) (l8 true n);obtain⟨t,r1,m,ad,e⟩:=b1 h;obtain⟨f,rfl,rfl⟩:=nv ad;have o:=(dT f).length_le;obtain⟨_,g,p,b,i⟩:=b1 e;have a2:g.length<=r1.length:=by
  split at b
  ·cases b;simp
  ·cases b;omega
 obtain⟨_,q,s,j,k⟩:=b1 i;have a3:=anS j;have u:=aaM d k;omega
theorem anV{n:Nat}{r:aa}{pd:ao}{a:Unit}{r':aa}{b:ao}(h:hB (fi (fx true (jt true n) (a7 true n))) r pd= .ok a r' b):r'.length<r.length:=by rw[TD] at h;have c:aq (fi (fx true (jt true n) (a7 true n))):=aq.pipe (aq.command (λl hl=>Jf n l hl) (l8 true n));obtain⟨_,f,g,d,e⟩:=b1 h;have a3:=anU d;have i:=aaM c e;omega
def tI(no:Bool)(k:Nat):aa:=if no||k>0 then [] else [120]
theorem Nf{no:Bool}{k:Nat}(st:ah):v5 (!no) ((k:Int),st)=if no||k>0 then some ((k:Int),st) else au (gv st [] [120]) λy=>some ((k:Int),y):=by unfold v5;grind
theorem TH{e:ca}{r r0:aa}{nd:aa}{ds:ao}{st:ah}{a:ao}{no:Bool}{k:Nat}{q:Bool}(h0:cB e r a)(hm:iI false e r nd ds st)(h:r<:+r0)(c:nd.length+eh ds<=100*e.S.length+500):∃b,v5 (!no) ((k:Int),st)=some b/\iI q e r0 (cQ nd ds (tI no k)).1 (cQ nd ds (tI no k)).2 b.2:=by
 rw[Nf];unfold tI;split
 ·exact⟨_,rfl,(hm.mono h).up⟩
 ·obtain⟨d,f,g⟩:=FH (q:=q) (x:=[120]) h0 hm h c (by decide);simp_all[aQ]
theorem aaN{e:ca}{r:aa}{st:ah}{no:Bool}{k:Nat}(hm:iQ e r st):v5 (!no) ((k:Int),st)=some ((k:Int),st):=by
 rw[Nf];split
 ·rfl
 ·rw[rL hm];rfl
section
variable{R:bg}{n:Nat}(gL:∀k m,n=m+1+k->kt R m/\oo R m)(hD:kt R n)(aw:n<=30){e:ca}(bc:e.ne=30- (n:Int)){c:Ctx}{no:Bool}(aF:tG c no=true)
noncomputable abbrev Ng(R:bg)(c:Ctx)(no:Bool):(Int×ah->Option (Int×ah))->Int×ah->Option (Int×ah):=Aa R (ju c) (oR c) (!no) (v5 (!no))
abbrev uQ(n:Nat):ak Unit:=hB (fi (fx true (jt true n) (a7 true n)))
include aF
theorem aaO(h:c= .text):no=true:=by grind[tG,xf]
theorem aaP{k:Int×ah->Option (Int×ah)}{m:Nat}{r:aa}{d pd:ao}(h:cB e r d)(j:eh pd<=100*e.S.length+400):∃b,Nb R (ju c) (oR c) (!no) (v5 (!no)) k (m:Int) (e.tt pd)=some b/\iI (decide (c= .text)) e r (cQ [] pd (tI no m)).1 (cQ [] pd (tI no m)).2 b.2:=by
 unfold Nb;rw[oS,aQ rfl];simp only[aJ];by_cases a:c= .text
 ·have f:=aaO aF a;subst a f;have hk:decide (ju .text=[])=true:=rfl;rw[hk,Nf];exact⟨((m:Int),e.tt pd),rfl,.inr ⟨rfl,rfl,rfl⟩⟩
 ·have hk:decide (ju c=[])=false:=by cases c<;>first|rfl|grind
  rw[hk,e3 a];simp only[e2,aJ];obtain⟨l,g,i⟩:=FK (pd:=pd) (x:=[]) h (by omega) (by simp);rw[g,aQ rfl];exact TH h i.s fM (by grind)
theorem anW{N m:Nat}{r:aa}{a pd:ao}(i:0<N)(h:cB e r a)(d:eh pd<=100*e.S.length+400):∃b,fixF (Ng R c no) N ((m:Int),e.tt pd)=some b/\iI (decide (c= .text)) e r (cQ [] pd (tI no m)).1 (cQ [] pd (tI no m)).2 b.2:=by
 obtain⟨f,rfl⟩:∃m,N=m+1:=⟨N-1,by omega⟩
 rw[e7];show∃b,Aa R (ju c) (oR c) (!no) (v5 (!no)) _ ((m:Int),e.tt pd)=some b/\_
 rw[TG];have g:(e.tt pd).2.2.2.2.1=0:=rfl;rw[g,CG,aQ rfl];simp only[bw,aJ];exact aaP aF h d
theorem anY{N:Nat}{m:Int}{st:ah}(b:0<N)(h:st.2.2.2.2.1≠0):fixF (Ng R c no) N (m,st)=v5 (!no) (m,st):=by
 obtain⟨a,rfl⟩:∃m,N=m+1:=⟨N-1,by omega⟩
 rw[e7];show Aa R (ju c) (oR c) (!no) (v5 (!no)) _ (m,st)=_;simp_all[TG]
include gL hD aw bc
theorem anZ:∀(N m:Nat)(r:aa)(pd:ao)(st:ah),r.length+1<N->m+r.length<=1000001->cB e r pd->fY e r pd st->bL (decide (c= .text)) e r (tH (uQ n) c no m r pd) (λb=>b.2) (λa _ b=>b.1=(a:Int)) (fixF (Ng R c no) N ((m:Int),st)):=by
 intro N;induction N with
 |zero=>omega
 |succ N T=>
  intro m r pd st nS hm D E;have K:0<N:=by omega
  rw[e7];have TI:∀(m:Nat)(r:aa)(gn pd:ao),cB e r gn->eh pd<=100*e.S.length+400->_:=λm r gn pd h U=>anW (R:=R) (N:=N) (m:=m) aF K h U
  have V:∀(m:Int)(st:ah),st.2.2.2.2.1≠0->_:=λm st h=>anY (R:=R) (N:=N) (m:=m) aF K h
  generalize fixF (Ng R c no) N=k at T TI V;show bL _ e r _ _ _ (Aa R (ju c) (oR c) (!no) (v5 (!no)) k ((m:Int),st));rw[TG,E.eta.2.2.2.2.1];simp only[bw,aJ];obtain⟨y,tV,bx⟩:=xo D E;rw[tV,aQ rfl,FQ bx E];rcases bx with⟨ay,tr,L,rfl,g2,i,z,ib⟩|⟨L,rfl⟩
  ·have Ar:=z.length_le;unfold Nb;rw[qt,aQ rfl,Fy i];by_cases Y:ay=[]
   ·subst Y;simp only[bw,aJ];rw[Nd L (by decide)];rw[cm];by_cases ht:c= .text
    ·have jT:=aaO aF ht;subst ht jT;have hk:decide (ju .text=[])=true:=rfl;have M:eN (uQ n) .text true m [] pd= .ok (.inr m) [] pd:=by unfold eN;rw[aM (ch ib)];rfl
     rw[hk,Nf,M];exact⟨_,rfl,z,i,⟨tr,rfl,g2⟩,rfl⟩
    ·have hk:decide (ju c=[])=false:=by cases c<;>first|rfl|grind
     have M:eN (uQ n) c no m [] pd= .more [] (cQ [] pd (tI no m)).1 (cQ [] pd (tI no m)).2:=by unfold eN;rw[aM (ch ib),bh (by decide),aO ht];rfl
     rw[hk,M];simp only[e2,aJ];obtain⟨aP,Z,bl⟩:=uM (tr:=tr) (x:=[]) i (by decide);rw[Z,aQ rfl];have:=i.jM;obtain⟨b,A,p⟩:=TH (no:=no) (k:=m) (q:=decide (c= .text)) i bl.s z (by show([]:aa).length+eh pd<=_;omega);exact⟨b,A,p⟩
   ·rw[e3 Y];simp only[aU];rw[aQ rfl];have pH:ar ay≠ .eof:=λhh=>Y (lG.1 hh);have dv:=i.nl.h7 i.sfx;cases ay with
    |nil=>grind
    |cons b t=>
     simp only[y9,pF];by_cases Jd:b=10
     ·
      subst Jd;simp only[bw,aJ];rw[anP L];obtain⟨bV,bD,j⟩:=Zv (q:=false) (tr:=tr) i;rw[bD,aQ rfl];have hE:=aH.low (aH.nl (c:=0)) i;cases s:iV (10::t) pd with
      |ok a r1 aD=>rw[s] at j;obtain⟨cU,a2,a3,_⟩:=j;rw[aM (pL s)];have j7:=(SJ s).1.length_le;simp only[mo] at Ar;exact(T m r1 aD bV (by omega) (by omega) a2 a3).mono (cU.trans z)
      |more op nd ds=>rw[s] at j;rw[de (sG s),V _ _ (by rw[j.z.1];decide)];have U:=hE _ _ _ s;obtain⟨F,A,p⟩:=TH (no:=no) (k:=m) (q:=decide (c= .text)) i j z (by omega);exact⟨F,A,p⟩
      |bad u=>rw[s] at j;rw[g1 (uN s),V _ _ (by rw[j.1];decide),aaN j];exact⟨_,rfl,j.mono z⟩
      |deep u=>rw[s] at j;rw[jP (uO s),V _ _ (by rw[j.1];decide),aaN j];exact⟨_,rfl,j.mono z⟩
     ·simp only[Jd,bF,aU];have an0:ar (b::t)≠ .line:=by rw[CI,aO Jd];grind
      rw[Nd L an0,rK i,aQ rfl,vV i,aQ rfl,My _ _ (by cases c<;>decide),fX,anJ aF dv Y m _ rfl];rw[cm]
      have TJ:∀X,(X=eN (uQ n) c no m (b::t) pd)->X=(if((no||decide (m>0))&&dG c (ar (b::t)))=true then aX (.inr m) else ae (uQ n) λ_=>ae (bM []) (ik c m)) (b::t) pd:=by rintro X rfl;unfold eN;rw[aM (ch ib),aO pH]
      rw[TJ _ rfl];cases asd:((no||decide (m>0))&&dG c (ar (b::t))) with
      |true=>simp only[aJ,cE];exact⟨_,rfl,z,i,⟨tr,rfl,g2⟩,rfl⟩
      |false=>
       simp only[aU,eB,cn];unfold aaJ;have O:W ((m:Int)+1)=((m+1:Nat):Int):=by grind[dV]
       refine bL.iH (C:=cK _ (b::t)) c3.k ((anH gL hD aw bc i ⟨tr,rfl,g2⟩).mono z) (λa cu d iY bI iX eT yR _=>?_) (λop nd ds iY CO oJ=>?_) (λiY kv=>?_)
       ·have eP:=anV bI;rw[yR.eta.2.2.2.2.1];simp only[bw,g9,aU];obtain⟨kL,an1,Ky⟩:=xo eT yR;rw[an1,aQ rfl,FQ Ky yR];unfold TF;rw[O];rcases Ky with⟨P,l,e5,rfl,MU,w,xi,CP⟩|⟨e5,rfl⟩
        ·have ase:=xi.length_le;have I:P<:+r:=xi.trans iX;have nz:P.length<(b::t).length:=by omega
         have J:=T (m+1) P d (e.st P d l) (by omega) (by omega) w ⟨l,rfl,MU⟩;rw[aM (ch e5),rK w,aQ rfl,qt,aQ rfl,Fy w];have asf:(no||decide (m+1>0))=true:=by simp
         cases P with
         |nil=>
          simp only[bw,cP,tK,cn,aJ];rw[Nd (r1:=[]) CP (by decide)] at J;have:cK (eN (uQ n) c no) (b::t) (ik c m (ar []) [] d)=b8 (eN (uQ n) c no) (m+1) [] d:=by rfl
          rw[this];exact J.mono I
         |cons g f=>
          rw[e3 (show¬(g::f=[]) by simp),fX];simp only[cE,aU,y9,pF]
          have sA:∀(x:aa)(Nh:ao),x.length<(b::t).length->cK (eN (uQ n) c no) (b::t) (ae cS (λ_=>aX (.inl (m+1))) x Nh)=tH (uQ n) c no (m+1) x Nh:=by
           intro x Nh E;unfold tH;rw[bh (by simp)];cases B:cS x Nh with
           |ok eY eL lj=>rw[aM B,aM (pL B)];have br:=(aq.lines.sfx B).length_le;show(if eL.length<(b::t).length then b8 (eN (uQ n) c no) (m+1) eL lj else .bad eL)=_;grind
           |more op nd ds=>rw[de B,de (sG B)];rfl
           |bad q=>rw[g1 B,g1 (uN B)];rfl
           |deep q=>rw[jP B,jP (uO B)];rfl
          have q9:∀X:dD Nat,X= .bad (g::f)->bL (decide (c= .text)) e r X (λb=>b.2) (λa _ b=>b.1=(a:Int)) (au (hr (e.st (g::f) d l) (e.st (g::f) d l).2.1) λ(G:ah)=>
            some (((m+1:Nat):Int),(G.1,G.2.1,G.2.2.1,(e.st (g::f) d l).2.2.2.1,G.2.2.2.2.1,G.2.2.2.2.2.1,G.2.2.2.2.2.2.1,(e.st (g::f) d l).2.2.2.2.2.2.2.1,G.2.2.2.2.2.2.2.2))):=by
           rintro X rfl;obtain⟨aP,Z,bl⟩:=pK (tr:=l) (e.st (g::f) d l).2.1 w I;rw[Z,aQ rfl];exact⟨_,rfl,by cases Z;exact bl⟩
          rcases I0 (b:=g) (t:=f) with⟨Q,S⟩|⟨Q,S,H⟩|⟨Q,S,H⟩
          ·subst Q;simp only[bw,aJ];rw[S];show bL _ e r (cK _ (b::t) (ae cS (λ_=>aX (.inl (m+1))) (10::f) d)) _ _ _;rw[sA _ _ nz];exact J.mono I
          ·simp only[Q,bF,aU];rw[anL aF (w.nl.h7 w.sfx) H,H];unfold ik;dsimp only;by_cases kV:bs (g::f)=[59]\/bs (g::f)=[38]
           ·have j5:dG c (.op (bs (g::f)))=false:=by rcases kV with kV|kV<;>rw[kV]<;>cases c<;>rfl
            rw[j5,bh kV];have xT:(bif !decide (bs (g::f)=[59]) then !decide (bs (g::f)=[38]) else false)=false:=by grind
            rw[xT];simp only[aU];have RM:(bs (g::f)).length=1:=by grind
            obtain⟨v,D⟩:=(il H).2.1;have an2:=(il H).2.2.1;have an3:=(il H).2.2.2;generalize bs (g::f)=o at*;rw[<-D] at w nz I⊢;have gH:v<:+o++v:=gS o v;have kE:setAt (e.st (o++v) d l) (W ((e.st (o++v) d l).2.1+1))=e.st v d l:=sH w 1 RM;have TB:bU 1 (o++v) d= .ok () v d:=by grind[bU]
            have R5:=gH.length_le;rw[kE,aM TB,sA _ _ (by omega)];have sB:=w.tE an3 an2;exact(T (m+1) v d (e.st v d l) (by omega) (by omega) (w.mono gH) ⟨l,rfl,λhh=>absurd hh sB⟩).mono (gH.trans I)
           ·rw[aO kV];have xT:(bif !decide (bs (g::f)=[59]) then !decide (bs (g::f)=[38]) else false)=true:=by grind
            rw[xT];cases j5:dG c (.op (bs (g::f))) with
            |true=>
             simp only[aJ,cE];rw[Nd CP (by grind),cm] at J;have M:eN (uQ n) c no (m+1) (g::f) d= .ok (.inr (m+1)) (g::f) d:=by unfold eN;rw[aM (ch CP),if_neg (by grind),if_pos (by grind)];rfl
             rw[M] at J;exact J.mono I
            |false=>simp only[cond_false,cond_true,Bool.false_eq_true,if_false];exact q9 _ rfl
          ·simp only[Q,decide_false,cond_false];rw[anM S,H,S];simp only[cond_false];exact q9 _ rfl
        ·rw[de (op:=[]) (nd:=[]) (ds:=d) (by rw[iG e5];rfl),Fz d D.bZ,aQ rfl,oS,aQ rfl];simp only[cP,tK,cn,aJ];have:=eT.jM;obtain⟨F,A,p⟩:=TI (m+1) cu d d eT (by omega);have E:tI no (m+1)=[]:=by simp[tI]
         rw[E] at p;exact⟨F,A,p.mono iX⟩
       ·rcases oJ with oJ|⟨_,rfl,U⟩
        ·rw[oJ.1];simp only[show¬((1:Int)=0) by decide,bF,e2,aJ];exact⟨_,rfl,.inl oJ⟩
        ·subst U;have iZ:(e.tt ds).2.2.2.2.1=0:=rfl;rw[iZ,CG,aQ rfl];simp only[bw,g9,aU];have IF:((e.tt ds).1,(e.tt ds).2.1,(e.tt ds).2.2.1,(e.tt ds).2.2.2.1,(e.tt ds).2.2.2.2.1,(e.tt ds).2.2.2.2.2.1,(e.tt ds).2.2.2.2.2.2.1,(e.tt ds).2.2.2.2.2.2.2.1,(e.tt ds).2.2.2.2.2.2.2.2)=e.tt ds:=rfl;rw[IF];unfold TF;rw[Fz ds D.bZ,aQ rfl,oS,aQ rfl,O];simp only[cP,tK,cn,aJ];have tp:=aH.low (aH.pE (aaI gL hD aw bc).pb) i _ _ _ CO;obtain⟨F,A,p⟩:=TI (m+1) r pd ds D (by omega);have E:tI no (m+1)=[]:=by simp[tI]
         rw[E] at p;exact⟨F,A,p⟩
       ·rw[kv.1];grind
  ·rw[anN L];have:=D.jM;obtain⟨F,A,p⟩:=aaP (R:=R) (m:=m) (k:=k) aF D (pd:=pd) (by omega);exact⟨F,A,p⟩
end
theorem an4(n:Nat)(c:Ctx)(no:Bool):(aR true n).ls c no=oe (uQ n) c no:=by cases n<;>rfl
theorem aaS{R:bg}{n:Nat}(gL:∀k m,n=m+1+k->kt R m/\oo R m)(hD:kt R n)(aw:n<=30){e:ca}(bc:e.ne=30- (n:Int)){c:Ctx}{no:Bool}(aF:tG c no=true){r:aa}{pd:ao}{st:ah}(h:cB e r pd)(d:fY e r pd st):bL (decide (c= .text)) e r ((aR true n).ls c no r pd) (λb=>b.2) (λa _ b=>b.1=(a:Int)) (EA R st (ju c) (oR c) (!no)):=by rw[an4,anQ,anI];have ad:=h.bZ;have f:=h.sfx.length_le;grind[anZ,vU]
theorem TK:∀(k n:Nat),n<=30->(2*n+1<=k->kt (kD k) n)/\(2*n+2<=k->oo (kD k) n):=by
 intro k;induction k with
 |zero=>omega
 |succ k a=>
  intro n aw;refine⟨λh=>⟨λe bc t pd tr b=>?_⟩,λh=>⟨λe c no aF bc r pd st b d=>?_⟩⟩
  ·exact alV (R:=kD k) (λm hm=>⟨(a m (by omega)).1 (by omega),(a m (by omega)).2 (by omega)⟩) aw bc b
  ·have f:decide (c= .text)=false:=e3 (by rintro rfl;cases aF);have:=aaS (R:=kD k) (λj m hm=>⟨(a m (by omega)).1 (by omega),(a m (by omega)).2 (by omega)⟩) ((a n aw).1 (by omega)) aw bc (c:=c) (no:=no) (by grind[tG]) b d;rw[f] at this;exact this
theorem TL(s:aa):dr (df s):=by
 unfold df;split
 ·rename_i h;right;rcases List.eq_nil_or_concat s with rfl|⟨t,b,rfl⟩
  ·grind
  grind
 ·exact .inr ⟨s,rfl⟩
theorem Jh(s:aa):df s≠[]:=by
 unfold df;split
 ·grind
 ·simp
theorem an5(s:aa)(a:s.length<=1000000)(b:Bool):(bif b then some s else(aZ (((s.length+([10]:aa).length:Nat):Int)<=9223372036854775807)<|some (s++([10]:aa))))=some (bif b then s else s++[10]):=by
 cases b with
 |true=>rfl
 |false=>exact(aU _ _).trans (Zl s a)
theorem an6(s:aa)(a:s.length<=1000000):EG s=some (df s):=by
 unfold EG;rw[an5 s a];unfold df;rcases List.eq_nil_or_concat s with rfl|⟨t,b,rfl⟩
 ·decide
 ·rw[List.concat_eq_append] at*;have hl:(t++[b]).length=t.length+1:=by simp
  have c:W (((t++[b]).length:Int)-1)=(t.length:Int):=by grind[dV]
  have d:at' (t++[b]) (t.length:Int)=b:=by simp[at']
  simp only[c,d,pF];rw[bS (by omega)];simp
def e0(S:aa):ca:=⟨S,0⟩
theorem an7{s:aa}(d:(df s).length<=1000000):bL true (e0 (df s)) (df s) (gm true 30 (df s)) (λb=>b.2) (λa _ b=>b.1=(a:Int)) (sn.nI (df s,0,0,([]:ao),0,0,[],([]:bt),false) ([]) ([]:bt) false):=by
 have hk:∃k,bC=k+1/\62<=k:=by
  refine⟨bC-1,?_,?_⟩
  ·rw[gg]
  simp[gg]
 obtain⟨k,hk,f⟩:=hk;have g:cB (e0 (df s)) (df s) []:=⟨d,TL s,Jh s,fM,by simp[e0,eh,lE]⟩;have:=aaS (R:=kD k) (n:=30) (e:=e0 (df s)) (λj m hm=>⟨(TK k m (by omega)).1 (by omega),(TK k m (by omega)).2 (by omega)⟩) ((TK k 30 (by omega)).1 (by omega)) (cV _) (show(0:Int)=30- ((30:Nat):Int) by decide) (c:= .text) (no:=true) rfl g (st:=(e0 (df s)).st (df s) [] false) ⟨false,rfl,λh=>absurd h (Jh s)⟩;have i:(e0 (df s)).st (df s) [] false=(df s,0,0,([]:ao),0,0,[],([]:bt),false):=by show(df s,ax (df s) (df s),(0:Int),([]:ao),(0:Int),(0:Int),([]:aa),([]:bt),false)=_;rw[Iv]
 rw[i] at this;have l:sn.nI (df s,0,0,([]:ao),0,0,[],([]:bt),false) [] [] false=EA (kD k) (df s,0,0,([]:ao),0,0,[],([]:bt),false) [] [] false:=by unfold sn;rw[hk];rfl
 rw[l];exact this
theorem an8{fr:Bool}{m:Nat}{u:aa}{k:Nat}{r:aa}{pd:ao}(hu:dr u)(d:u≠[])(h:gm fr m u= .ok k r pd):r=[]/\pd=[]:=by
 have e:=XT h;subst e;refine⟨rfl,?_⟩;unfold gm at h;rw[w4,qX] at h;obtain⟨b,r1,i,ad,f⟩:=b1 h;have a:=gK.1 ad;by_cases c:r1=[]
 ·subst c;rw[qk] at a;obtain⟨j,_,_⟩:=XH _ _ _ _ _ _ (cV _) hu d a;grind[cm,Ik,cK]
 ·have g:dr r1:=hu.h7 (aq.lines.sfx a);exact(XJ fr m .text true _ _ _ _ _ _ (cV _) g c f).1
noncomputable def Ni(c:Int):ah->Option (ah×Int):=λx=>
 (bif(!(decide (x.2.2.2.2.1=2))) then some ((x.1,x.2.1,x.2.2.1,x.2.2.2.1,x.2.2.2.2.1,(x.1.length:Int),x.2.2.2.2.2.2.1,x.2.2.2.2.2.2.2.1,x.2.2.2.2.2.2.2.2),c) else some ((x.1,x.2.1,x.2.2.1,x.2.2.2.1,x.2.2.2.2.1,x.2.2.2.2.2.1,x.2.2.2.2.2.2.1,x.2.2.2.2.2.2.2.1,x.2.2.2.2.2.2.2.2),c))
noncomputable def FV(c:Int):ah->Option (ah×Int):=λx=>
 (bif(decide (x.2.2.2.2.1=1)) then(au (vy x ([10]:aa)) λ(a:ah)=>Ni c a) else Ni c x)
theorem an9(s:aa):Cl s=(au (EG s) λ(a:aa)=>
 (au (sn.nI (a,0,0,([]:ao),0,0,[],([]:bt),false) ([]) ([]:bt) false) λy=>
 (bif(bif(decide (y.2.2.2.2.2.1=0)) then(bif y.2.2.2.2.2.2.2.2.2 then true else(decide (0<(y.2.2.2.2.1.length:Int)))) else false) then
 (au (g7 y.2 ([])) λ(b:ah)=>FV y.1 b) else FV y.1 y.2))):=rfl
theorem aaT{e:ca}{r:aa}{nd:aa}{ds:ao}{st:ah}{c:Int}(o:e.S.length<=1000000)(hm:nZ e r nd ds st):∃y,FV c st=some y/\y.1.2.2.2.2.1=1/\y.1.2.2.2.2.2.2.1=(cQ nd ds [10]).1/\y.1.2.2.2.2.2.1=(e.S.length:Int):=by obtain⟨a,b,i,d,SG,f,g,op,tr⟩:=st;obtain⟨ad,j,k,l,p⟩:=hm;have h:=l.nd;have m:=l.s;simp only at ad j k h m;subst ad j k m;have q:=tA d;have n:vy (e.S,b,i,d,1,f,g,op,tr) [10]=some (e.S,b,i,(cQ g d [10]).2,1,f,(cQ g d [10]).1,op,tr):=CH _ _ _ _ _ _ _ _ _ _ (by simp) (by grind) (by omega);unfold FV;simp only[bw,aJ];rw[n,aQ rfl];exact⟨_,rfl,rfl,rfl,rfl⟩
theorem an_{s:aa}(f:(df s).length<=1000000):match gm true 30 (df s) with
  | .ok a _ _=>∃st,Cl s=some (st,(a:Int))/\st.2.2.2.2.1=0/\st.2.2.2.2.2.1=((df s).length:Int)
  | .more _ nd ds=>∃st c,Cl s=some (st,c)/\st.2.2.2.2.1=1/\st.2.2.2.2.2.2.1=(cQ nd ds [10]).1/\st.2.2.2.2.2.1=((df s).length:Int)
  |_=>∃st c,Cl s=some (st,c)/\st.2.2.2.2.1=2:=by
 have hl:s.length<=(df s).length:=by grind[df]
 have h:=an7 f;rw[an9,an6 s (by omega),aQ rfl];have g:=(tz true 30).ls .text true (df s) [];obtain⟨b,p,h⟩:=h;obtain⟨c,st⟩:=b;rw[p,aQ rfl];have t:(aR true 30).ls .text true (df s) []=gm true 30 (df s):=rfl;rw[t] at g;cases aB:gm true 30 (df s) with
 |ok a r pd=>rw[aB] at h;obtain⟨ad,C,⟨tr,i,u⟩,o⟩:=h;obtain⟨rfl,rfl⟩:=an8 (TL s) (Jh s) aB;dsimp only at i o;have:=u rfl;subst this i o;exact⟨_,rfl,rfl,rfl⟩
 |more op nd ds=>
  rw[aB] at h g;simp only[dZ] at g;dsimp only at h⊢;have v:eh ([]:ao)=0:=rfl;rw[v] at g;rcases h with h|⟨_,rfl,i⟩
  ·have d:nZ (e0 (df s)) (df s) nd ds st:=h;rw[d.1];simp only[show¬((1:Int)=0) by decide,bF,aU];obtain⟨y,j,k,l,m⟩:=aaT (c:=c) (e:=e0 (df s)) f d;exact⟨y.1,y.2,j,k,l,m⟩
  ·subst i;have w:((e0 (df s)).tt ds).2.2.2.2.1=0:=rfl;have n:((e0 (df s)).tt ds).2.2.2.2.2.2.2.2=true:=rfl;rw[w,n];simp only[bw,aJ];have z:cB (e0 (df s)) (df s) []:=⟨f,TL s,Jh s,fM,by simp[e0,eh,lE]⟩;obtain⟨D,A,B⟩:=FK (pd:=ds) (x:=[]) z (by show _<=100*(df s).length+800;omega) (by simp);rw[A,aQ rfl];obtain⟨y,j,k,l,m⟩:=aaT (c:=c) (e:=e0 (df s)) f B;exact⟨y.1,y.2,j,k,l,m⟩
 |bad q=>rw[aB] at h;have d:iQ (e0 (df s)) (df s) st:=h;dsimp only;rw[d.1];simp only[show¬((2:Int)=0) by decide,bF,aU];unfold FV;rw[d.1];simp only[show¬((2:Int)=1) by decide,bF,aU];unfold Ni;rw[d.1];simp
 |deep q=>rw[aB] at h;have d:iQ (e0 (df s)) (df s) st:=h;dsimp only;rw[d.1];simp only[show¬((2:Int)=0) by decide,bF,aU];unfold FV;rw[d.1];simp only[show¬((2:Int)=1) by decide,bF,aU];unfold Ni;rw[d.1];simp
abbrev fa:=aa×Int×Int
structure fm(x0:aa)(st:fa):Prop where
 c:st.1=x0
 lo:0<=st.2.1
 bf:st.2.1<=x0.length
 bZ:x0.length<=1048576
theorem Nj(a:Int):0<=W (((BitVec.ofInt (IntKind.bits .i64) a&&&BitVec.ofInt (IntKind.bits .i64) 255).toNat:Int))/\W (((BitVec.ofInt (IntKind.bits .i64) a&&&BitVec.ofInt (IntKind.bits .i64) 255).toNat:Int))<256:=by
 have h:(BitVec.ofInt (IntKind.bits .i64) a&&&BitVec.ofInt (IntKind.bits .i64) 255).toNat<256:=by grind[BitVec.ofInt,IntKind.bits,Nat.and_le_right]
 grind[dV]
theorem aob{x0:aa}{st:fa}(h:fm x0 st):∃v e,yt st=some (v,e)/\0<=v/\v<256/\fm x0 e:=by
 obtain⟨a,b,c⟩:=st;obtain⟨rfl,ad,f,d⟩:=h;simp only at ad f d;unfold yt a8;dsimp only;by_cases hl:b<(a.length:Int)
 ·rw[decide_eq_true hl];simp only[aJ];rw[bS ⟨ad,hl⟩];have g:W (b+1)=b+1:=dV (by omega) (by omega);rw[g];exact⟨_,_,rfl,(Nj _).1,(Nj _).2,rfl,by grind,by grind,d⟩
 ·rw[e3 hl];simp only[aU];exact⟨_,_,rfl,(Nj _).1,(Nj _).2,rfl,ad,f,d⟩
theorem y0{x0:aa}{st:fa}(h:fm x0 st){n:Int}(ad:1<=n)(f:n<=256):∃v d,lb st n=some (v,d)/\0<=v/\v<n/\fm x0 d:=by unfold lb;obtain⟨v,d,g,i,j,e⟩:=aob h;rw[e3 (show¬n<=0 by omega),decide_eq_true f];simp only[aU,aJ];rw[g,aQ rfl];dsimp only;rw[bS (show n≠0 by omega)];refine⟨_,_,rfl,Int.tmod_nonneg _ i,Int.tmod_lt_of_pos _ (by omega),?_⟩;obtain⟨a,b,c⟩:=d;exact⟨h.c,e.lo,e.bf,e.bZ⟩
theorem aoc(x0:aa)(e:x0.length<=1048576):∃st,EE x0=some st/\fm x0 (x0,st.2.1,st.2.2):=by
 have hl:∀(N:Nat)(a b:Int),0<=b->b<=4000->(4000-b)<N->∃c,fixF (LJ x0 (λf=>some (x0,0,f))) N (a,b)=some (x0,0,c):=by
  intro N;induction N with
  |zero=>omega
  |succ N g=>
   intro a b h0 ad h;rw[e7];unfold LJ;dsimp only;by_cases d:b<(x0.length:Int)/\b<4000
   ·rw[decide_eq_true d.1,decide_eq_true d.2];simp only[aJ];rw[bS ⟨h0,d.1⟩];have i:W (b+1)=b+1:=dV (by omega) (by omega);rw[i];exact g _ _ (by omega) (by omega) (by omega)
   ·have:(bif decide (b<(x0.length:Int)) then decide (b<4000) else false)=false:=by grind
    rw[this];simp
 unfold EE a8;obtain⟨c,aF⟩:=hl bC (W (600128+(x0.length:Int))) 0 (by omega) (by omega) (by simp[gg]);exact⟨_,aF,rfl,uU 0,by simp,e⟩
def FW:bt:=[([97]:aa),([98,49]:aa),([120,61,49]:aa),([102,105,108,101]:aa),([195,169]:aa),([105,110]:aa),([97,35,98]:aa)]
def oV:bt:=[[39,113,32,114,39],[34,97,32,98,34],[97,92,32,98],[36,120],[36,40,40,49,43,40,50,41,41,41],[96,99,32,100,96],[45,108],[97,92,10,98]]++FW
def sI:bt:=[([108,115]:aa),([101,99,104,111]:aa),([99,97,116]:aa),([120,61,49]:aa)]
def jA:bt:=[([32,38,38,32]:aa),([32,124,124,32]:aa),([32,124,32]:aa),([59,32]:aa),([32,38,32]:aa),([10]:aa),([32,124,10]:aa),([59,32,35,32,114,10]:aa)]
def aaU(L W:aa->Prop)(w:aa):Prop:=w∈oV\/(∃t,L t/\(w=[36,40]++t++[41]\/w=[34,120,36,40]++t++[41,34]))\/∃v,W v/\w=[36,123,120,58,45]++v++[125]
def jQ(ws:bt):aa:=ws.flatMap (λw=>32::w)
def rM(W a:aa->Prop)(s:aa):Prop:=∃h ws r,h∈sI/\(∀w∈ws,W w)/\s=h++jQ ws++r/\(r=[]\/r=[32,50,62,38,49]\/∃w,a w/\r=[32,62]++w)
def uS(L W:aa->Prop)(c:aa):Prop:=
 (∃t,L t/\c=[40]++t++[41])\/
 (∃t,L t/\c=[123,32]++(t++[10])++[125])\/
 (∃t u,L t/\L u/\c=[105,102,32]++(t++[59])++[32,116,104,101,110,32]++(u++[10])++[102,105])\/
 (∃t u,L t/\L u/\c=[105,102,32,97,59,32,116,104,101,110,10]++(t++[10])++[101,108,105,102,32,98,10,116,104,101,110,32,99,10,101,108,115,101,32]++(u++[59])++[102,105,32,50,62,102])\/
 (∃t u,L t/\L u/\c=[119,104,105,108,101,32]++(t++[10])++[100,111,32]++(u++[59])++[32,100,111,110,101])\/
 (∃w u,W w/\L u/\c=[102,111,114,32,120,32,105,110,32,97,32]++w++[59,32,100,111,32]++(u++[59])++[100,111,110,101])\/
 c=[102,111,114,32,120,10,100,111,32,97,10,100,111,110,101]\/
 (∃w u,W w/\L u/\c=[99,97,115,101,32]++w++[32,105,110,32,97,124,98,41,32]++(u++[])++[59,59,10,40,99,41,32,59,59,32,100,41,32,101,115,97,99])\/
 (∃t,L t/\c=[102,40,41,32,123,10]++(t++[10])++[125,32,62,102])
def cY(l:List (aa×aa)):aa:=l.flatMap (λp=>p.1++p.2)
def uT(C:aa->Prop)(t:aa):Prop:=∃c rest,C c/\(∀p∈rest,p.1∈jA/\C p.2)/\t=c++cY rest
def AG:Nat->(aa->Prop)×(aa->Prop)
 |0=>(λw=>w∈oV,uT (rM (λw=>w∈oV) (λw=>w∈oV)))
 |d+1=>(aaU (AG d).2 (AG d).1,uT λc=>rM (aaU (AG d).2 (AG d).1) (λw=>w∈oV) c\/uS (AG d).2 (AG d).1 c)
def hY(d:Nat):aa->Prop:=(AG d).1
def iu(d:Nat):aa->Prop:=(AG d).2
def y1:Nat->aa->Prop
 |0=>rM (hY 0) (hY 0)
 |d+1=>λc=>rM (hY (d+1)) (hY 0) c\/uS (iu d) (hY d) c
theorem Nk(d:Nat):iu d=uT (y1 d):=by cases d<;>rfl
theorem aaV{d:Nat}{w:aa}(h:w∈oV):hY d w:=by
 cases d with
 |zero=>exact h
 |succ d=>exact .inl h
def lens:Nat->Nat×Nat
 |0=>(10,200)
 |d+1=>let w:=(lens d).2+(lens d).1+10;(w,3*(2*(lens d).2+(lens d).1+2*w+80)+20)
def lw(d:Nat):Nat:=(lens d).1
def oW(d:Nat):Nat:=(lens d).2
def lc:Nat->Nat
 |0=>60
 |d+1=>2*oW d+lw d+2*lw (d+1)+80
theorem TM(d:Nat):lw (d+1)=oW d+lw d+10:=rfl
theorem aod(d:Nat):oW d=3*lc d+20:=by cases d<;>rfl
theorem qw{d:Nat}(h:d<=3):lw d<=40000/\oW d<=460000/\lc d<=160000/\10<=lw d:=by
 match d,h with
 |0,_=>decide
 |1,_=>decide
 |2,_=>decide
 |3,_=>decide
def oX(R:bg)(d:Nat):Prop:=∀(x0:aa)(st:fa),fm x0 st->∃t a,R.nJ st (d:Int)=some (t,a)/\hY d t/\t.length<=lw d/\fm x0 a
def C0(R:bg)(d:Nat):Prop:=∀(x0:aa)(st:fa)(sfx:aa),sfx.length<=1->fm x0 st->∃t a,R.hp st (d:Int) sfx=some (t++sfx,a)/\iu d t/\t.length<=oW d/\fm x0 a
theorem kh{n:Nat}(h:n<=100000000):((n:Nat):Int)<=9223372036854775807:=by omega
theorem v8{d:Nat}(h:d<=3):W (((d+1:Nat):Int)-1)=(d:Int):=by grind[dV]
theorem at_mem{l:bt}{v:Int}(h0:0<=v)(ad:v<(l.length:Int)):at' l v∈l:=by grind[at']
theorem aaW:∀w∈oV,w.length<=10:=by decide
theorem fm.st{x0:aa}{st:fa}(h:fm x0 st):(x0,st.2.1,st.2.2)=st:=by rw[<-h.c]
noncomputable def Nl(R:bg)(b:Int)(st:fa)(a:Int):Option (aa×fa):=
 (bif(decide (a=1)) then some (([39,113,32,114,39]:aa),st) else(bif(decide (a=2)) then some (([34,97,32,98,34]:aa),st) else(bif(decide (a=3)) then some (([97,92,32,98]:aa),st) else(bif(decide (a=4)) then some (([36,120]:aa),st) else(bif(decide (a=5)) then some (([36,40,40,49,43,40,50,41,41,41]:aa),st) else(bif(decide (a=6)) then some (([96,99,32,100,96]:aa),st) else(bif(decide (a=7)) then some (([45,108]:aa),st) else(bif(decide (a=8)) then(au (R.hp st (W (b-1)) ([])) λ(c,g)=>(aZ (((([36,40]:aa).length+c.length:Nat):Int)<=9223372036854775807)<|(aZ ((((([36,40]:aa)++c).length+([41]:aa).length:Nat):Int)<=9223372036854775807)<|some (((([36,40]:aa)++c)++([41]:aa)),(st.1,g.2.1,g.2.2))))) else(bif(decide (a=9)) then(au (R.hp st (W (b-1)) ([])) λ(d,h)=>(aZ (((([34,120,36,40]:aa).length+d.length:Nat):Int)<=9223372036854775807)<|(aZ ((((([34,120,36,40]:aa)++d).length+([41,34]:aa).length:Nat):Int)<=9223372036854775807)<|some (((([34,120,36,40]:aa)++d)++([41,34]:aa)),(st.1,h.2.1,h.2.2))))) else(bif(decide (a=10)) then(au (R.nJ st (W (b-1))) λ(e,i)=>(aZ (((([36,123,120,58,45]:aa).length+e.length:Nat):Int)<=9223372036854775807)<|(aZ ((((([36,123,120,58,45]:aa)++e).length+([125]:aa).length:Nat):Int)<=9223372036854775807)<|some (((([36,123,120,58,45]:aa)++e)++([125]:aa)),(st.1,i.2.1,i.2.2))))) else(bif(decide (a=11)) then some (([97,92,10,98]:aa),st) else(au (lb st 7) λ(f,j)=>(aZ (0<=f/\f<(([([97]:aa),([98,49]:aa),([120,61,49]:aa),([102,105,108,101]:aa),([195,169]:aa),([105,110]:aa),([97,35,98]:aa)]:bt).length:Int))<|some ((at' ([([97]:aa),([98,49]:aa),([120,61,49]:aa),([102,105,108,101]:aa),([195,169]:aa),([105,110]:aa),([97,35,98]:aa)]:bt) f),(st.1,j.2.1,j.2.2)))))))))))))))
theorem aoe(R:bg)(x0:fa)(a:Int):H6 R x0 a=au (lb x0 14) λz=>(bif(bif(decide (a<=0)) then(decide (8<=z.1)) else false) then Nl R a (x0.1,z.2.2.1,z.2.2.2) 0 else Nl R a (x0.1,z.2.2.1,z.2.2.2) z.1):=rfl
theorem aof{R:bg}{d:Nat}(aG:d<=3)(bk:∀a,d=a+1->C0 R a/\oX R a){x0:aa}{st:fa}(h:fm x0 st){y:Int}(H:d=0->y<8):∃t c,Nl R (d:Int) st y=some (t,c)/\hY d t/\t.length<=lw d/\fm x0 c:=by
 obtain⟨I,J,K,F⟩:=qw aG
 have e:∀{w:aa},w∈oV->∃t c,(some (w,st):Option (aa×fa))=some (t,c)/\hY d t/\t.length<=lw d/\fm x0 c:=λ{w} G=>⟨w,st,rfl,aaV G,by grind[aaW],h⟩
 unfold Nl;by_cases f:y=1
 ·simp only[f,bw,aJ];exact e (by decide)
 by_cases i:y=2
 ·rw[e3 f];simp only[i,bw,aJ,aU];exact e (by decide)
 by_cases k:y=3
 ·rw[e3 f,e3 i];simp only[k,bw,aJ,aU];exact e (by decide)
 by_cases m:y=4
 ·rw[e3 f,e3 i,e3 k];simp only[m,bw,aJ,aU];exact e (by decide)
 by_cases s:y=5
 ·rw[e3 f,e3 i,e3 k,e3 m];simp only[s,bw,aJ,aU];exact e (by decide)
 by_cases z:y=6
 ·rw[e3 f,e3 i,e3 k,e3 m,e3 s];simp only[z,bw,aJ,aU];exact e (by decide)
 by_cases B:y=7
 ·rw[e3 f,e3 i,e3 k,e3 m,e3 s,e3 z];simp only[B,bw,aJ,aU];exact e (by decide)
 rw[e3 f,e3 i,e3 k,e3 m,e3 s,e3 z,e3 B];simp only[aU];by_cases o:y=8
 ·obtain⟨a,rfl⟩:∃a,d=a+1:=⟨d-1,by omega⟩
  obtain⟨t,c,j,g,u,b⟩:=(bk a rfl).1 x0 st [] (by simp) h;obtain⟨C,p,q,r⟩:=qw (d:=a) (by omega);simp only[o,bw,aJ];rw[v8 (by omega),j,aQ rfl];dsimp only;rw[rP,bS (kh (by grind)),bS (kh (by grind)),h.c,b.st];refine⟨_,_,rfl,.inr (.inl ⟨t,g,.inl rfl⟩),?_,b⟩;grind[TM]
 by_cases x:y=9
 ·obtain⟨a,rfl⟩:∃a,d=a+1:=⟨d-1,by omega⟩
  obtain⟨t,c,j,g,u,b⟩:=(bk a rfl).1 x0 st [] (by simp) h;obtain⟨C,p,q,r⟩:=qw (d:=a) (by omega);rw[e3 o];simp only[x,bw,aJ,aU];rw[v8 (by omega),j,aQ rfl];dsimp only;rw[rP,bS (kh (by grind)),bS (kh (by grind)),h.c,b.st];refine⟨_,_,rfl,.inr (.inl ⟨t,g,.inr rfl⟩),?_,b⟩;grind[TM]
 by_cases A:y=10
 ·obtain⟨a,rfl⟩:∃a,d=a+1:=⟨d-1,by omega⟩
  obtain⟨t,c,j,g,u,b⟩:=(bk a rfl).2 x0 st h;obtain⟨C,p,q,r⟩:=qw (d:=a) (by omega);rw[e3 o,e3 x];simp only[A,bw,aJ,aU];rw[v8 (by omega),j,aQ rfl];dsimp only;rw[bS (kh (by grind)),bS (kh (by grind)),h.c,b.st];refine⟨_,_,rfl,.inr (.inr ⟨t,g,rfl⟩),?_,b⟩;grind[TM]
 by_cases D:y=11
 ·rw[e3 o,e3 x,e3 A];simp only[D,bw,aJ,aU];exact e (by decide)
 rw[e3 o,e3 x,e3 A,e3 D];simp only[aU];obtain⟨v,c,j,g,u,b⟩:=y0 h (n:=7) (by decide) (by decide);rw[j,aQ rfl];dsimp only;have hm:=at_mem (l:=FW) g (by show v<((7:Nat):Int);omega);rw[bS ⟨g,u⟩,h.c,b.st];have E:at' FW v∈oV:=xB _ hm;exact⟨_,_,rfl,aaV E,by have:=aaW _ E;exact lK this F,b⟩
theorem aog{P:aa->Prop}{J:fa->Int->Option (aa×fa)}{d:Nat}{x0:aa}{st:fa}(h:fm x0 st)(c:∀st y,fm x0 st->(d=0->y<8)->∃t a,J st y=some (t,a)/\P t/\fm x0 a):∃t a,(au (lb st 14) λz=>(bif(bif(decide ((d:Int)<=0)) then(decide (8<=z.1)) else false) then J (st.1,z.2.2.1,z.2.2.2) 0 else J (st.1,z.2.2.1,z.2.2.2) z.1))=some (t,a)/\P t/\fm x0 a:=by
 obtain⟨y,e,b,f,g,ad⟩:=y0 h (n:=14) (by decide) (by decide);rw[b,aQ rfl];dsimp only;rw[h.c,ad.st];cases i:(bif(decide ((d:Int)<=0)) then(decide (8<=y)) else false) with
 |true=>simp_all
 |false=>simp_all
theorem aoh{R:bg}{d:Nat}(aG:d<=3)(bk:∀a,d=a+1->C0 R a/\oX R a){x0:aa}{st:fa}(h:fm x0 st):∃t b,H6 R st (d:Int)=some (t,b)/\(hY d t/\t.length<=lw d)/\fm x0 b:=by
 rw[aoe]
 exact aog h (λst y ad c=>by obtain⟨t,b,e,a2,a3,f⟩:=aof aG bk ad c;grind)
theorem aa0(R:bg)(x:fa)(d:Int)(j:aa×Int×Int->Option (aa×fa))(k:aa×Int×Int×Int->Option (aa×fa))(s:aa)(c a b:Int):Cb R x d j k (s,c,a,b)=bif(decide (0<c)) then
 (aZ (((s.length+([32]:aa).length:Nat):Int)<=9223372036854775807)<|(au (R.nJ (x.1,a,b) d) λv=>(aZ ((((s++([32]:aa)).length+v.1.length:Nat):Int)<=9223372036854775807)<|k (((s++([32]:aa))++v.1),(W (c-1)),v.2.2.1,v.2.2.2)))) else j (s,a,b):=rfl
theorem xu(a b:aa)(c:a.length<=1000000)(d:b.length<=1000000):((a.length+b.length:Nat):Int)<=9223372036854775807:=kh (by omega)
theorem aoi{R:bg}{x:fa}{d:Int}{j:aa×Int×Int->Option (aa×fa)}{k:aa×Int×Int×Int->Option (aa×fa)}{s:aa}{c:Nat}{x0:aa}{st a:fa}{t:aa}(aF:c<=10)(b:x.1=x0)(h:fm x0 st)(e:R.nJ st d=some (t,a))(i:s.length<=900000)(f:t.length<=1000000):
  Cb R x d j k (s,((c+1:Nat):Int),st.2.1,st.2.2)=k (s++[32]++t,(c:Int),a.2.1,a.2.2):=by
 rw[aa0,decide_eq_true (show(0:Int)<((c+1:Nat):Int) by omega),aJ,bS (xu s [32] (by omega) (by decide)),b,h.st,e,aQ rfl,bS (xu (s++[32]) t (by grind) f)];have g:W (((c+1:Nat):Int)-1)=(c:Int):=by grind[dV]
 rw[g]
theorem aoj{R:bg}{d:Nat}(aG:d<=3)(hW:oX R d){x0:aa}{x:fa}(f:x.1=x0){j:aa×Int×Int->Option (aa×fa)}:∀(N c:Nat)(s:aa)(st:fa),c<N->c<=2->s.length<=100+(2-c) *40001->fm x0 st->
  ∃ws a,fixF (Cb R x (d:Int) j) N (s,(c:Int),st.2.1,st.2.2)=j (s++jQ ws,a.2.1,a.2.2)/\(∀w∈ws,hY d w)/\(jQ ws).length<=c*(lw d+1)/\fm x0 a:=by
 obtain⟨o,_,_,_⟩:=qw aG;intro N;induction N with
 |zero=>omega
 |succ N e=>
  intro c s st aF p q h;rw[e7];generalize fixF (Cb R x (d:Int) j) N=k at e⊢;cases c with
  |zero=>rw[aa0];refine⟨[],st,?_,by simp,by simp[jQ],h⟩;simp[jQ]
  |succ c=>
   obtain⟨t,g,i,r,u,l⟩:=hW x0 st h;have b:(s++[32]++t).length<=100+(2-c) *40001:=by grind
   rw[aoi (by omega) f h i (by omega) (by omega)];obtain⟨ws,a,m,a2,a3,n⟩:=e c (s++[32]++t) g (by omega) (by omega) b l;rw[m];refine⟨t::ws,a,?_,?_,?_,n⟩
   ·simp[jQ]
   ·grind
   ·simp only[jQ,List.flatMap_cons,C8,mo] at a3⊢;grind
noncomputable def AH(c:aa)(n:Int)(s:aa)(st:fa):Option (aa×fa):=
 bif(decide (n=1)) then
 (aZ (((s.length+([32,50,62,38,49]:aa).length:Nat):Int)<=9223372036854775807)<|some ((s++([32,50,62,38,49]:aa)),(c,st.2.1,st.2.2)))
 else some (s,(c,st.2.1,st.2.2))
noncomputable def C1(R:bg)(c:aa)(s:aa)(st:fa):Option (aa×fa):=
 au (lb (c,st.2.1,st.2.2) 8) λz=>
 bif(decide (z.1=0)) then
 (aZ (((s.length+([32,62]:aa).length:Nat):Int)<=9223372036854775807)<|(au (R.nJ (c,z.2.2.1,z.2.2.2) 0) λv=>(aZ ((((s++([32,62]:aa)).length+v.1.length:Nat):Int)<=9223372036854775807)<|AH c z.1 ((s++([32,62]:aa))++v.1) v.2)))
 else AH c z.1 s z.2
theorem aok(R:bg)(x0:fa)(a:Int):Cc R x0 a=(au (lb x0 4) λz=>
 (aZ (0<=z.1/\z.1<((sI).length:Int))<|
 (au (lb (x0.1,z.2.2.1,z.2.2.2) 3) λv=>
 (fixF (Cb R x0 a (λy=>C1 R x0.1 y.1 (x0.1,y.2.1,y.2.2))) bC ((at' sI z.1),v.1,v.2.2.1,v.2.2.2))))):=rfl
theorem aol{c:aa}{s:aa}{st:fa}(a:s.length<=1000000):AH c 1 s st=some (s++[32,50,62,38,49],(c,st.2.1,st.2.2)):=by unfold AH;rw[decide_eq_true rfl,aJ,bS (xu s [32,50,62,38,49] a (by decide))]
theorem aa1{c:aa}{s:aa}{st:fa}{n:Int}(aw:¬n=1):AH c n s st=some (s,(c,st.2.1,st.2.2)):=by simp_all[AH]
theorem aom{R:bg}{x0:aa}{s t:aa}{st a b:fa}(h:fm x0 st)(ad:fm x0 a)(c:lb st 8=some (0,a))(d:R.nJ a 0=some (t,b))(f:s.length<=900000)(e:t.length<=1000000):C1 R x0 s st=AH x0 0 (s++[32,62]++t) b:=by unfold C1;rw[h.st,c,aQ rfl];show(bif decide ((0:Int)=0) then _ else _)=_;rw[decide_eq_true rfl,aJ,bS (xu s [32,62] (by omega) (by decide))];show au (R.nJ (x0,a.2.1,a.2.2) 0) _=_;rw[ad.st,d,aQ rfl,bS (xu (s++[32,62]) t (by grind) e)]
theorem aon{R:bg}{x0:aa}{s:aa}{st a:fa}{v:Int}(h:fm x0 st)(b:lb st 8=some (v,a))(c:¬v=0):C1 R x0 s st=AH x0 v s a:=by unfold C1;rw[h.st,b,aQ rfl];grind
theorem aoo{R:bg}{x0:aa}(e:oX R 0){s:aa}(f:s.length<=900000){st:fa}(h:fm x0 st):∃r b,C1 R x0 s st=some (s++r,b)/\(r=[]\/r=[32,50,62,38,49]\/∃w,hY 0 w/\r=[32,62]++w)/\r.length<=12/\fm x0 b:=by
 obtain⟨v,c,d,k,l,a⟩:=y0 h (n:=8) (by decide) (by decide);by_cases h0:v=0
 ·subst h0;obtain⟨t,m,g,o,i,j⟩:=e x0 c a;have p:t.length<=10:=i;rw[aom h a d g f (by omega),aa1 (by decide),j.st];grind
 ·rw[aon h d h0];by_cases ad:v=1
  ·subst ad;rw[aol (by omega),a.st];grind
  ·rw[aa1 ad,a.st];exact⟨[],c,by simp,.inl rfl,by simp,a⟩
theorem aop:∀h∈sI,h.length<=4:=by decide
theorem aoq{R:bg}{d:Nat}(aG:d<=3)(hW:oX R d)(i:oX R 0){x0:aa}{st:fa}(h:fm x0 st):∃t a,Cc R st (d:Int)=some (t,a)/\rM (hY d) (hY 0) t/\t.length<=2*lw d+20/\fm x0 a:=by
 obtain⟨C,_,_,_⟩:=qw aG;obtain⟨v,D,m,b,e,f⟩:=y0 h (n:=4) (by decide) (by decide);rw[aok,m,aQ rfl];dsimp only;rw[bS ⟨b,e⟩,h.c,f.st];obtain⟨c,o,p,E,F,q⟩:=y0 f (n:=3) (by decide) (by decide);rw[p,aQ rfl];dsimp only;have hm:=at_mem (l:=sI) b e;have G:=aop _ hm
 obtain⟨k,rfl⟩:∃k:Nat,c=(k:Int):=⟨c.toNat,by omega⟩
 obtain⟨ws,H,u,a2,a3,g⟩:=aoj aG hW (x:=st) h.c (j:=λy=>C1 R x0 y.1 (x0,y.2.1,y.2.2)) bC k (at' sI v) o (by grind[gg]) (by omega) (by omega) q;rw[u];dsimp only;have hk:k*(lw d+1)<=2*(lw d+1):=sQ _ (by omega);rw[g.st];obtain⟨r,w,z,A,I,B⟩:=aoo i (s:=at' sI v++jQ ws) (by grind) g;rw[z];exact⟨_,_,rfl,⟨_,ws,r,hm,a2,rfl,A⟩,by grind,B⟩
noncomputable def mO(R:bg)(a:Int)(st:fa)(b:Int):Option (aa×fa):=
 (bif(decide (b=1)) then(au (R.hp st (W (a-1)) ([])) λ(h,p)=>(aZ (((([40]:aa).length+h.length:Nat):Int)<=9223372036854775807)<|(aZ ((((([40]:aa)++h).length+([41]:aa).length:Nat):Int)<=9223372036854775807)<|some (((([40]:aa)++h)++([41]:aa)),(st.1,p.2.1,p.2.2))))) else(bif(decide (b=2)) then(au (R.hp st (W (a-1)) ([10]:aa)) λ(i,q)=>(aZ (((([123,32]:aa).length+i.length:Nat):Int)<=9223372036854775807)<|(aZ ((((([123,32]:aa)++i).length+([125]:aa).length:Nat):Int)<=9223372036854775807)<|some (((([123,32]:aa)++i)++([125]:aa)),(st.1,q.2.1,q.2.2))))) else(bif(decide (b=3)) then(au (R.hp st (W (a-1)) ([59]:aa)) λ(c,r)=>(aZ (((([105,102,32]:aa).length+c.length:Nat):Int)<=9223372036854775807)<|(aZ ((((([105,102,32]:aa)++c).length+([32,116,104,101,110,32]:aa).length:Nat):Int)<=9223372036854775807)<|(au (R.hp (st.1,r.2.1,r.2.2) (W (a-1)) ([10]:aa)) λ(j,s)=>(aZ (((((([105,102,32]:aa)++c)++([32,116,104,101,110,32]:aa)).length+j.length:Nat):Int)<=9223372036854775807)<|(aZ ((((((([105,102,32]:aa)++c)++([32,116,104,101,110,32]:aa))++j).length+([102,105]:aa).length:Nat):Int)<=9223372036854775807)<|some (((((([105,102,32]:aa)++c)++([32,116,104,101,110,32]:aa))++j)++([102,105]:aa)),(st.1,s.2.1,s.2.2)))))))) else(bif(decide (b=4)) then(au (R.hp st (W (a-1)) ([10]:aa)) λ(d,t)=>(aZ (((([105,102,32,97,59,32,116,104,101,110,10]:aa).length+d.length:Nat):Int)<=9223372036854775807)<|(aZ ((((([105,102,32,97,59,32,116,104,101,110,10]:aa)++d).length+([101,108,105,102,32,98,10,116,104,101,110,32,99,10,101,108,115,101,32]:aa).length:Nat):Int)<=9223372036854775807)<|(au (R.hp (st.1,t.2.1,t.2.2) (W (a-1)) ([59]:aa)) λ(k,u)=>(aZ (((((([105,102,32,97,59,32,116,104,101,110,10]:aa)++d)++([101,108,105,102,32,98,10,116,104,101,110,32,99,10,101,108,115,101,32]:aa)).length+k.length:Nat):Int)<=9223372036854775807)<|(aZ ((((((([105,102,32,97,59,32,116,104,101,110,10]:aa)++d)++([101,108,105,102,32,98,10,116,104,101,110,32,99,10,101,108,115,101,32]:aa))++k).length+([102,105,32,50,62,102]:aa).length:Nat):Int)<=9223372036854775807)<|some (((((([105,102,32,97,59,32,116,104,101,110,10]:aa)++d)++([101,108,105,102,32,98,10,116,104,101,110,32,99,10,101,108,115,101,32]:aa))++k)++([102,105,32,50,62,102]:aa)),(st.1,u.2.1,u.2.2)))))))) else(bif(decide (b=5)) then(au (R.hp st (W (a-1)) ([10]:aa)) λ(e,v)=>(aZ (((([119,104,105,108,101,32]:aa).length+e.length:Nat):Int)<=9223372036854775807)<|(aZ ((((([119,104,105,108,101,32]:aa)++e).length+([100,111,32]:aa).length:Nat):Int)<=9223372036854775807)<|(au (R.hp (st.1,v.2.1,v.2.2) (W (a-1)) ([59]:aa)) λ(l,w)=>(aZ (((((([119,104,105,108,101,32]:aa)++e)++([100,111,32]:aa)).length+l.length:Nat):Int)<=9223372036854775807)<|(aZ ((((((([119,104,105,108,101,32]:aa)++e)++([100,111,32]:aa))++l).length+([32,100,111,110,101]:aa).length:Nat):Int)<=9223372036854775807)<|some (((((([119,104,105,108,101,32]:aa)++e)++([100,111,32]:aa))++l)++([32,100,111,110,101]:aa)),(st.1,w.2.1,w.2.2)))))))) else(bif(decide (b=6)) then(au (R.nJ st (W (a-1))) λ(f,x)=>(aZ (((([102,111,114,32,120,32,105,110,32,97,32]:aa).length+f.length:Nat):Int)<=9223372036854775807)<|(aZ ((((([102,111,114,32,120,32,105,110,32,97,32]:aa)++f).length+([59,32,100,111,32]:aa).length:Nat):Int)<=9223372036854775807)<|(au (R.hp (st.1,x.2.1,x.2.2) (W (a-1)) ([59]:aa)) λ(m,y)=>(aZ (((((([102,111,114,32,120,32,105,110,32,97,32]:aa)++f)++([59,32,100,111,32]:aa)).length+m.length:Nat):Int)<=9223372036854775807)<|(aZ ((((((([102,111,114,32,120,32,105,110,32,97,32]:aa)++f)++([59,32,100,111,32]:aa))++m).length+([100,111,110,101]:aa).length:Nat):Int)<=9223372036854775807)<|some (((((([102,111,114,32,120,32,105,110,32,97,32]:aa)++f)++([59,32,100,111,32]:aa))++m)++([100,111,110,101]:aa)),(st.1,y.2.1,y.2.2)))))))) else(bif(decide (b=7)) then some (([102,111,114,32,120,10,100,111,32,97,10,100,111,110,101]:aa),st) else(bif(decide (b=8)) then(au (R.nJ st (W (a-1))) λ(g,z)=>(aZ (((([99,97,115,101,32]:aa).length+g.length:Nat):Int)<=9223372036854775807)<|(aZ ((((([99,97,115,101,32]:aa)++g).length+([32,105,110,32,97,124,98,41,32]:aa).length:Nat):Int)<=9223372036854775807)<|(au (R.hp (st.1,z.2.1,z.2.2) (W (a-1)) ([])) λ(n,A)=>(aZ (((((([99,97,115,101,32]:aa)++g)++([32,105,110,32,97,124,98,41,32]:aa)).length+n.length:Nat):Int)<=9223372036854775807)<|(aZ ((((((([99,97,115,101,32]:aa)++g)++([32,105,110,32,97,124,98,41,32]:aa))++n).length+([59,59,10,40,99,41,32,59,59,32,100,41,32,101,115,97,99]:aa).length:Nat):Int)<=9223372036854775807)<|some (((((([99,97,115,101,32]:aa)++g)++([32,105,110,32,97,124,98,41,32]:aa))++n)++([59,59,10,40,99,41,32,59,59,32,100,41,32,101,115,97,99]:aa)),(st.1,A.2.1,A.2.2)))))))) else(bif(decide (b=9)) then(au (R.hp st (W (a-1)) ([10]:aa)) λ(o,B)=>(aZ (((([102,40,41,32,123,10]:aa).length+o.length:Nat):Int)<=9223372036854775807)<|(aZ ((((([102,40,41,32,123,10]:aa)++o).length+([125,32,62,102]:aa).length:Nat):Int)<=9223372036854775807)<|some (((([102,40,41,32,123,10]:aa)++o)++([125,32,62,102]:aa)),(st.1,B.2.1,B.2.2))))) else(au (Cc R st a) λ(D,C)=>some (D,(st.1,C.2.1,C.2.2))))))))))))
theorem aor(R:bg)(x0:fa)(a:Int):vD R x0 a=au (lb x0 16) λz=>(bif(decide (a<=0)) then mO R a (x0.1,z.2.2.1,z.2.2.2) 0 else mO R a (x0.1,z.2.2.1,z.2.2.2) z.1):=rfl
section
variable{R:bg}{d:Nat}(aG:d+1<=3)(bk:C0 R d)(hW:oX R d){x0:aa}{st:fa}(h:fm x0 st)
include aG bk hW h
theorem aos:∃t a,mO R ((d+1:Nat):Int) st 1=some (t,a)/\uS (iu d) (hY d) t/\t.length<=2*oW d+lw d+80/\fm x0 a:=by obtain⟨g,i,j,k⟩:=qw (d:=d) (by omega);have b:=v8 (d:=d) (by omega);obtain⟨c,s1,e,f,l,r1⟩:=bk x0 st [] (by decide) h;unfold mO;rw[show decide ((1:Int)=1)=true from rfl,aJ,b,e,aQ rfl];dsimp only;rw[bS (kh (by grind)),bS (kh (by grind)),h.c,r1.st];refine⟨_,_,rfl,.inl ⟨c,f,by simp⟩,by grind,r1⟩
theorem aot:∃t a,mO R ((d+1:Nat):Int) st 2=some (t,a)/\uS (iu d) (hY d) t/\t.length<=2*oW d+lw d+80/\fm x0 a:=by obtain⟨g,i,j,k⟩:=qw (d:=d) (by omega);have b:=v8 (d:=d) (by omega);obtain⟨c,s1,e,f,l,r1⟩:=bk x0 st [10] (by decide) h;unfold mO;rw[show decide ((2:Int)=1)=false from rfl,aU];rw[show decide ((2:Int)=2)=true from rfl,aJ,b,e,aQ rfl];dsimp only;rw[bS (kh (by grind)),bS (kh (by grind)),h.c,r1.st];refine⟨_,_,rfl,.inr (.inl ⟨c,f,rfl⟩),by grind,r1⟩
theorem aou:∃t a,mO R ((d+1:Nat):Int) st 3=some (t,a)/\uS (iu d) (hY d) t/\t.length<=2*oW d+lw d+80/\fm x0 a:=by obtain⟨l,m,n,o⟩:=qw (d:=d) (by omega);have c:=v8 (d:=d) (by omega);obtain⟨e,s1,f,g,p,r1⟩:=bk x0 st [59] (by decide) h;obtain⟨i,s2,j,k,q,b⟩:=bk x0 s1 [10] (by decide) r1;unfold mO;rw[show decide ((3:Int)=1)=false from rfl,aU];rw[show decide ((3:Int)=2)=false from rfl,aU];rw[show decide ((3:Int)=3)=true from rfl,aJ,c,f,aQ rfl];dsimp only;rw[bS (kh (by grind)),bS (kh (by grind)),h.c,r1.st];rw[j,aQ rfl];dsimp only;rw[bS (kh (by grind)),bS (kh (by grind)),b.st];refine⟨_,_,rfl,.inr (.inr (.inl ⟨e,i,g,k,rfl⟩)),by grind,b⟩
theorem aov:∃t a,mO R ((d+1:Nat):Int) st 4=some (t,a)/\uS (iu d) (hY d) t/\t.length<=2*oW d+lw d+80/\fm x0 a:=by obtain⟨l,m,n,o⟩:=qw (d:=d) (by omega);have c:=v8 (d:=d) (by omega);obtain⟨e,s1,f,g,p,r1⟩:=bk x0 st [10] (by decide) h;obtain⟨i,s2,j,k,q,b⟩:=bk x0 s1 [59] (by decide) r1;unfold mO;rw[show decide ((4:Int)=1)=false from rfl,aU];rw[show decide ((4:Int)=2)=false from rfl,aU];rw[show decide ((4:Int)=3)=false from rfl,aU];rw[show decide ((4:Int)=4)=true from rfl,aJ,c,f,aQ rfl];dsimp only;rw[bS (kh (by grind[List.length_cons])),bS (kh (by grind[List.length_cons])),h.c,r1.st];rw[j,aQ rfl];dsimp only;rw[bS (kh (by grind[List.length_cons])),bS (kh (by grind[List.length_cons])),b.st];refine⟨_,_,rfl,.inr (.inr (.inr (.inl ⟨e,i,g,k,rfl⟩))),by grind[List.length_cons],b⟩
theorem aow:∃t a,mO R ((d+1:Nat):Int) st 5=some (t,a)/\uS (iu d) (hY d) t/\t.length<=2*oW d+lw d+80/\fm x0 a:=by obtain⟨l,m,n,o⟩:=qw (d:=d) (by omega);have c:=v8 (d:=d) (by omega);obtain⟨e,s1,f,g,p,r1⟩:=bk x0 st [10] (by decide) h;obtain⟨i,s2,j,k,q,b⟩:=bk x0 s1 [59] (by decide) r1;unfold mO;rw[show decide ((5:Int)=1)=false from rfl,aU];rw[show decide ((5:Int)=2)=false from rfl,aU];rw[show decide ((5:Int)=3)=false from rfl,aU];rw[show decide ((5:Int)=4)=false from rfl,aU];rw[show decide ((5:Int)=5)=true from rfl,aJ,c,f,aQ rfl];dsimp only;rw[bS (kh (by grind)),bS (kh (by grind)),h.c,r1.st];rw[j,aQ rfl];dsimp only;rw[bS (kh (by grind)),bS (kh (by grind)),b.st];refine⟨_,_,rfl,.inr (.inr (.inr (.inr (.inl ⟨e,i,g,k,rfl⟩)))),by grind,b⟩
theorem aox:∃t a,mO R ((d+1:Nat):Int) st 6=some (t,a)/\uS (iu d) (hY d) t/\t.length<=2*oW d+lw d+80/\fm x0 a:=by obtain⟨l,m,n,o⟩:=qw (d:=d) (by omega);have c:=v8 (d:=d) (by omega);obtain⟨e,s1,f,g,p,r1⟩:=hW x0 st h;obtain⟨i,s2,j,k,q,b⟩:=bk x0 s1 [59] (by decide) r1;unfold mO;rw[show decide ((6:Int)=1)=false from rfl,aU];rw[show decide ((6:Int)=2)=false from rfl,aU];rw[show decide ((6:Int)=3)=false from rfl,aU];rw[show decide ((6:Int)=4)=false from rfl,aU];rw[show decide ((6:Int)=5)=false from rfl,aU];rw[show decide ((6:Int)=6)=true from rfl,aJ,c,f,aQ rfl];dsimp only;rw[bS (kh (by grind[List.length_cons])),bS (kh (by grind[List.length_cons])),h.c,r1.st];rw[j,aQ rfl];dsimp only;rw[bS (kh (by grind[List.length_cons])),bS (kh (by grind[List.length_cons])),b.st];refine⟨_,_,rfl,.inr (.inr (.inr (.inr (.inr (.inl ⟨e,i,g,k,rfl⟩))))),by grind[List.length_cons],b⟩
theorem aoy:∃t a,mO R ((d+1:Nat):Int) st 8=some (t,a)/\uS (iu d) (hY d) t/\t.length<=2*oW d+lw d+80/\fm x0 a:=by obtain⟨l,m,n,o⟩:=qw (d:=d) (by omega);have c:=v8 (d:=d) (by omega);obtain⟨e,s1,f,g,p,r1⟩:=hW x0 st h;obtain⟨i,s2,j,k,q,b⟩:=bk x0 s1 [] (by decide) r1;unfold mO;rw[show decide ((8:Int)=1)=false from rfl,aU];rw[show decide ((8:Int)=2)=false from rfl,aU];rw[show decide ((8:Int)=3)=false from rfl,aU];rw[show decide ((8:Int)=4)=false from rfl,aU];rw[show decide ((8:Int)=5)=false from rfl,aU];rw[show decide ((8:Int)=6)=false from rfl,aU];rw[show decide ((8:Int)=7)=false from rfl,aU];rw[show decide ((8:Int)=8)=true from rfl,aJ,c,f,aQ rfl];dsimp only;rw[bS (kh (by grind)),bS (kh (by grind)),h.c,r1.st];rw[j,aQ rfl];dsimp only;rw[bS (kh (by grind[List.length_cons])),bS (kh (by grind[List.length_cons])),b.st];refine⟨_,_,rfl,.inr (.inr (.inr (.inr (.inr (.inr (.inr (.inl ⟨e,i,g,k,rfl⟩))))))),by grind[List.length_cons],b⟩
theorem aoz:∃t a,mO R ((d+1:Nat):Int) st 9=some (t,a)/\uS (iu d) (hY d) t/\t.length<=2*oW d+lw d+80/\fm x0 a:=by obtain⟨g,i,j,k⟩:=qw (d:=d) (by omega);have b:=v8 (d:=d) (by omega);obtain⟨c,s1,e,f,l,r1⟩:=bk x0 st [10] (by decide) h;unfold mO;rw[show decide ((9:Int)=1)=false from rfl,aU];rw[show decide ((9:Int)=2)=false from rfl,aU];rw[show decide ((9:Int)=3)=false from rfl,aU];rw[show decide ((9:Int)=4)=false from rfl,aU];rw[show decide ((9:Int)=5)=false from rfl,aU];rw[show decide ((9:Int)=6)=false from rfl,aU];rw[show decide ((9:Int)=7)=false from rfl,aU];rw[show decide ((9:Int)=8)=false from rfl,aU];rw[show decide ((9:Int)=9)=true from rfl,aJ,b,e,aQ rfl];dsimp only;rw[bS (kh (by grind)),bS (kh (by grind)),h.c,r1.st];refine⟨_,_,rfl,.inr (.inr (.inr (.inr (.inr (.inr (.inr (.inr ⟨c,f,rfl⟩))))))),by grind,r1⟩
theorem aoA:∃t a,mO R ((d+1:Nat):Int) st 7=some (t,a)/\uS (iu d) (hY d) t/\t.length<=2*oW d+lw d+80/\fm x0 a:=
 ⟨_,st,rfl,.inr (.inr (.inr (.inr (.inr (.inr (.inl rfl)))))),by simp,h⟩
end
theorem aoB{R:bg}{a:Int}{st:fa}{y:Int}(h:¬(1<=y/\y<=9)):mO R a st y=au (Cc R st a) λz=>some (z.1,(st.1,z.2.2.1,z.2.2.2)):=by unfold mO;rw[e3 (show¬y=1 by omega),e3 (show¬y=2 by omega),e3 (show¬y=3 by omega),e3 (show¬y=4 by omega),e3 (show¬y=5 by omega),e3 (show¬y=6 by omega),e3 (show¬y=7 by omega),e3 (show¬y=8 by omega),e3 (show¬y=9 by omega)];simp
theorem aa2{R:bg}{d:Nat}(aG:d<=3)(hW:oX R d)(b:oX R 0){x0:aa}{st:fa}(h:fm x0 st){y:Int}(c:¬(1<=y/\y<=9)):∃t a,mO R (d:Int) st y=some (t,a)/\rM (hY d) (hY 0) t/\t.length<=2*lw d+20/\fm x0 a:=by rw[aoB c];obtain⟨t,a,e,g,i,f⟩:=aoq aG hW b h;rw[e,aQ rfl];dsimp only;rw[h.c,f.st];grind
theorem aoC{R:bg}{d:Nat}(aG:d+1<=3)(bk:C0 R d)(f:oX R d)(hW:oX R (d+1))(g:oX R 0){x0:aa}{st:fa}(h:fm x0 st)(y:Int):∃t a,mO R ((d+1:Nat):Int) st y=some (t,a)/\y1 (d+1) t/\t.length<=lc (d+1)/\fm x0 a:=by
 have k:lc (d+1)=2*oW d+lw d+2*lw (d+1)+80:=rfl;by_cases i:1<=y/\y<=9
 ·have aF:∃t a,mO R ((d+1:Nat):Int) st y=some (t,a)/\uS (iu d) (hY d) t/\t.length<=2*oW d+lw d+80/\fm x0 a:=by
   have:y=1\/y=2\/y=3\/y=4\/y=5\/y=6\/y=7\/y=8\/y=9:=by omega
   rcases this with rfl|rfl|rfl|rfl|rfl|rfl|rfl|rfl|rfl
   ·grind[aos]
   ·grind[aot]
   ·grind[aou]
   ·grind[aov]
   ·grind[aow]
   ·grind[aox]
   ·grind[aoA]
   ·grind[aoy]
   grind[aoz]
  obtain⟨t,a,b,c,j,e⟩:=aF;exact⟨t,a,b,.inr c,by omega,e⟩
 ·obtain⟨t,a,b,c,j,e⟩:=aa2 aG hW g h i;exact⟨t,a,b,.inl c,by omega,e⟩
theorem aoD{P:aa->Prop}{J:fa->Int->Option (aa×fa)}{d:Nat}{x0:aa}{st:fa}(h:fm x0 st)(c:∀st y,fm x0 st->(d=0->y=0)->∃t a,J st y=some (t,a)/\P t/\fm x0 a):∃t a,(au (lb st 16) λz=>(bif(decide ((d:Int)<=0)) then J (st.1,z.2.2.1,z.2.2.2) 0 else J (st.1,z.2.2.1,z.2.2.2) z.1))=some (t,a)/\P t/\fm x0 a:=by
 obtain⟨y,e,b,f,g,ad⟩:=y0 h (n:=16) (by decide) (by decide);rw[b,aQ rfl];dsimp only;rw[h.c,ad.st];by_cases aG:(d:Int)<=0
 ·simp_all
 simp_all
theorem aa3{R:bg}{d:Nat}(aG:d<=3)(bk:∀b,d=b+1->C0 R b/\oX R b)(hW:oX R d)(c:oX R 0){x0:aa}{st:fa}(h:fm x0 st):∃t a,vD R st (d:Int)=some (t,a)/\(y1 d t/\t.length<=lc d)/\fm x0 a:=by
 rw[aor];refine aoD h (λst y ad i=>?_);cases d with
 |zero=>have:=i rfl;subst this;obtain⟨t,a,e,f,j,g⟩:=aa2 aG hW c ad (y:=0) (by omega);have:lw 0=10:=rfl;exact⟨t,a,e,⟨f,by show _<=60;omega⟩,g⟩
 |succ d=>obtain⟨t,a,e,f,j,g⟩:=aoC aG (bk d rfl).1 (bk d rfl).2 hW c ad y;grind
theorem aa4(R:bg)(x:fa)(d:Int)(j:aa×Int×Int->Option (aa×fa))(k:aa×Int×Int×Int->Option (aa×fa))(s:aa)(c a b:Int):Cd R x d j k (s,c,a,b)=bif(decide (0<c)) then
 (au (lb (x.1,a,b) 8) λz=>(aZ (0<=z.1/\z.1<(jA.length:Int))<|(aZ (((s.length+(at' jA z.1).length:Nat):Int)<=9223372036854775807)<|(au (vD R (x.1,z.2.2.1,z.2.2.2) d) λv=>(aZ ((((s++(at' jA z.1)).length+v.1.length:Nat):Int)<=9223372036854775807)<|k (((s++(at' jA z.1))++v.1),(W (c-1)),v.2.2.1,v.2.2.2)))))) else j (s,a,b):=rfl
theorem aoE:∀h∈jA,h.length<=6:=by decide
theorem aoF{R:bg}{x:fa}{d:Int}{j:aa×Int×Int->Option (aa×fa)}{k:aa×Int×Int×Int->Option (aa×fa)}{s:aa}{c:Nat}{x0:aa}{st a b:fa}{t:aa}{v:Int}(aF:c<=10)(e:x.1=x0)(h:fm x0 st)(ad:fm x0 a)(f:lb st 8=some (v,a))(g:0<=v/\v<(jA.length:Int))(n:(at' jA v).length<=6)(i:vD R a d=some (t,b))(o:s.length<=900000)(l:t.length<=1000000):
  Cd R x d j k (s,((c+1:Nat):Int),st.2.1,st.2.2)=k (s++at' jA v++t,(c:Int),b.2.1,b.2.2):=by
 rw[aa4,decide_eq_true (show(0:Int)<((c+1:Nat):Int) by omega),aJ,e,h.st,f,aQ rfl];show aZ (0<=v/\v<(jA.length:Int)) _=_;rw[bS g];show aZ (((s.length+(at' jA v).length:Nat):Int)<=9223372036854775807) (au (vD R (x0,a.2.1,a.2.2) d) _)=_;rw[bS (xu s (at' jA v) (by omega) (by omega)),ad.st,i,aQ rfl,bS (xu (s++at' jA v) t (by grind) l)];have m:W (((c+1:Nat):Int)-1)=(c:Int):=by grind[dV]
 rw[m]
theorem aoG{R:bg}{d:Nat}(aG:d<=3)(m:∀{x0:aa}{st:fa},fm x0 st->∃t a,vD R st (d:Int)=some (t,a)/\(y1 d t/\t.length<=lc d)/\fm x0 a){x0:aa}{x:fa}(o:x.1=x0){j:aa×Int×Int->Option (aa×fa)}:∀(N c:Nat)(s:aa)(st:fa),c<N->c<=2->s.length<=200000+(2-c) *160010->fm x0 st->
  ∃l a,fixF (Cd R x (d:Int) j) N (s,(c:Int),st.2.1,st.2.2)=j (s++cY l,a.2.1,a.2.2)/\(∀p∈l,p.1∈jA/\y1 d p.2)/\(cY l).length<=c*(lc d+6)/\fm x0 a:=by
 obtain⟨_,_,B,_⟩:=qw aG;intro N;induction N with
 |zero=>omega
 |succ N e=>
  intro c s st aF C D h;rw[e7];generalize fixF (Cd R x (d:Int) j) N=k at e⊢;cases c with
  |zero=>rw[aa4];refine⟨[],st,?_,by simp,by simp[cY],h⟩;simp[cY]
  |succ c=>
   obtain⟨v,E,q,f,g,i⟩:=y0 h (n:=8) (by decide) (by decide);have hm:=at_mem (l:=jA) f g;have r:=aoE _ hm;obtain⟨t,u,w,⟨F,G⟩,y⟩:=m i;have b:(s++at' jA v++t).length<=200000+(2-c) *160010:=by grind
   rw[aoF (by omega) o h i q ⟨f,g⟩ r w (by omega) (by omega)];obtain⟨l,a,z,a2,a3,A⟩:=e c (s++at' jA v++t) u (by omega) (by omega) b y;rw[z];refine⟨(at' jA v,t)::l,a,?_,?_,?_,A⟩
   ·simp[cY]
   ·grind
   grind[cY]
theorem aoH(R:bg)(x0:fa)(a:Int)(sfx:aa):H4 R x0 a sfx=au (vD R x0 a) λy=>au (lb (x0.1,y.2.2.1,y.2.2.2) 3) λv=>
 fixF (Cd R x0 a (λz=>aZ (((z.1.length+sfx.length:Nat):Int)<=9223372036854775807)<|some ((z.1++sfx),(x0.1,z.2.1,z.2.2)))) bC (y.1,v.1,v.2.2.1,v.2.2.2):=rfl
theorem aoI{R:bg}{d:Nat}(aG:d<=3)(bk:∀b,d=b+1->C0 R b/\oX R b)(hW:oX R d)(f:oX R 0){x0:aa}{st:fa}{sfx:aa}(w:sfx.length<=1)(h:fm x0 st):∃t a,H4 R st (d:Int) sfx=some (t++sfx,a)/\iu d t/\t.length<=oW d/\fm x0 a:=by
 obtain⟨_,_,y,_⟩:=qw aG;obtain⟨t,g,o,⟨p,A⟩,i⟩:=aa3 aG bk hW f h;obtain⟨v,q,r,B,C,s⟩:=y0 i (n:=3) (by decide) (by decide)
 obtain⟨k,rfl⟩:∃k:Nat,v=(k:Int):=⟨v.toNat,by omega⟩
 obtain⟨l,c,u,a2,a3,m⟩:=aoG aG (λh=>aa3 aG bk hW f h) (x:=st) h.c (j:=λz=>aZ (((z.1.length+sfx.length:Nat):Int)<=9223372036854775807)<|some ((z.1++sfx),(x0,z.2.1,z.2.2))) bC k t q (by grind[gg]) (by omega) (by omega) s;have hk:k*(lc d+6)<=2*(lc d+6):=sQ _ (by omega);rw[aoH,o,aQ rfl,h.c];show∃e a,(au (lb (x0,g.2.1,g.2.2) 3) _)=some (e++sfx,a)/\_
 rw[i.st,r,aQ rfl,u];have D:=aod d;refine⟨t++cY l,c,?_,?_,by grind,m⟩
 ·show aZ ((((t++cY l).length+sfx.length:Nat):Int)<=9223372036854775807) (some ((t++cY l++sfx),(x0,c.2.1,c.2.2)))=_;rw[bS (xu _ _ (by grind) (by omega)),m.st]
 ·rw[Nk];exact⟨t,l,p,a2,rfl⟩
theorem aoJ:∀(k d:Nat),d<=3->(2*d+1<=k->oX (kD k) d)/\(2*d+2<=k->C0 (kD k) d):=by
 intro k;induction k with
 |zero=>omega
 |succ k a=>
  intro d aG;refine⟨λh x0 st c=>?_,λh x0 st sfx e c=>?_⟩
  ·obtain⟨t,f,g,⟨i,j⟩,l⟩:=aoh (R:=kD k) aG (λb m=>⟨(a b (by omega)).2 (by omega),(a b (by omega)).1 (by omega)⟩) c;exact⟨t,f,g,i,j,l⟩
  ·exact aoI (R:=kD k) aG (λb m=>⟨(a b (by omega)).2 (by omega),(a b (by omega)).1 (by omega)⟩) ((a d aG).1 (by omega)) ((a 0 (by omega)).1 (by omega)) e c
theorem aoK{x0:aa}{st:fa}{sfx:aa}(b:sfx.length<=1)(h:fm x0 st):∃t a,sn.hp st 3 sfx=some (t++sfx,a)/\iu 3 t/\t.length<=oW 3/\fm x0 a:=by
 have hk:8<=bC:=by simp[gg]
 exact(aoJ bC 3 (by omega)).2 hk x0 st sfx b h
def rN:aa:=[99,97,116,32,60,60,69,59,32]
def mn:aa:=[10,98,111,100,121,10,69,10]
noncomputable def FX(c:aa)(t:aa):(Int×fa)->Option aa:=λz=>
 (bif(decide (z.1=0)) then(aZ (((rN.length+t.length:Nat):Int)<=9223372036854775807)<|(aZ ((((rN++t).length+mn.length:Nat):Int)<=9223372036854775807)<|some ((rN++t)++mn))) else some t)
theorem mk_eq(x0:aa):Cf x0=au (EE x0) λa=>au (sn.hp (x0,a.2.1,a.2.2) 3 []) λv=>au (lb (x0,v.2.2.1,v.2.2.2) 4) λz=>FX x0 v.1 z:=rfl
theorem aoL{c t:aa}{st:fa}(a:t.length<=900000):FX c t (0,st)=some (rN++t++mn):=by unfold FX;show(bif decide ((0:Int)=0) then _ else _)=_;rw[decide_eq_true rfl,aJ,bS (xu rN t (by decide) (by omega)),bS (xu (rN++t) mn (by simp only[C8];have:rN.length=9:=rfl;omega) (by decide))]
theorem aoM{c t:aa}{v:Int}{st:fa}(a:¬v=0):FX c t (v,st)=some t:=by unfold FX;grind
theorem aoN(x0:aa)(f:x0.length<=1048576):∃t T,Cf x0=some T/\iu 3 t/\t.length<=460000/\(T=t\/T=rN++t++mn):=by
 obtain⟨st,g,ad⟩:=aoc x0 f;obtain⟨t,a,b,j,k,c⟩:=aoK (sfx:=[]) (by decide) ad;rw[rP] at b;obtain⟨v,l,h,a2,a3,m⟩:=y0 c (n:=4) (by decide) (by decide);have hl:oW 3<=460000:=(qw (d:=3) (by decide)).2.1;rw[mk_eq,g,aQ rfl,b,aQ rfl];show∃i T,(au (lb (x0,a.2.1,a.2.2) 4) λz=>FX x0 t z)=some T/\_
 rw[c.st,h,aQ rfl];by_cases e:v=0
 ·subst e;rw[aoL (by omega)];grind
 ·rw[aoM e];grind
end Go.Eng
namespace Go.Eng
structure fk where
 E:ll
 ok:E.mT
 c0:Nat
def bW(X:fk)(P:aa->Prop)(pd:ao){α:Type}:dD α->Prop
 | .ok _ r' a=>(P r'/\a=pd)\/X.E.H X.c0 r' a
 | .deep _=>False
 |_=>True
theorem ll.H.Nm{E:ll}{n m:Nat}{r:aa}{pd:ao}(h:E.H n r pd)(hm:n<=m):E.H m r pd:=⟨h.sfx,by have:=h.le;omega,h.q⟩
theorem bW.TN{X:fk}{P:aa->Prop}{b:ao}{α:Type}{n:Nat}(aw:X.c0<=n){f:ak α}(hf:ai X.E n f){r:aa}{pd:ao}(h:X.E.H X.c0 r pd):bW X P b (f r pd):=by
 have:=hf r pd (h.Nm aw);cases hm:f r pd with
 |ok a r' c=>rw[hm] at this;exact .inr (h.down X.ok this.1 this.2)
 |more _ _ _=>trivial
 |bad _=>trivial
 |deep _=>rw[hm] at this;exact this
theorem bW.ae{X:fk}{P c:aa->Prop}{pd b:ao}{α β:Type}{n:Nat}(aw:X.c0<=n){m:ak α}{k:α->ak β}{r:aa}(h:bW X P pd (m r b))(hk:∀a r',m r b= .ok a r' pd->P r'->bW X c pd (k a r' pd))(he:∀a,ai X.E n (k a)):bW X c pd (Go.Eng.ae m k r b):=by
 unfold Go.Eng.ae;cases hm:m r b with
 |ok a r' d=>
  rw[hm] at h;rcases h with⟨ad,rfl⟩|ad
  ·grind
  grind[bW.TN]
 |more _ _ _=>trivial
 |bad _=>trivial
 |deep _=>rw[hm] at h;exact h
theorem bW.imp{X:fk}{P b:aa->Prop}{pd:ao}{α:Type}{x:dD α}(h:bW X P pd x)(aB:∀r,P r->b r):bW X b pd x:=by
 cases x with
 |ok a r' d=>
  rcases h with⟨ad,c⟩|ad
  ·exact .inl ⟨aB _ ad,c⟩
  ·exact .inr ad
 |more _ _ _=>trivial
 |bad _=>trivial
 |deep _=>exact h
theorem bW.aK{X:fk}{P:aa->Prop}{pd a:ao}{α:Type}{m:ak α}{x r:aa}(h:bW X P pd (m r a)):bW X P pd (m.aK x r a):=by unfold ak.aK;cases hm:m r a<;>rw[hm] at h<;>first|exact h|trivial
theorem bW.named{X:fk}{P:aa->Prop}{pd a:ao}{α:Type}{m:ak α}{x r:aa}(h:bW X P pd (m r a)):bW X P pd (m.named x r a):=by unfold ak.named;cases hm:m r a<;>rw[hm] at h<;>first|exact h|trivial
def oq(X:fk){α:Type}(x:dD α):Prop:=match x with
 | .ok _ r' a=>X.E.H X.c0 r' a
 | .deep _=>False
 |_=>True
def jB(X:fk){α:Type}(x y:dD α):Prop:=x=y\/oq X x
theorem jB.refl{X:fk}{α:Type}(x:dD α):jB X x x:= .inl rfl
theorem jB.trans{X:fk}{α:Type}{x y z:dD α}(h:jB X x y)(a:jB X y z):jB X x z:=by
 rcases h with rfl|h
 ·exact a
 ·exact .inr h
theorem jB.Jk{X:fk}{P:aa->Prop}{pd:ao}{α:Type}{x y:dD α}(h:jB X x y)(b:bW X P pd y):bW X P pd x:=by
 rcases h with rfl|h
 ·exact b
 ·cases x with
  |ok a r' c=>exact .inr h
  |more _ _ _=>trivial
  |bad _=>trivial
  |deep _=>exact h
theorem jB.rep{X:fk}{σ α:Type}{n:Nat}(aw:X.c0<=n){f:σ->ak (σ⊕α)}(hf:∀s,ai X.E n (f s)){s s':σ}{r v:aa}{pd:ao}(hl:v.length<r.length)
  (h:f s r pd= .ok (.inl s') v pd\/oq X (f s r pd)):jB X (b8 f s r pd) (b8 f s' v pd):=by
 rw[cm f s r pd];rcases h with h|h
 ·rw[h];left;show(if v.length<r.length then b8 f s' v pd else .bad v)=_;grind
 ·right;cases hm:f s r pd with
  |ok x r' b=>
   rw[hm] at h;cases x with
   |inl s2=>
    unfold cK;simp only;by_cases ad:r'.length<r.length
    ·rw[bh ad];have:=ai.rep X.ok hf s2 r' b (h.Nm aw);cases c:b8 f s2 r' b with
     |ok a d e=>rw[c] at this;exact h.down X.ok this.1 this.2
     |more _ _ _=>trivial
     |bad _=>trivial
     |deep _=>rw[c] at this;exact this
    ·rw[aO ad];trivial
   |inr a=>exact h
  |more _ _ _=>trivial
  |bad _=>trivial
  |deep _=>rw[hm] at h;exact h
def dz(X:fk)(pd:ao)(u:aa):Prop:=∀t r',10::t<:+u->l3 pd t= .inl r'->pd=[]\/X.E.H X.c0 r' []
theorem dz.sfx{X:fk}{pd:ao}{u v:aa}(h:dz X pd u)(a:v<:+u):dz X pd v:=λt r' b c=>h t r' (b.trans a) c
theorem dz.nil{X:fk}{u:aa}:dz X [] u:=λ_ _ _ _=> .inl rfl
theorem aoO{X:fk}{t:aa}{pd:ao}(h:dz X pd (10::t)):bW X (λr=>r=t) pd (iV (10::t) pd):=by
 show bW X _ pd (match l3 pd t with| .inl r'=>dD.ok () r' []| .inr nd=> .more [[60,60]] nd []);cases a:l3 pd t with
 |inl r'=>
  rcases h t r' fM a with rfl|ad
  ·cases a;exact .inl ⟨rfl,rfl⟩
  ·exact .inr ad
 |inr nd=>trivial
abbrev v9(D:ak Unit):ak Unit:=cw D (some (ey D))
def Jl(D:ak Unit):Unit->ak (Unit⊕Unit):=λ_ r pd=>match r with
 |[]=>b5 [] r pd
 |_::_=>if cT r then .ok (.inr ()) r pd else(ae (v9 D) λ_=>aX (.inl ())) r pd
def FY(c:UInt8)(p:ak Unit):Unit->ak (Unit⊕Unit):=λ_ r pd=>match r with
 |[]=>b5 [] r pd
 |b::t=>if b=c then .ok (.inr ()) t pd else(ae p λ_=>aX (.inl ())) r pd
theorem TO(D:ak Unit):cG D=b8 (Jl D) ():=rfl
theorem aa6(c:UInt8)(p:ak Unit):iO c p=b8 (FY c p) ():=rfl
section
variable{X:fk}{m:Nat}(hm:X.c0<=m){D:ak Unit}(hD:ai X.E m D)
theorem aoP(hD:ai X.E m D)(s:Unit):ai X.E m (Jl D s):=by
 intro r pd h;unfold Jl;cases r with
 |nil=>trivial
 |cons b t=>
  simp only;by_cases a:cT (b::t)=true
  ·rw[bh a];exact⟨fM,h.q⟩
  ·rw[aO a];exact ai.ae X.ok (ai.yB X.ok hD) (λ_=>ai.ret _) _ _ h
theorem aoQ{p:ak Unit}(aB:ai X.E m p)(c:UInt8)(s:Unit):ai X.E m (FY c p s):=by
 intro r pd h;unfold FY;cases r with
 |nil=>trivial
 |cons b t=>
  simp only;by_cases a:b=c
  ·rw[bh a];exact⟨eb _ _,(h.qn X.ok (eb b t)).q⟩
  ·rw[aO a];exact ai.ae X.ok aB (λ_=>ai.ret _) _ _ h
theorem oq.inl{x:ak Unit}{r:aa}{pd:ao}(h:oq X (x r pd)):oq X (ae x (λ_=>(aX (.inl ()):ak (Unit⊕Unit))) r pd):=by
 unfold ae;cases b:x r pd with
 |ok a r' c=>rw[b] at h;exact h
 |more _ _ _=>trivial
 |bad _=>trivial
 |deep _=>rw[b] at h;exact h
include hm hD
theorem aa7{p v:aa}{pd:ao}(a:cT (p++v)=false)(aB:p≠[])(h:v9 D (p++v) pd= .ok () v pd\/oq X (v9 D (p++v) pd)):jB X (cG D (p++v) pd) (cG D v pd):=by
 rw[TO];have hl:v.length<(p++v).length:=by grind[List.length_pos_iff]
 refine jB.rep hm (aoP hD) hl ?_;have he:Jl D () (p++v) pd=ae (v9 D) (λ_=>aX (.inl ())) (p++v) pd:=by unfold Jl;grind
 rw[he];rcases h with h|h
 ·left;rw[aM h];rfl
 ·right;exact h.inl
theorem Nn{p v:aa}{pd:ao}{c:UInt8}{q:ak Unit}(a:ai X.E m q)(aF:p.head?≠some c)(aB:p≠[])(h:q (p++v) pd= .ok () v pd\/oq X (q (p++v) pd)):jB X (iO c q (p++v) pd) (iO c q v pd):=by
 rw[aa6];have hl:v.length<(p++v).length:=by grind[List.length_pos_iff]
 refine jB.rep hm (aoQ a c) hl ?_;have he:FY c q () (p++v) pd=ae q (λ_=>aX (.inl ())) (p++v) pd:=by
  unfold FY;cases p with
  |nil=>grind
  |cons b t=>grind
 rw[he];rcases h with h|h
 ·left;rw[aM h];rfl
 ·right;exact h.inl
end
def eH(X:fk)(D:ak Unit)(w:aa):Prop:=∀v pd,v≠[]->dz X pd (w++v)->jB X (cG D (w++v) pd) (cG D v pd)/\jB X (iO 125 (v9 D) (w++v) pd) (iO 125 (v9 D) v pd)
theorem y2{b:UInt8}{t:aa}(ad:gb b=false)(a:b≠10)(c:oM b=false):cT (b::t)=false:=by show(gb b||b==10||bs (b::t)!=[])=false;grind[nx]
section
variable{X:fk}{m:Nat}(hm:X.c0<=m){D:ak Unit}(hD:ai X.E m D)
theorem eH.app{d c:aa}(ad:eH X D d)(f:eH X D c):eH X D (d++c):=by intro v pd e aw;rw[uV] at aw⊢;have a:=ad (c++v) pd (by simp[e]) aw;have b:=f v pd e (aw.sfx (gS _ _));exact⟨a.1.trans b.1,a.2.trans b.2⟩
include hm hD
theorem eH.part{p:aa}(b:∀v,cT (p++v)=false)(aB:p≠[])(aF:p.head?≠some 125)(h:∀v pd,v≠[]->dz X pd (p++v)->v9 D (p++v) pd= .ok () v pd\/oq X (v9 D (p++v) pd)):eH X D p:=by intro v pd a aw;exact⟨aa7 hm hD (b v) aB (h v pd a aw),Nn hm (hD:=hD) (ai.yB X.ok hD) aF aB (h v pd a aw)⟩
theorem eH.byte{b:UInt8}(ad:gb b=false)(a:b≠10)(c:oM b=false)(d:b≠92/\b≠39/\b≠34/\b≠96/\b≠36/\b≠125):eH X D [b]:=by refine eH.part hm hD (λv=>y2 ad a c) (by simp) (by grind) (λv pd e aw=> .inl ?_);simp_all[cw,sx]
theorem eH.bytes:∀{w:aa},w≠[]->(w.all λb=> !gb b&&b !=10&& !oM b&&b !=92&&b !=39&&b !=34&&b !=96&&b !=36&&b !=125)=true->eH X D w
 |[],h,_=>absurd rfl h
 |[b],_,h=>by grind[eH.byte]
 |b::c::t,_,h=>by rw[AQ,hL] at h;have h0:=h.1;simp at h0;have a:eH X D [b]:=eH.byte hm hD h0.1.1.1.1.1.1.1.1 h0.1.1.1.1.1.1.1.2 h0.1.1.1.1.1.1.2 ⟨h0.1.1.1.1.1.2,h0.1.1.1.1.2,h0.1.1.1.2,h0.1.1.2,h0.1.2,h0.2⟩;have d:=eH.bytes (w:=c::t) (by simp) h.2;have:=a.app d;exact this
theorem eH.single{x:aa}(a:(39:UInt8)∉x):eH X D (39::x++[39]):=by
 have c:∀v,gd (x++39::v)=some v:=by
  intro v;induction x with
  |nil=>rfl
  |cons b t d=>simp only[kX,Gb] at a;simp_all[gd,xE]
 refine eH.part hm hD (λv=>y2 (by decide) (by decide) (by decide)) (by simp) (by simp) (λv pd e aw=> .inl ?_);simp_all[cw,sx,js]
theorem eH.tick{x:aa}(a:∀v,gZ (x++96::v)=some v):eH X D (96::x++[96]):=by refine eH.part hm hD (λv=>y2 (by decide) (by decide) (by decide)) (by simp) (by simp) (λv pd b aw=> .inl ?_);show cw D (some (ey D)) (96::(x++[96]++v)) pd=_;simp_all[cw,js]
theorem eH.aa8(b:UInt8):eH X D [92,b]:=by refine eH.part hm hD (λv=>y2 (by decide) (by decide) (by decide)) (by simp) (by simp) (λv pd a aw=> .inl ?_);rfl
end
def tJ(X:fk)(D:ak Unit)(x:aa):Prop:=∀v pd,v≠[]->dz X pd (x++v)->jB X (iO 34 (cw D none) (x++v) pd) (iO 34 (cw D none) v pd)
theorem aa9{c:UInt8}{p:ak Unit}{v:aa}{pd:ao}:iO c p (c::v) pd= .ok () v pd:=by simp[aa6,cm,FY,cK]
section
variable{X:fk}{m:Nat}(hm:X.c0<=m){D:ak Unit}(hD:ai X.E m D)
theorem tJ.app{b a:aa}(ad:tJ X D b)(d:tJ X D a):tJ X D (b++a):=by intro v pd c aw;rw[uV] at aw⊢;exact(ad (a++v) pd (by simp[c]) aw).trans (d v pd c (aw.sfx (gS _ _)))
theorem jB.named{x:aa}{α:Type}{f g:ak α}{r r':aa}{pd a:ao}(h:jB X (f r pd) (g r' a)):jB X (f.named x r pd) (g.named x r' a):=by
 rcases h with h|h
 ·left;grind[ak.named]
 ·right;unfold ak.named;cases hf:f r pd<;>rw[hf] at h<;>first|exact h|trivial
theorem jB.aK{x:aa}{α:Type}{f g:ak α}{r r':aa}{pd a:ao}(h:jB X (f r pd) (g r' a)):jB X (f.aK x r pd) (g.aK x r' a):=by
 rcases h with h|h
 ·left;grind[ak.aK]
 ·right;unfold ak.aK;cases hf:f r pd<;>rw[hf] at h<;>first|exact h|trivial
include hm hD
theorem eH.double{x:aa}(a:tJ X D x):eH X D (34::x++[34]):=by
 refine eH.part hm hD (λv=>y2 (by decide) (by decide) (by decide)) (by simp) (by simp) (λv pd d aw=>?_);have he:v9 D (34::x++[34]++v) pd=ey D (x++34::v) pd:=by simp[cw,sx]
 rw[he];have b:dz X pd (x++34::v):=aw.sfx ⟨[34],by simp⟩;have ad:jB X (ey D (x++34::v) pd) (ey D (34::v) pd):=(a (34::v) pd (by simp) b).aK.named;have c:ey D (34::v) pd= .ok () v pd:=by simp[ey,ak.named,ak.aK,aa9]
 rw[c] at ad;exact ad
theorem tJ.byte{b:UInt8}(c:b≠92/\b≠34/\b≠96/\b≠36):tJ X D [b]:=by intro v pd d aw;refine Nn hm (hD:=hD) (ai.part X.ok hD (λq a=>by cases a)) (by grind) (by simp) (.inl ?_);simp_all[cw,sx]
theorem eH.TP:eH X D [36,120]:=by
 intro v pd d aw;have ad:v9 D (36::120::v) pd= .ok () (120::v) pd:=by rfl
 have a:=eH.byte hm hD (b:=120) (by decide) (by decide) (by decide) (by decide) v pd d (aw.sfx (eb _ _));have e:=aa7 hm hD (p:=[36]) (v:=120::v) (pd:=pd) (y2 (by decide) (by decide) (by decide)) (by simp) (.inl ad);have a2:=Nn hm (hD:=hD) (p:=[36]) (v:=120::v) (pd:=pd) (c:=125) (ai.yB X.ok hD) (by simp) (by simp) (.inl ad);exact⟨e.trans a.1,a2.trans a.2⟩
theorem eH.arith{lo:Option dS}(hl:D=dd lo):eH X D [36,40,40,49,43,40,50,41,41,41]:=by refine eH.part hm hD (λv=>y2 (by decide) (by decide) (by decide)) (by simp) (by simp) (λv pd a aw=> .inl ?_);show cw D (some (ey D)) (36::40::40::49::43::40::50::41::41::41::v) pd=_;unfold cw;simp only;rw[aO (by decide),aO (by decide),bh (by rfl),hl];rfl
theorem eH.consts{lo:Option dS}(hl:D=dd lo):∀w∈oV,eH X D w:=by
 have a:∀{w:aa},w≠[]->(w.all λb=> !gb b&&b !=10&& !oM b&&b !=92&&b !=39&&b !=34&&b !=96&&b !=36&&b !=125)=true->eH X D w:=λad d=>eH.bytes hm hD ad d
 intro w c;simp only[oV,FW,hF,tM,kX,qx,tN] at c;rcases c with rfl|rfl|rfl|rfl|rfl|rfl|rfl|rfl|rfl|rfl|rfl|rfl|rfl|rfl|rfl
 ·exact eH.single hm hD (x:=[113,32,114]) (by decide)
 ·exact eH.double hm hD (x:=[97,32,98]) (((tJ.byte hm hD (b:=97) (by decide)).app (tJ.byte hm hD (b:=32) (by decide))).app (tJ.byte hm hD (b:=98) (by decide)))
 ·exact((a (w:=[97]) (by simp) (by decide)).app (eH.aa8 hm hD 32)).app (a (w:=[98]) (by simp) (by decide))
 ·grind[eH.TP]
 ·grind[eH.arith]
 ·exact eH.tick hm hD (x:=[99,32,100]) (λv=>by simp[gZ];unfold gZ;simp)
 ·exact a (by simp) (by decide)
 ·exact((a (w:=[97]) (by simp) (by decide)).app (eH.aa8 hm hD 10)).app (a (w:=[98]) (by simp) (by decide))
 ·exact a (by simp) (by decide)
 ·exact a (by simp) (by decide)
 ·exact a (by simp) (by decide)
 ·exact a (by simp) (by decide)
 ·exact a (by simp) (by decide)
 ·exact a (by simp) (by decide)
 ·exact a (by simp) (by decide)
end
def ot(d:Nat)(x:aa):Prop:=∀v,hR d (x++v)=hR d v\/∃q,hR d (x++v)= .bad q
def dI(x:aa):Prop:=∀d,ot d x
theorem ot.app{d:Nat}{x y:aa}(ad:ot d x)(a:ot d y):ot d (x++y):=by
 intro v;rw[uV];rcases ad (y++v) with h|h
 ·rw[h];exact a v
 grind
theorem dI.app{x y:aa}(ad:dI x)(a:dI y):dI (x++y):=λd=>(ad d).app (a d)
theorem dI.nil:dI []:=λd v=> .inl rfl
theorem dI.bad{b:UInt8}{x:aa}(h:b=39\/b=34\/b=92\/b=96):dI (b::x):=by intro d v;right;rw[hF,vI,bh (by grind)];simp
theorem dI.opens{c:UInt8}{x:aa}(h:c=40\/c=123):dI (36::c::x):=by intro d v;right;rw[List.cons_append,vI,if_pos (by grind[fJ])];simp
theorem dI.byte{b:UInt8}(h:b≠39/\b≠34/\b≠92/\b≠96/\b≠36/\b≠40/\b≠41):dI [b]:=by intro d v;simp_all[vI,sx]
theorem dI.bytes:∀{w:aa},(w.all λb=>b !=39&&b !=34&&b !=92&&b !=96&&b !=36&&b !=40&&b !=41)=true->dI w
 |[],_=>dI.nil
 |b::t,h=>by rw[AQ,hL] at h;have h0:=h.1;simp at h0;have:=(dI.byte (b:=b) ⟨h0.1.1.1.1.1.1,h0.1.1.1.1.1.2,h0.1.1.1.1.2,h0.1.1.1.2,h0.1.1.2,h0.1.2,h0.2⟩).app (dI.bytes h.2);exact this
theorem dI.paren{x:aa}(h:dI x):dI ([40]++x++[41]):=by
 intro d v;have ad:hR d ([40]++x++[41]++v)=hR (d+1) (x++41::v):=by show hR d (40::(x++[41]++v))=_;simp[vI,fJ]
 rw[ad];rcases h (d+1) (41::v) with af|af
 ·simp_all[vI,fJ]
 grind
theorem dI.TP:dI [36,120]:=by intro d v;simp[vI,fJ]
theorem dI.consts:∀w∈oV,dI w:=by
 intro w a;simp only[oV,FW,hF,tM,kX,qx,tN] at a;rcases a with rfl|rfl|rfl|rfl|rfl|rfl|rfl|rfl|rfl|rfl|rfl|rfl|rfl|rfl|rfl
 ·simp[dI.bad]
 ·simp[dI.bad]
 ·exact(dI.bytes (w:=[97]) (by decide)).app (dI.bad (b:=92) (x:=[32,98]) (by simp))
 ·exact dI.TP
 ·simp[dI.opens]
 ·simp[dI.bad]
 ·simp[dI.bytes]
 ·exact(dI.bytes (w:=[97]) (by decide)).app (dI.bad (b:=92) (x:=[10,98]) (by simp))
 ·simp[dI.bytes]
 ·simp[dI.bytes]
 ·simp[dI.bytes]
 ·simp[dI.bytes]
 ·simp[dI.bytes]
 ·simp[dI.bytes]
 simp[dI.bytes]
theorem dI.word{d:Nat}{w:aa}(h:hY d w):dI w:=by
 cases d with
 |zero=>exact dI.consts w h
 |succ d=>
  rcases h with h|⟨t,_,h|h⟩|⟨v,_,h⟩
  ·grind[dI.consts]
  ·simp_all[dI.opens]
  ·grind[dI.bad]
  simp_all[dI.opens]
theorem dI.args{W:aa->Prop}(hW:∀w,W w->dI w):∀{ws:bt},(∀w∈ws,W w)->dI (jQ ws)
 |[],_=>dI.nil
 |w::t,h=>by have:=(dI.bytes (w:=[32]) (by decide)).app ((hW w (h w (by simp))).app (dI.args hW (ws:=t) (λw a=>h w (by grind))));exact this
theorem aoR:∀h∈sI,dI h:=by intro h a;simp only[sI,kX,qx,tN] at a;rcases a with rfl|rfl|rfl|rfl<;>exact dI.bytes (by decide)
theorem dI.simple{W a:aa->Prop}(hW:∀w,W w->dI w)(e:∀w,a w->dI w){s:aa}(h:rM W a s):dI s:=by
 obtain⟨c,ws,r,ad,b,rfl,d⟩:=h;refine((aoR c ad).app (dI.args hW b)).app ?_;rcases d with rfl|rfl|⟨w,f,rfl⟩
 ·exact dI.nil
 ·simp[dI.bytes]
 grind[dI.bytes,dI.app]
theorem aoS:∀h∈jA,dI h:=by intro h a;simp only[jA,kX,qx,tN] at a;rcases a with rfl|rfl|rfl|rfl|rfl|rfl|rfl|rfl<;>exact dI.bytes (by decide)
theorem ot.rest{d:Nat}{C:aa->Prop}(a:∀c,C c->ot d c):∀{l:List (aa×aa)},(∀p∈l,p.1∈jA/\C p.2)->ot d (cY l)
 |[],_=>dI.nil d
 |p::t,h=>by have:=((aoS p.1 (h p (by simp)).1 d).app (a p.2 (h p (by simp)).2)).app (ot.rest a (l:=t) (λq b=>h q (by grind)));exact this
theorem ot.aoT{c:aa}(h:y1 1 c):ot 0 c:=by
 rcases h with h|h
 ·exact dI.simple (λw f=>dI.word (d:=1) f) (λw f=>dI.word (d:=0) f) h 0
 ·have bk:∀t,iu 0 t->dI t:=λt j=>by
   intro d;obtain⟨c,l,ad,e,rfl⟩:=j;have i:∀c,rM (λw=>w∈oV) (λw=>w∈oV) c->ot d c:=λc aF=>dI.simple dI.consts dI.consts aF d
   exact(i c ad).app (ot.rest i e)
  have hW:∀w,hY 0 w->dI w:=λw f=>dI.consts w f
  have a:∀{w:aa},(w.all λb=>b !=39&&b !=34&&b !=92&&b !=96&&b !=36&&b !=40&&b !=41)=true->dI w:=λh=>dI.bytes h
  rcases h with⟨t,ad,rfl⟩|⟨t,ad,rfl⟩|⟨t,u,ad,e,rfl⟩|⟨t,u,ad,e,rfl⟩|⟨t,u,ad,e,rfl⟩|⟨w,u,ad,e,rfl⟩|rfl|⟨w,u,ad,e,rfl⟩|⟨t,ad,rfl⟩
  ·exact dI.paren (bk t ad) 0
  ·exact(((a (by decide)).app ((bk t ad).app (a (by decide)))).app (a (by decide))) 0
  ·exact(((((a (by decide)).app ((bk t ad).app (a (by decide)))).app (a (by decide))).app ((bk u e).app (a (by decide)))).app (a (by decide))) 0
  ·exact(((((a (by decide)).app ((bk t ad).app (a (by decide)))).app (a (by decide))).app ((bk u e).app (a (by decide)))).app (a (by decide))) 0
  ·exact(((((a (by decide)).app ((bk t ad).app (a (by decide)))).app (a (by decide))).app ((bk u e).app (a (by decide)))).app (a (by decide))) 0
  ·exact(((((a (by decide)).app (hW w ad)).app (a (by decide))).app ((bk u e).app (a (by decide)))).app (a (by decide))) 0
  ·exact a (by decide) 0
  ·
   have g:ot 0 ([99,97,115,101,32]++w++[32,105,110,32,97,124,98]):=(((a (by decide)).app (hW w ad)).app (a (by decide))) 0;intro v;have he:[99,97,115,101,32]++w++[32,105,110,32,97,124,98,41,32]++(u++[])++[59,59,10,40,99,41,32,59,59,32,100,41,32,101,115,97,99]++v=([99,97,115,101,32]++w++[32,105,110,32,97,124,98])++(41::32::(u++[59,59,10,40,99,41,32,59,59,32,100,41,32,101,115,97,99]++v)):=by simp
   rw[he];right;rcases g (41::32::(u++[59,59,10,40,99,41,32,59,59,32,100,41,32,101,115,97,99]++v)) with aW|aW
   ·simp_all[vI]
   omega
  ·have g:dI ([102]++([40]++[]++[41])++[32,123,10]++(t++[10])++[125,32,62,102]):=((((a (by decide)).app (dI.paren dI.nil)).app (a (by decide))).app ((bk t ad).app (a (by decide)))).app (a (by decide));exact g 0
theorem ot.aoU{d:Nat}(aG:d<=1){t:aa}(h:iu d t):ot 0 t:=by
 rw[Nk] at h;obtain⟨c,l,ad,e,rfl⟩:=h
 have b:∀c,y1 d c->ot 0 c:=by
  intro c aF;rcases Nat.le_one_iff_eq_zero_or_eq_one.1 aG with rfl|rfl
  ·exact dI.simple (λw a=>dI.word (d:=0) a) (λw a=>dI.word (d:=0) a) aF 0
  grind[ot.aoT]
 exact(b c ad).app (ot.rest b e)
def TQ(X:fk)(m d:Nat):Prop:=∀t v pd,iu d t->dz X pd (t++41::v)->bW X (λr=>r=41::v) pd ((aR true m).ls .paren true (t++41::v) pd)
theorem y3(v:aa):bp (41::v)=some (41::v):=by unfold bp;rfl
theorem y4(v:aa):ar (41::v)= .op [41]:=by rfl
theorem aoV{d:Nat}{c:aa}(h:y1 d c):∃b t,c=b::t/\(b=40->∃a u,d=a+1/\iu a u/\c=[40]++u++[41]):=by
 have g:∀{W f:aa->Prop},rM W f c->∃b t,c=b::t/\(b=40->∃a u,d=a+1/\iu a u/\c=[40]++u++[41]):=by rintro W f ⟨x,ws,r,ad,e,rfl,i⟩;simp only[sI,kX,qx,tN] at ad;grind
 cases d with
 |zero=>exact g h
 |succ d=>
  rcases h with h|h
  ·grind
  ·rcases h with⟨t,ad,rfl⟩|⟨t,ad,rfl⟩|⟨t,u,ad,e,rfl⟩|⟨t,u,ad,e,rfl⟩|⟨t,u,ad,e,rfl⟩|⟨w,u,ad,e,rfl⟩|rfl|⟨w,u,ad,e,rfl⟩|⟨t,ad,rfl⟩
   ·grind
   all_goals simp
theorem aoW:∀j∈jA,∃b t,j=b::t/\b≠41:=by simp[jA]
section
variable{X:fk}{m:Nat}(hm:X.c0<=m)
include hm in
theorem aa_{d:Nat}(aG:d<=2)(ek:TQ X m d)(bk:w5 X.E m){t v:aa}{pd:ao}(ht:iu d t)(aw:dz X pd ([36,40]++t++[41]++v)):dd (some (aR true m)) ([36,40]++t++[41]++v) pd= .ok () v pd\/oq X (dd (some (aR true m)) ([36,40]++t++[41]++v) pd):=by
 have he:[36,40]++t++[41]++v=36::40::(t++41::v):=by simp
 rw[he] at aw⊢;have uI:=ht;rw[Nk] at uI;obtain⟨c,l,ad,af,mr⟩:=uI;obtain⟨b,mX,aF,gF⟩:=aoV ad;by_cases hb:b=40
 ·
  obtain⟨d1,u,rfl,hu,MF⟩:=gF hb;subst mr;have c_:dd (some (aR true m)) (36::40::(c++cY l++41::v)) pd=ns (u++(41::(cY l++41::v))) pd:=by rw[MF];unfold dd;rw[bh (by simp)];show ns _ pd=_;simp
  rw[c_];unfold ns;rcases ot.aoU (by omega) hu (41::(cY l++41::v)) with av|⟨q,av⟩
  ·rw[av];cases l with
   |nil=>left;rfl
   |cons p l=>
    obtain⟨aoX,aoY,ct,ash⟩:=aoW p.1 (af p (by simp)).1;right
    have:∃q,hR 0 (41::(cY (p::l)++41::v))= .bad q:=by
     have aj:cY (p::l)++41::v=aoX::(aoY++p.2++cY l++41::v):=by grind[cY]
     simp_all[vI]
    obtain⟨q,aE⟩:=this;rw[aE];trivial
  ·right;rw[av];trivial
 ·have c_:dd (some (aR true m)) (36::40::(t++41::v)) pd=sq (aR true m) (t++41::v) pd:=by
   have aba:∃Rq,t=b::Rq:=⟨mX++cY l,by grind⟩
   obtain⟨Rq,aba⟩:=aba;unfold dd;rw[aO (by grind),if_pos (by simp)];rfl
  rw[c_];have hG:dz X pd (t++41::v):=aw.sfx ⟨[36,40],rfl⟩;have av:=ek t v pd ht hG;have aW:bW X (λr=>r=v) pd (sq (aR true m) (t++41::v) pd):=by unfold sq;refine bW.ae hm av.aK.named (λa r' _ w_=>?_) (λa=>ai.ji X.ok _);subst w_;rw[E_ (y3 v) (y4 v)];exact .inl ⟨rfl,rfl⟩
  cases aB:sq (aR true m) (t++41::v) pd with
  |ok a r' aC=>
   rw[aB] at aW;rcases aW with⟨rfl,rfl⟩|aW
   ·simp
   ·exact .inr aW
  |more _ _ _=>right;trivial
  |bad _=>right;trivial
  |deep _=>rw[aB] at aW;exact aW.elim
end
theorem aoZ(n:Nat):(aR true n).pm=qT (aR true n).dl:=by cases n<;>rfl
theorem abb{E:ll}(ok:E.mT){m:Nat}(bk:w5 E m):ai E (m+1) (dd (some (aR true m))):=ai.RH ok (.inr ⟨m,rfl,rfl,bk⟩)
section
variable{X:fk}{m:Nat}(hm:X.c0<=m)(bk:w5 X.E m)
include hm bk
theorem ao0{w v:aa}{pd:ao}(c:eH X (aR true m).dl w)(aw:dz X pd ([36,123,120,58,45]++w++[125]++v)):dd (some (aR true m)) ([36,123,120,58,45]++w++[125]++v) pd= .ok () v pd\/oq X (dd (some (aR true m)) ([36,123,120,58,45]++w++[125]++v) pd):=by
 have he:[36,123,120,58,45]++w++[125]++v=36::123::([120,58,45]++(w++125::v)):=by simp
 rw[he] at aw⊢;have d:dd (some (aR true m)) (36::123::([120,58,45]++(w++125::v))) pd=((aR true m).pm.named [36,123]) ([120,58,45]++(w++125::v)) pd:=by rfl
 rw[d,aoZ];have a:dz X pd ([120,58,45]++(w++125::v)):=aw.sfx ⟨[36,123],rfl⟩;have ad:=(eH.bytes hm bk.dl (w:=[120,58,45]) (by simp) (by decide) (w++125::v) pd (by simp) a).2;have e:=(c (125::v) pd (by simp) (a.sfx (gS _ _))).2;have b:=(ad.trans e);rw[aa9] at b;have f:jB X (((qT (aR true m).dl).named [36,123]) ([120,58,45]++(w++125::v)) pd) (.ok () v pd):=by have:jB X (((iO 125 (v9 (aR true m).dl)).aK [125]).named [36,123] ([120,58,45]++(w++125::v)) pd) (((aX ():ak Unit).aK [125]).named [36,123] v pd):=jB.named (jB.aK b);exact this
 exact f
theorem eH.TR{p:aa}(aB:∃c q,p=36::c::q/\(c=40\/c=123))(h:∀v pd,v≠[]->dz X pd (p++v)->dd (some (aR true m)) (p++v) pd= .ok () v pd\/oq X (dd (some (aR true m)) (p++v) pd)):eH X (dd (some (aR true m))) p/\tJ X (dd (some (aR true m))) p:=by
 obtain⟨c,q,rfl,aF⟩:=aB;have hD:=abb X.ok bk
 have d:∀dq v pd,cw (dd (some (aR true m))) dq (36::c::q++v) pd=dd (some (aR true m)) (36::c::q++v) pd:=by intro dq v pd;show cw (dd (some (aR true m))) dq (36::c::(q++v)) pd=_;unfold cw;simp only;rw[aO (by decide),aO (by decide),bh (by rcases aF with rfl|rfl<;>rfl)];rfl
 refine⟨eH.part (by omega) hD (λv=>y2 (by decide) (by decide) (by decide)) (by simp) (by simp) (λv pd a aw=>?_),λv pd a aw=>?_⟩
 ·grind
 ·refine Nn (m:=m+1) (by omega) (hD:=hD) (ai.part X.ok hD (λq b=>by cases b)) (by simp) (by simp) ?_;grind
theorem abc{d:Nat}(aG:d<=2)(ek:TQ X m d)(hW:∀w,hY d w->eH X (aR true m).dl w):∀w,hY (d+1) w->eH X (dd (some (aR true m))) w:=by
 have hD:=abb X.ok bk;intro w h;rcases h with h|⟨t,ad,h|h⟩|⟨v,ad,h⟩
 ·exact eH.consts (m:=m+1) (by omega) hD rfl w h
 ·subst h;exact(eH.TR hm bk ⟨40,t++[41],rfl,.inl rfl⟩ (λv pd a aw=>aa_ hm aG ek bk ad aw)).1
 ·subst h;have c:=(eH.TR hm bk (p:=[36,40]++t++[41]) ⟨40,t++[41],rfl,.inl rfl⟩ (λv pd a aw=>aa_ hm aG ek bk ad aw)).2;have e:=eH.double (m:=m+1) (by omega) hD (tJ.app (tJ.byte (m:=m+1) (by omega) hD (b:=120) (by decide)) c);grind
 ·subst h;exact(eH.TR hm bk ⟨123,[120,58,45]++v++[125],rfl,.inr rfl⟩ (λu pd hu aw=>ao0 hm bk (hW v ad) aw)).1
end
structure hK(v cD:aa):Prop where
 ne:v≠[]
 pO:cT v=true
 rO:bp v=some cD
 No:ar cD= .line\/∃o,ar cD= .op o/\eV o=false/\o≠[40]
theorem hK.idem{v a:aa}(h:hK v a):bp a=some a:=kR _ _ _ (cV _) h.rO
theorem hK.ao1{v c:aa}(h:hK v c):eV (bs (c.dropWhile b_))=false:=by
 rcases h.No with a|⟨o,a,ad,d⟩
 ·obtain⟨t,rfl⟩:=vJ a;rfl
 ·have e:=(il a).1;have bc:=(il a).2.2.2;cases c with
  |nil=>simp_all
  |cons b t=>
   have f:b_ b=false:=by
    cases aG:b_ b with
    |false=>rfl
    |true=>simp_all[Am,nx]
   simp_all
theorem hK.jj{v a:aa}(h:hK v a)(D:ak Unit)(pd:ao):dx D v pd= .ok false a pd:=uL h.rO h.ao1
theorem hK.mG{v a:aa}(h:hK v a)(D:ak Unit)(pd:ao):gJ D v pd= .ok () a pd:=by unfold gJ;rw[cm,aM (h.jj D pd)];rfl
theorem hK.simple{v b:aa}(h:hK v b)(D:ak Unit)(pd:ao):hy true D v pd= .ok () b pd:=by
 unfold hy;rw[cm,aM (h.jj D pd)];simp only[eB,cn];rw[aM (ch h.idem)];rcases h.No with a|⟨o,a,ad,c⟩
 ·rw[a];rfl
 ·rw[a];simp only;rw[aO (λd=>c d.2)];rfl
def xv(w:aa):Prop:=∃b t,w=b::t/\gb b=false/\b≠10/\b≠92/\b≠35/\oM b=false/\b_ b=false
theorem Np{d:Nat}{w:aa}(h:hY d w):xv w:=by
 have hk:∀w∈oV,xv w:=by intro w a;simp only[oV,FW,hF,tM,kX,qx,tN] at a;rcases a with rfl|rfl|rfl|rfl|rfl|rfl|rfl|rfl|rfl|rfl|rfl|rfl|rfl|rfl|rfl<;>exact⟨_,_,rfl,by decide,by decide,by decide,by decide,by decide,by decide⟩
 cases d with
 |zero=>exact hk w h
 |succ d=>
  rcases h with h|⟨t,_,h|h⟩|⟨v,_,h⟩
  ·grind
  all_goals (subst h;exact⟨_,_,rfl,by decide,by decide,by decide,by decide,by decide,by decide⟩)
theorem xv.tok{w u:aa}(h:xv w):bp (w++u)=some (w++u)/\(∃x p,ar (w++u)= .word x p)/\eV (bs ((w++u).dropWhile b_))=false:=by
 obtain⟨b,t,rfl,ad,e,a,c,d,f⟩:=h;refine⟨jy ad c a,?_,?_⟩
 ·show∃x p,ar (b::(t++u))= .word x p
  have:ar (b::(t++u))=if b=10 then Tok.line else if bs (b::(t++u))≠[] then .op (bs (b::(t++u))) else .word (c5 (b::(t++u))).1 (c5 (b::(t++u))).2:=rfl
  simp_all[nx]
 ·have:(b::t++u).dropWhile b_=b::t++u:=by simp_all
  rw[this,hF,nx d];decide
section
variable{X:fk}{m:Nat}(hm:X.c0<=m){D:ak Unit}(hD:ai X.E m D)
include hm hD
theorem ao2{w u:aa}{pd:ao}(a:xv w)(c:eH X D w)(hu:cT u=true)(d:u≠[])(aw:dz X pd (w++u)):jB X (hy true D (32::(w++u)) pd) (hy true D u pd):=by
 obtain⟨e,⟨x,p,f⟩,g⟩:=a.tok (u:=u);have h:bp (32::(w++u))=some (w++u):=by grind[j4]
 unfold hy;have i:cG D u pd= .ok () u pd:=by
  rw[TO,cm];cases u with
  |nil=>grind
  |cons b t=>show cK _ _ (if cT (b::t)=true then _ else _)=_;rw[bh hu];rfl
 have ad:=(c u pd d aw).1;rw[i] at ad;refine jB.rep hm (λs=>?_) (s:=()) (s':=()) (v:=u) (by grind) ?_
 ·refine ai.ae X.ok (ai.jj X.ok hD) λb=>ai.ite (ai.ret _) (ai.fL X.ok λt=>?_);cases t with
  |word _ _=>exact ai.ae X.ok (ai.cG X.ok hD) λ_=>ai.ret _
  |op o=>simp[ai.ite,ai.bJ,ai.ret]
  |line=>simp[ai.ret]
  |eof=>simp[ai.ret]
 ·rw[aM (uL h g)];simp only[eB,cn];rw[aM (ch e),f];simp only;rcases ad with ad|ad
  ·left;rw[aM ad];rfl
  ·right;exact ad.inl
end
theorem Jm{D:ak Unit}{u:aa}{pd:ao}(hu:cT u=true)(a:u≠[]):cG D u pd= .ok () u pd:=by
 rw[TO,cm];cases u with
 |nil=>grind
 |cons b t=>show cK _ _ (if cT (b::t)=true then _ else _)=_;rw[bh hu];rfl
def FZ(D:ak Unit):Unit->ak (Unit⊕Unit):=λ_=>ae (dx D) λb=>if b then aX (.inl ()) else ae (bM []) λt=>match t with
 | .word _ _=>ae (cG D) λ_=>aX (.inl ())
 | .op o=>if true/\o=[40] then bJ else aX (.inr ())
 |_=>aX (.inr ())
theorem abd{b:UInt8}{t:aa}(h:oM b=false):bs (62::b::t)=[62]:=by simp only[oM,Jr,NK,ne_eq] at h;simp_all[xE,bs,lg]
theorem oq.ae{X:fk}{n:Nat}(aw:X.c0<=n){α β:Type}{f:ak α}{k:α->ak β}{r:aa}{pd:ao}(h:oq X (f r pd))(hk:∀a,ai X.E n (k a)):oq X (Go.Eng.ae f k r pd):=by
 unfold Go.Eng.ae;cases b:f r pd with
 |ok a r' c=>
  rw[b] at h;have:=hk a r' c (ll.H.Nm h aw);simp only;cases d:k a r' c with
  |ok _ _ _=>rw[d] at this;exact ll.H.down X.ok h this.1 this.2
  |more _ _ _=>trivial
  |bad _=>trivial
  |deep _=>rw[d] at this;exact this
 |more _ _ _=>trivial
 |bad _=>trivial
 |deep _=>rw[b] at h;exact h
section
variable{X:fk}{m:Nat}(hm:X.c0<=m){D:ak Unit}(hD:ai X.E m D)
include hm hD
theorem abe{W:aa->Prop}(hW:∀w,W w->xv w/\eH X D w){u:aa}(hu:cT u=true)(c:u≠[]):∀{ws:bt}{pd:ao},(∀w∈ws,W w)->dz X pd (jQ ws++u)->jB X (hy true D (jQ ws++u) pd) (hy true D u pd)
 |[],pd,_,_=>jB.refl _
 |w::t,pd,h,aw=>by
  have he:jQ (w::t)++u=32::(w++(jQ t++u)):=by simp[jQ]
  rw[he] at aw⊢;have b:dz X pd (w++(jQ t++u)):=aw.sfx (eb _ _);have d:cT (jQ t++u)=true:=by
   cases t with
   |nil=>grind[jQ]
   |cons a t=>rfl
  obtain⟨ad,e⟩:=hW w (h w (by simp));exact(ao2 hm hD ad e d (by simp_all) b).trans (abe hW hu c (ws:=t) (λw f=>h w (by grind)) (b.sfx (List.suffix_append _ _)))
theorem ao3{W:aa->Prop}(hW:∀w,W w->xv w/\eH X D w){r v c:aa}{pd:ao}(j:r=[]\/r=[32,50,62,38,49]\/∃w,W w/\r=[32,62]++w)(a:hK v c)(aw:dz X pd (r++v)):bW X (λq=>q=c) pd (hy true D (r++v) pd):=by
 have f:bW X (λq=>q=c) pd (hy true D v pd):=by rw[a.simple];exact .inl ⟨rfl,rfl⟩
 have d:∀s,ai X.E m (FZ D s):=λs=>by
  unfold FZ;refine ai.ae X.ok (ai.jj X.ok hD) λb=>ai.ite (ai.ret _) (ai.fL X.ok λt=>?_);cases t with
  |word _ _=>exact ai.ae X.ok (ai.cG X.ok hD) λ_=>ai.ret _
  |op o=>simp[ai.ite,ai.bJ,ai.ret]
  |line=>simp[ai.ret]
  |eof=>simp[ai.ret]
 have g:∀{u:aa},v.length<u.length->(dx D u pd= .ok true v pd\/oq X (dx D u pd))->jB X (hy true D u pd) (hy true D v pd):=by
  intro u hl h;show jB X (b8 (FZ D) () u pd) (b8 (FZ D) () v pd);refine jB.rep hm d hl ?_;rcases h with h|h
  ·left;unfold FZ;rw[aM h];rfl
  ·right;unfold FZ;refine oq.ae hm h λb=>ai.ite (ai.ret _) (ai.fL X.ok λt=>?_);cases t with
   |word _ _=>exact ai.ae X.ok (ai.cG X.ok hD) λ_=>ai.ret _
   |op o=>simp[ai.ite,ai.bJ,ai.ret]
   |line=>simp[ai.ret]
   |eof=>simp[ai.ret]
 rcases j with rfl|rfl|⟨w,k,rfl⟩
 ·grind
 ·refine(g (u:=32::50::62::38::49::v) (by grind) (.inl ?_)).Jk f;have ad:fF (32::50::62::38::49::v) pd= .ok (some [62,38]) (49::v) pd:=by unfold fF;rw[j4,jy (by decide) (by decide) (by decide)];rfl
  unfold dx;rw[aM ad];simp only;rw[aO (by decide),aO (by decide)];have e:jL D [120] (49::v) pd= .ok () v pd:=by
   unfold jL;rw[aM (ch (jy (by decide) (by decide) (by decide)))]
   have:∃x p,ar (49::v)= .word x p:=by
    have:ar (49::v)=if(49:UInt8)=10 then Tok.line else if bs (49::v)≠[] then .op (bs (49::v)) else .word (c5 (49::v)).1 (c5 (49::v)).2:=rfl
    rw[this,aO (by decide),nx (by decide)];simp
   obtain⟨x,p,l⟩:=this;rw[l];simp only;rw[yA (y2 (by decide) (by decide) (by decide)) (XX (by decide)) (by simp),Jm a.pO a.ne]
  rw[aM e];rfl
 ·obtain⟨ad,e⟩:=hW w k;refine(g (u:=32::62::(w++v)) (by grind) ?_).Jk f;obtain⟨n,⟨x,p,y⟩,E⟩:=ad.tok (u:=v);have z:fF (32::62::(w++v)) pd= .ok (some [62]) (w++v) pd:=by
   unfold fF;rw[j4,jy (by decide) (by decide) (by decide)];obtain⟨b,t,rfl,_,_,_,_,br,_⟩:=ad;have A:bs (62::(b::t++v))=[62]:=abd br;have aG:(62::(b::t++v):aa).dropWhile b_=62::(b::t++v):=by rfl
   simp only;rw[aG,A,bh (by decide)];rfl
  have B:dz X pd (w++v):=aw.sfx ⟨[32,62],rfl⟩;have i:=(e v pd a.ne B).1;rw[Jm a.pO a.ne] at i;have br:jL D [120] (w++v) pd= .ok () v pd\/oq X (jL D [120] (w++v) pd):=by unfold jL;rw[aM (ch n),y];exact i
  have C:dx D (32::62::(w++v)) pd=ae (jL D [120]) (λ_=>aX true) (w++v) pd:=by unfold dx;rw[aM z];simp
  rw[C];rcases br with br|br
  ·left;rw[aM br];rfl
  grind[oq.ae,ai.ret]
end
def abf(h:aa):Prop:=h≠[]/\h.all ql=true/\rA h=false/\qb h=false/\(∃b t,h=b::t/\gb b=false/\b≠92/\b≠35/\b_ b=false/\oM b=false)
theorem ao4:∀h∈sI,abf h:=by intro h a;simp only[sI,kX,qx,tN] at a;rcases a with rfl|rfl|rfl|rfl<;>exact⟨by decide,by decide,by decide,by decide,_,_,rfl,by decide,by decide,by decide,by decide,by decide⟩
theorem ao5{ws:bt}{r v:aa}(b:r=[]\/∃t,r=32::t)(c:cT v=true):cT (jQ ws++(r++v))=true:=by
 cases ws with
 |nil=>
  rcases b with rfl|⟨t,rfl⟩
  ·grind[jQ]
  ·rfl
 |cons a t=>rfl
def v_(W a:aa->Prop)(s:aa):Prop:=∃h ws r,abf h/\(∀w∈ws,W w)/\s=h++jQ ws++r/\(r=[]\/r=[32,50,62,38,49]\/∃w,a w/\r=[32,62]++w)
theorem rM.q{W a:aa->Prop}{s:aa}(h:rM W a s):v_ W a s:=by obtain⟨h,ws,r,ad,b⟩:=h;exact⟨h,ws,r,ao4 h ad,b⟩
theorem v_.one{W a:aa->Prop}{b:UInt8}(h:b=97\/b=98\/b=99):v_ W a [b]:=by refine⟨[b],[],[],?_,by simp,by rfl,.inl rfl⟩;rcases h with rfl|rfl|rfl<;>exact⟨by decide,by decide,by decide,by decide,_,_,rfl,by decide,by decide,by decide,by decide,by decide⟩
section
variable{X:fk}{m:Nat}(hm:X.c0<=m){D:ak Unit}(hD:ai X.E m D)
include hm hD
theorem ao6(F:hT D){W n:aa->Prop}(hW:∀w,W w->xv w/\eH X D w)(y:∀w,n w->xv w/\eH X D w){s v g:aa}{pd:ao}{lo:Option dS}(G:v_ W n s)(e:hK v g)(aw:dz X pd (s++v)):bW X (λq=>q=g) pd (fx true lo D (s++v) pd):=by
 obtain⟨h,ws,r,ad,z,rfl,A⟩:=G;obtain⟨H,a2,a3,P,b,t,I,Q,R,S,T,J⟩:=ad
 have B:r=[]\/∃t,r=32::t:=by grind
 have he:h++jQ ws++r++v=h++(jQ ws++(r++v)):=by simp
 rw[he] at aw⊢;have hu:=ao5 (ws:=ws) B e.pO;have U:bW X (λq=>q=g) pd (hy true D (jQ ws++(r++v)) pd):=by
  have i:cT (r++v)=true:=by
   rcases B with rfl|⟨t,rfl⟩
   ·exact e.pO
   ·rfl
  have C:dz X pd (jQ ws++(r++v)):=aw.sfx (gS _ _);exact(abe hm hD hW i (by simp[e.ne]) z C).Jk (ao3 hm hD y A e (C.sfx (gS _ _)))
 have K:∀a,bp (jQ ws++(r++v))=some a->ar a≠ .op [40]:=by
  intro a j;cases ws with
  |cons w ws=>
   have V:jQ (w::ws)++(r++v)=32::(w++(jQ ws++(r++v))):=by simp[jQ]
   obtain⟨Y,⟨x,p,Z⟩,_⟩:=(hW w (z w (by simp))).1.tok (u:=jQ ws++(r++v));grind[j4]
  |nil=>
   rcases A with rfl|rfl|⟨w,k,rfl⟩
   ·have d:bp v=some a:=j;rw[e.rO] at d;cases d;rcases e.No with L|⟨o,L,_,aS⟩
    ·grind
    grind
   ·have d:bp (32::50::62::38::49::v)=some a:=j;rw[j4,jy (by decide) (by decide) (by decide)] at d;cases d;intro l;have:=(mN (by simp)).1 l;rw[nx (by decide)] at this;grind
   ·have d:bp (32::62::(w++v))=some a:=j;rw[j4,jy (by decide) (by decide) (by decide)] at d;cases d;intro l;have dk:=(mN (by simp)).1 l;obtain⟨c,t,rfl,_,_,_,_,fy,_⟩:=(y w k).1;grind[abd]
 generalize gL:jQ ws++(r++v)=u at*;have k4:u≠[]:=by rw[<-gL];simp[e.ne]
 have M:=rD H a2 hu;have E:bp (h++u)=some (h++u):=by grind[jy]
 have N:eV (bs ((h++u).dropWhile b_))=false:=by
  rw[I];have:(b::t++u).dropWhile b_=b::t++u:=by simp_all
  rw[this,hF,nx J];decide
 unfold fx;rw[aM (ch E),M,aO (by simp),aO (by grind[hv])];simp only[Nz];rw[aO (by grind),aM (uL E N)];simp only[Bool.false_eq_true,if_false];have k:cG D (h++u) pd= .ok () u pd:=by grind[Io,Jm]
 rw[aM k];by_cases O:l4 h=true
 ·rw[bh O];cases f:bp u with
  |none=>rw[de (op:=[]) (nd:=(cQ [] pd []).1) (ds:=(cQ [] pd []).2) (iG f)];trivial
  |some a=>rw[aM (ch f)];rw[aO (K a f)];have m:=kR _ _ _ (cV _) f;rw[<-ans f m (dT f).length_le F];omega
 grind
end
theorem ao9{E:ll}(ok:E.mT){n:Nat}(b:Bool):ai E n (gE b):=ai.fL ok λt=>ai.ite (ai.ae ok (ai.nl ok) λ_=>ai.ret _) (ai.ret _)
section
variable{X:fk}{m:Nat}(hm:X.c0<=m)
include hm
theorem abg{x:aa}{pd:ao}{b:Bool}{u:aa}(hu:bp u=some (10::x))(c:bp x=some x)(d:ar x≠ .line)(aw:dz X pd (10::x)):bW X (λr=>r=x) pd (b8 gE b u pd):=by
 have ad:=aoO aw;have h:=(dT hu).length_le;have e:gE b u pd= .ok (.inl true) x pd\/oq X (gE b u pd):=by
  rw[tk hu];unfold Go.Eng.ae;cases aB:iV (10::x) pd with
  |ok a r' i=>
   rw[aB] at ad;rcases ad with⟨rfl,rfl⟩|ad
   ·exact .inl rfl
   ·exact .inr ad
  |more _ _ _=>right;trivial
  |bad _=>right;trivial
  |deep _=>rw[aB] at ad;exact ad.elim
 have g:=jB.rep hm (f:=gE) (λs=>ao9 X.ok s) (s:=b) (s':=true) (r:=u) (v:=x) (pd:=pd) (by grind) e;refine g.Jk ?_;rw[cm,qZ c d];exact .inl ⟨rfl,rfl⟩
theorem y5{j x:aa}{pd:ao}(b:j=[32]\/j=[10]\/j=[32,35,32,114,10])(c:bp x=some x)(a:ar x≠ .line)(aw:dz X pd (j++x)):bW X (λr=>r=x) pd (cS (j++x) pd):=by
 rw[qk];rcases b with rfl|rfl|rfl
 ·have:bp ([32]++x)=some x:=by grind[j4]
  rw[cm,qZ this a];exact .inl ⟨rfl,rfl⟩
 ·grind[abg,nQ,gb]
 ·have:bp ([32,35,32,114,10]++x)=some (10::x):=by simp[nQ,gb,lf]
  exact abg hm this c a (aw.sfx ⟨[32,35,32,114],rfl⟩)
end
theorem Nr{j:aa}(h:j∈jA):j=[10]\/∃o a,(a=[32]\/a=[10]\/a=[32,35,32,114,10])/\(o=[38,38]\/o=[124,124]\/o=[124]\/o=[59]\/o=[38])/\cT j=true/\(∀x,bp (j++x)=some (o++(a++x))/\ar (o++(a++x))= .op o)/\(o++a).length<=j.length:=by
 have No:∀{b:UInt8}{t o:aa},b≠10->bs (b::t)=o->o≠[]->ar (b::t)= .op o:=by
  intro b t o c d aw;have:ar (b::t)=if b=10 then Tok.line else if bs (b::t)≠[] then .op (bs (b::t)) else .word (c5 (b::t)).1 (c5 (b::t)).2:=rfl
  grind
 simp only[jA,kX,qx,tN] at h;rcases h with rfl|rfl|rfl|rfl|rfl|rfl|rfl|rfl
 ·refine .inr ⟨[38,38],[32],by simp,by simp,rfl,λx=>⟨?_,?_⟩,by decide⟩
  ·show bp (32::38::38::32::x)=_;rw[j4,jy (by decide) (by decide) (by decide)];rfl
  rfl
 ·refine .inr ⟨[124,124],[32],by simp,by simp,rfl,λx=>⟨?_,?_⟩,by decide⟩
  ·show bp (32::124::124::32::x)=_;rw[j4,jy (by decide) (by decide) (by decide)];rfl
  rfl
 ·refine .inr ⟨[124],[32],by simp,by simp,rfl,λx=>⟨?_,?_⟩,by decide⟩
  ·show bp (32::124::32::x)=_;rw[j4,jy (by decide) (by decide) (by decide)];rfl
  rfl
 ·refine .inr ⟨[59],[32],by simp,by simp,rfl,λx=>⟨?_,?_⟩,by decide⟩
  ·show bp (59::32::x)=_;rw[jy (by decide) (by decide) (by decide)];rfl
  rfl
 ·refine .inr ⟨[38],[32],by simp,by simp,rfl,λx=>⟨?_,?_⟩,by decide⟩
  ·show bp (32::38::32::x)=_;rw[j4,jy (by decide) (by decide) (by decide)];rfl
  rfl
 ·simp
 ·refine .inr ⟨[124],[10],by simp,by simp,rfl,λx=>⟨?_,?_⟩,by decide⟩
  ·show bp (32::124::10::x)=_;rw[j4,jy (by decide) (by decide) (by decide)];rfl
  rfl
 ·refine .inr ⟨[59],[32,35,32,114,10],by simp,by simp,rfl,λx=>⟨?_,?_⟩,by decide⟩
  ·show bp (59::32::35::32::114::10::x)=_;rw[jy (by decide) (by decide) (by decide)];rfl
  rfl
theorem ao_{j x:aa}(h:j∈jA):∃c,hK (j++x) c:=by
 rcases Nr h with rfl|⟨o,e,ad,d,f,a,g⟩
 ·refine⟨10::x,by simp,rfl,by simp[nQ,gb],.inl rfl⟩
 ·refine⟨_,?_,?_,(a x).1,.inr ⟨o,(a x).2,?_,?_⟩⟩
  ·grind
  ·cases j with
   |nil=>grind
   |cons b t=>revert h;intro h;simp only[jA,kX,qx,tN] at h;rcases h with h|h|h|h|h|h|h|h<;>cases h<;>first|rfl|(show(gb _||_||bs _ !=[])=true;simp[bs,lg,xz,List.isPrefixOf])
  ·rcases d with rfl|rfl|rfl|rfl|rfl<;>decide
  grind
theorem bW.abh{X:fk}{n:Nat}(aw:X.c0<=n){σ α:Type}{f:σ->ak (σ⊕α)}(hf:∀s,ai X.E n (f s)){b P:aa->Prop}{s:σ}{r:aa}{pd:ao}(h:bW X b pd (f s r pd))
  (hl:∀s' r1,f s r pd= .ok (.inl s') r1 pd->b r1->r1.length<r.length/\bW X P pd (b8 f s' r1 pd)) (c:∀a r1,f s r pd= .ok (.inr a) r1 pd->b r1->P r1):bW X P pd (b8 f s r pd):=by
 rw[cm];cases hm:f s r pd with
 |ok x r1 d=>
  rw[hm] at h;cases x with
  |inl s'=>
   show bW X P pd (if r1.length<r.length then b8 f s' r1 d else .bad r1);rcases h with⟨ad,rfl⟩|ad
   ·grind
   ·split
    ·exact bW.TN aw (ai.rep X.ok hf s') ad
    ·trivial
  |inr a=>
   rcases h with⟨ad,rfl⟩|ad
   ·exact .inl ⟨c a r1 hm ad,rfl⟩
   ·exact .inr ad
 |more _ _ _=>trivial
 |bad _=>trivial
 |deep _=>rw[hm] at h;exact h
structure y6(X:fk)(da:ak Unit)(C:aa->Prop):Prop where
 run:∀{c v cD:aa}{pd:ao},C c->hK v cD->dz X pd (c++v)->bW X (λq=>q=cD) pd (da (c++v) pd)
 head:∀{c:aa}(x:aa),C c->bp (c++x)=some (c++x)/\ar (c++x)≠ .line/\ar (c++x)≠ .eof/\cA (ar (c++x)) [33]=false/\c≠[]
def TS(p:Tok->Bool)(l:List (aa×aa))(v:aa)(q:aa):Prop:=∃fR,fR<:+l/\bp (cY fR++v)=some q/\p (ar q)=false
theorem abi{C:aa->Prop}{l:List (aa×aa)}(h:∀p∈l,p.1∈jA/\C p.2){v a:aa}(b:hK v a):∃c,hK (cY l++v) c:=by
 cases l with
 |nil=>exact⟨a,b⟩
 |cons p l=>grind[ao_,cY]
theorem Ns{E:ll}(ok:E.mT){n:Nat}{da:ak Unit}(aF:ai E n da)(p:Tok->Bool)(w:Nat)(s:Unit):ai E n ((λ(_:Unit)=>ae (bM []) λt=>if p t=true then ae (bU w) λ_=>ae (cS.aK [120]) λ_=>ae da λ_=>aX (.inl ()) else aX (.inr ()):Unit->ak (Unit⊕Unit)) s):=
 ai.fL ok λt=>ai.ite (ai.ae ok (ai.dj ok _) λ_=>ai.ae ok ((ai.lines ok).aK _) λ_=>ai.ae ok aF λ_=>ai.ret _) (ai.ret _)
theorem Nt{p:Tok->Bool}{w:Nat}{da:ak Unit}{q:aa}{pd:ao}(a:bp q=some q)(aB:p (ar q)=false):qu p w da q pd= .ok () q pd:=by unfold qu;rw[cm,aM (ch a),aO (by grind)];rfl
section
variable{X:fk}{m:Nat}(hm:X.c0<=m){da:ak Unit}(kg:ai X.E m da){C:aa->Prop}(ek:y6 X da C)
include hm kg ek
theorem abj{p:Tok->Bool}{w:Nat}(aB:∀t,p t=true->∃o,t= .op o/\o.length=w/\0<w){v n:aa}(e:hK v n)(k:p (ar n)=false):∀(l:List (aa×aa))(q:aa)(pd:ao),(∀x∈l,x.1∈jA/\C x.2)->bp (cY l++v)=some q->dz X pd q->bW X (TS p l v) pd (qu p w da q pd)
 |[],q,pd,_,d,aw=>by have s:bp v=some q:=d;rw[e.rO] at s;cases s;rw[Nt e.idem k];exact .inl ⟨⟨[],List.suffix_rfl,e.rO,k⟩,rfl⟩
 |(j,c)::l,q,pd,h,d,aw=>by
  have m:=kR _ _ _ (Nat.le_refl _) d;cases f:p (ar q) with
  |false=>rw[Nt m f];exact .inl ⟨⟨(j,c)::l,List.suffix_rfl,d,f⟩,rfl⟩
  |true=>
   obtain⟨o,u,N,D⟩:=aB _ f;obtain⟨E,aF⟩:=h (j,c) (by simp);have he:cY ((j,c)::l)++v=j++(c++(cY l++v)):=by simp[cY]
   rw[he] at d;rcases Nr E with rfl|⟨O,i,ad,P,Q,F,R⟩
   ·have:bp ([10]++(c++(cY l++v)))=some (10::(c++(cY l++v))):=by simp[nQ,gb]
    simp_all[ar]
   ·obtain⟨G,H⟩:=F (c++(cY l++v));rw[G] at d;cases d;rw[H] at u;cases u;obtain⟨y,hu⟩:=abi (l:=l) (λx I=>h x (by grind)) e;obtain⟨e4,J,S,T,U⟩:=ek.head (cY l++v) aF;have z:dz X pd (i++(c++(cY l++v))):=aw.sfx (gS _ _);have A:dz X pd (c++(cY l++v)):=z.sfx (gS _ _);have K:dz X pd y:=(A.sfx (gS _ _)).sfx (dT hu.rO);unfold qu;have L:bW X (λr=>r=y) pd ((ae (bM []) λt=>if p t=true then ae (bU w) λ_=>ae (cS.aK [120]) λ_=>ae da λ_=>(aX (.inl ()):ak (Unit⊕Unit)) else aX (.inr ())) (o++(i++(c++(cY l++v)))) pd):=by rw[aM (ch m),bh f];rw[aM (show bU w (o++(i++(c++(cY l++v)))) pd= .ok () (i++(c++(cY l++v))) pd from by grind[bU])];refine bW.ae hm (y5 hm ad e4 J z).aK (λa r' _ g=>?_) (λa=>ai.ae X.ok kg λ_=>ai.ret _);subst g;refine bW.ae hm (ek.run aF hu A) (λa r' _ g=>?_) (λa=>ai.ret _);exact .inl ⟨g,rfl⟩
    refine bW.abh hm (Ns X.ok kg p w) L (λs' r1 b B=>?_) (λa r1 b B=>?_)
    ·subst B;refine⟨?_,?_⟩
     ·have V:=(dT hu.rO).length_le;grind
     ·have:=abj aB e k l r1 pd (λx I=>h x (by grind)) hu.rO K;exact this.imp λr g=>by obtain⟨fR,hl,M⟩:=g;exact⟨fR,hl.trans (eb _ _),M⟩
    ·
     exfalso;rw[aM (ch m),bh f] at b;obtain⟨_,W,Y,_,b⟩:=b1 b;obtain⟨_,Z,b2,_,b⟩:=b1 b;obtain⟨_,bY,hj,_,b⟩:=b1 b;cases b
end
theorem apa(t:Tok)(h:pN t=true):∃o,t= .op o/\o.length=1/\0<1:=⟨_,NL h,rfl,by decide⟩
section
variable{X:fk}{m:Nat}(hm:X.c0<=m){da:ak Unit}(kg:ai X.E m da){C:aa->Prop}(ek:y6 X da C)
include hm kg ek
theorem abk{c v b:aa}{l:List (aa×aa)}{pd:ao}(aF:C c)(h:∀x∈l,x.1∈jA/\C x.2)(d:hK v b)(e:pN (ar b)=false)(aw:dz X pd (c++(cY l++v))):bW X (TS pN l v) pd (fi da (c++(cY l++v)) pd):=by obtain⟨e4,k,m,f,n⟩:=ek.head (cY l++v) aF;obtain⟨g,hu⟩:=abi (l:=l) h d;have i:dz X pd g:=(aw.sfx (gS _ _)).sfx (dT hu.rO);rw[TC,aM (ch e4),f];simp only[eB,cn];rw[aM (show aX () (c++(cY l++v)) pd= .ok () (c++(cY l++v)) pd from rfl)];refine bW.ae hm (ek.run aF hu aw) (λa r' _ j=>?_) (λa=>ai.rep X.ok (λs=>Ns X.ok kg pN 1 s) ());subst j;exact abj hm kg ek apa d e l r' pd h hu.rO i
end
def abl(l:List (aa×aa))(v:aa)(q:aa):Prop:=∃fR,fR<:+l/\bp (cY fR++v)=some q/\pN (ar q)=false/\qv (ar q)=false
section
variable{X:fk}{m:Nat}(hm:X.c0<=m){da:ak Unit}(kg:ai X.E m da){C:aa->Prop}(ek:y6 X da C)
include hm kg ek
theorem apb{v p:aa}(k:hK v p)(A:pN (ar p)=false)(B:qv (ar p)=false):∀(N:Nat)(l:List (aa×aa))(q:aa)(pd:ao),l.length<=N->(∀x∈l,x.1∈jA/\C x.2)->bp (cY l++v)=some q->pN (ar q)=false->dz X pd q->bW X (abl l v) pd (qu qv 2 (fi da) q pd):=by
 have D:ai X.E m (fi da):=ai.pipe X.ok kg;intro N;induction N with
 |zero=>intro l q pd hl h d e aw;have:l=[]:=n1.1 (by omega);subst this;have E:bp v=some q:=d;rw[k.rO] at E;cases E;rw[Nt k.idem B];exact .inl ⟨⟨[],fM,k.rO,A,B⟩,rfl⟩
 |succ N K=>
  intro l q pd hl h d e aw;have s:=kR _ _ _ (cV _) d;cases f:qv (ar q) with
  |false=>rw[Nt s f];exact .inl ⟨⟨l,fM,d,e,f⟩,rfl⟩
  |true=>
   cases l with
   |nil=>grind
   |cons y l=>
    obtain⟨j,c⟩:=y;obtain⟨L,aF⟩:=h (j,c) (by simp)
    have g:∀x∈l,x.1∈jA/\C x.2:=λx F=>h x (by grind)
    have he:cY ((j,c)::l)++v=j++(c++(cY l++v)):=by simp[cY]
    rw[he] at d
    obtain⟨o,G,Z⟩:∃o,ar q= .op o/\o.length=2:=by unfold qv at f;grind
    rcases Nr L with rfl|⟨gM,n,ad,af,av,M,br⟩
    ·have:bp ([10]++(c++(cY l++v)))=some (10::(c++(cY l++v))):=by simp[nQ,gb]
     simp_all[ar]
    ·obtain⟨O,P⟩:=M (c++(cY l++v));rw[O] at d;cases d;rw[P] at G;cases G;obtain⟨e4,Q,kv,m3,hP⟩:=ek.head (cY l++v) aF;have H:dz X pd (n++(c++(cY l++v))):=aw.sfx (gS _ _);have I:dz X pd (c++(cY l++v)):=H.sfx (gS _ _);unfold qu;have R:bW X (TS pN l v) pd ((ae (bM []) λt=>if qv t=true then ae (bU 2) λ_=>ae (cS.aK [120]) λ_=>ae (fi da) λ_=>(aX (.inl ()):ak (Unit⊕Unit)) else aX (.inr ())) (o++(n++(c++(cY l++v)))) pd):=by rw[aM (ch s),bh f];rw[aM (show bU 2 (o++(n++(c++(cY l++v)))) pd= .ok () (n++(c++(cY l++v))) pd from by grind[bU])];refine bW.ae hm (y5 hm ad e4 Q H).aK (λa r' _ i=>?_) (λa=>ai.ae X.ok D λ_=>ai.ret _);subst i;refine bW.ae hm (abk hm kg ek aF g k A I) (λa r' _ i=>?_) (λa=>ai.ret _);exact .inl ⟨i,rfl⟩
     refine bW.abh hm (Ns X.ok D qv 2) R (λs' r1 b J=>?_) (λa r1 b J=>?_)
     ·obtain⟨fR,u,w,S⟩:=J;have T:cY fR++v<:+c++(cY l++v):=by obtain⟨z,rfl⟩:=u;grind[cY]
      refine⟨?_,?_⟩
      ·have cU:=(dT w).length_le;grind
      ·have U:dz X pd r1:=(I.sfx T).sfx (dT w);have:=K fR r1 pd (by grind) (λx F=>g x (u.subset F)) w S U;exact this.imp λr i=>by obtain⟨V,W,Y⟩:=i;exact⟨V,(W.trans u).trans (eb _ _),Y⟩
     ·exfalso;rw[aM (ch s),bh f] at b;obtain⟨_,ay,dL,_,b⟩:=b1 b;obtain⟨_,cu,b2,_,b⟩:=b1 b;obtain⟨_,bY,hj,_,b⟩:=b1 b;cases b
end
section
variable{X:fk}{m:Nat}(hm:X.c0<=m){da:ak Unit}(kg:ai X.E m da){C:aa->Prop}(ek:y6 X da C)
include hm kg ek
theorem apc{c v b:aa}{l:List (aa×aa)}{pd:ao}(aF:C c)(h:∀x∈l,x.1∈jA/\C x.2)(e:hK v b)(f:pN (ar b)=false)(i:qv (ar b)=false)(aw:dz X pd (c++(cY l++v))):bW X (abl l v) pd (hB (fi da) (c++(cY l++v)) pd):=by
 have j:ai X.E m (fi da):=ai.pipe X.ok kg;rw[TD];refine bW.ae hm (abk hm kg ek aF h e f aw) (λa q _ k=>?_) (λa=>ai.rep X.ok (λs=>Ns X.ok j qv 2 s) ());obtain⟨fR,d,g,n⟩:=k;have o:cY fR++v<:+c++(cY l++v):=by obtain⟨z,rfl⟩:=d;grind[cY]
 have p:dz X pd q:=(aw.sfx o).sfx (dT g);have:=apb hm kg ek e f i fR.length fR q pd (cV _) (λx t=>h x (d.subset t)) g n p;exact this.imp λr u=>by obtain⟨w,y,A⟩:=u;exact⟨w,y.trans d,A⟩
end
theorem Jn{E:ll}(ok:E.mT){n:Nat}{c2:ak Unit}(h:ai E n c2)(c:Ctx)(no:Bool)(s:Nat):ai E n (eN c2 c no s):=by
 unfold eN;refine ai.fL ok λt=>ai.ite (ai.ite (ai.ret _) (ai.b5 _)) (ai.ite (ai.ret _) (ai.ae ok h λ_=>ai.fL ok λt=>?_));unfold ik;cases t with
 |eof=>simp[ai.ret]
 |line=>grind[ai.ae,ai.lines,ai.ret]
 |word _ _=>exact ai.bJ
 |op o=>exact ai.ite (ai.ae ok (ai.dj ok _) λ_=>ai.ae ok (ai.lines ok) λ_=>ai.ret _) (ai.ite (ai.ret _) ai.bJ)
theorem bW.sK{X:fk}{n:Nat}(aw:X.c0<=n){σ α β:Type}{f:σ->ak (σ⊕α)}(hf:∀s,ai X.E n (f s)){i P:aa->Prop}{m:ak β}{k:β->ak (σ⊕α)}{r r0:aa}{pd:ao}(h:bW X i pd (m r pd))
  (hk:∀a r',m r pd= .ok a r' pd->i r'->bW X P pd (cK f r0 (k a r' pd))) (he:∀a,ai X.E n (k a)):bW X P pd (cK f r0 (Go.Eng.ae m k r pd)):=by
 unfold Go.Eng.ae;cases hm:m r pd with
 |ok a r' e=>
  rw[hm] at h;rcases h with⟨ad,rfl⟩|ad
  ·grind
  ·simp only;have c:oq X (k a r' e):=by
    have:=he a r' e (ll.H.Nm ad aw);cases d:k a r' e with
    |ok _ _ _=>rw[d] at this;exact ll.H.down X.ok ad this.1 this.2
    |more _ _ _=>trivial
    |bad _=>trivial
    |deep _=>rw[d] at this;exact this
   cases d:k a r' e with
   |ok x g j=>
    rw[d] at c;cases x with
    |inl s'=>
     show bW X P pd (if g.length<r0.length then b8 f s' g j else .bad g);split
     ·exact bW.TN aw (ai.rep X.ok hf s') c
     ·trivial
    |inr b=>exact .inr c
   |more _ _ _=>trivial
   |bad _=>trivial
   |deep _=>rw[d] at c;exact c
 |more _ _ _=>trivial
 |bad _=>trivial
 |deep _=>rw[hm] at h;exact h
section
variable{X:fk}{m:Nat}(hm:X.c0<=m){da:ak Unit}(kg:ai X.E m da){C:aa->Prop}(ek:y6 X da C)(uB:∀{c:aa}(x:aa)(k:Ctx),C c->dG k (ar (c++x))=false)
include hm kg ek uB
theorem abo{v g i:aa}{ctx:Ctx}{no:Bool}{pd:ao}(A:hK v g)(G:pN (ar g)=false)(H:qv (ar g)=false)
  (bm:∀k r0,g.length<r0.length->bW X (λr=>r=i) pd (cK (eN (hB (fi da)) ctx no) r0 (ik ctx k (ar g) g pd))) {l:List (aa×aa)} {c:aa} {k:Nat} (aF:C c) (h:∀x∈l,x.1∈jA/\C x.2) (aw:dz X pd (c++(cY l++v)))
  (qD:∀(j b:aa)(d:List (aa×aa)),(j,b)::d<:+l->∀(n:Nat),C b->dz X pd (b++(cY d++v))->bW X (λr=>r=i) pd (b8 (eN (hB (fi da)) ctx no) n (b++(cY d++v)) pd)):bW X (λr=>r=i) pd (b8 (eN (hB (fi da)) ctx no) k (c++(cY l++v)) pd):=by
 have e1:ai X.E m (hB (fi da)):=ai.pE X.ok (ai.pipe X.ok kg);obtain⟨e4,b,I,m3,J⟩:=ek.head (cY l++v) aF;rw[cm];have K:eN (hB (fi da)) ctx no k (c++(cY l++v)) pd=ae (hB (fi da)) (λ_=>ae (bM []) (ik ctx k)) (c++(cY l++v)) pd:=by unfold eN;rw[aM (ch e4),aO I,aO (by grind)]
 rw[K]
 have p:∀k,ai X.E m (ae (bM []) (ik ctx k)):=λk=>ai.fL X.ok λt=>by
  unfold ik;cases t with
  |eof=>simp[ai.ret]
  |line=>exact ai.ae X.ok (ai.lines X.ok) λ_=>ai.ret _
  |word _ _=>exact ai.bJ
  |op o=>exact ai.ite (ai.ae X.ok (ai.dj X.ok _) λ_=>ai.ae X.ok (ai.lines X.ok) λ_=>ai.ret _) (ai.ite (ai.ret _) ai.bJ)
 refine bW.sK hm (Jn X.ok e1 ctx no) (apc hm kg ek aF h A G H aw) (λa q bI L=>?_) (λ_=>p k);obtain⟨fR,s,e,M,N⟩:=L;have O:=kR _ _ _ (Nat.le_refl _) e;rw[aM (ch O)];have mr:=List.length_pos_iff.2 J;have P:cY fR++v<:+c++(cY l++v):=by obtain⟨z,rfl⟩:=s;grind[cY]
 have Q:(cY fR++v).length<=(cY l++v).length:=by obtain⟨z,rfl⟩:=s;simp[cY]
 have R:=(dT e).length_le;have S:q.length<(c++(cY l++v)).length:=by grind
 have u:dz X pd q:=(aw.sfx P).sfx (dT e);cases fR with
 |nil=>have T:bp v=some q:=e;rw[A.rO] at T;grind
 |cons y d=>
  obtain⟨j,b⟩:=y;obtain⟨U,V⟩:=h (j,b) (s.subset (by simp));have he:cY ((j,b)::d)++v=j++(b++(cY d++v)):=by simp[cY]
  rw[he] at e Q R;obtain⟨B,D,d3,d4,d5⟩:=ek.head (cY d++v) V
  have E:∀(r:aa),r=b++(cY d++v)->r.length<(c++(cY l++v)).length->dz X pd r->bW X (λr=>r=i) pd (cK (eN (hB (fi da)) ctx no) (c++(cY l++v)) (aX (.inl (k+1)) r pd)):=by rintro r rfl f Nq;show bW X _ pd (if(b++(cY d++v)).length<(c++(cY l++v)).length then b8 (eN (hB (fi da)) ctx no) (k+1) (b++(cY d++v)) pd else .bad _);grind
  rcases Nr U with rfl|⟨o,w,ad,af,av,W,br⟩
  ·have Y:bp ([10]++(b++(cY d++v)))=some (10::(b++(cY d++v))):=by simp[nQ,gb]
   rw[Y] at e;cases e;have Z:ar (10::(b++(cY d++v)))= .line:=rfl;rw[Z];unfold ik;simp only;refine bW.sK hm (Jn X.ok e1 ctx no) (y5 hm (j:=[10]) (.inr (.inl rfl)) B D u) (λa r _ f=>?_) (λ_=>ai.ret _);refine E r f ?_ (by rw[f];exact u.sfx (eb _ _));rw[f];exact Nat.lt_trans (xD _) S
  ·obtain⟨cq,n⟩:=W (b++(cY d++v));rw[cq] at e;cases e;rw[n] at M N⊢;have aS:o=[59]\/o=[38]:=by simp_all[qv,pN]
   unfold ik;simp only;rw[bh aS];have hw:o.length=1:=by grind
   rw[aM (show bU 1 (o++(w++(b++(cY d++v)))) pd= .ok () (w++(b++(cY d++v))) pd from by grind[bU])];have F:dz X pd (w++(b++(cY d++v))):=u.sfx (gS _ _);refine bW.sK hm (Jn X.ok e1 ctx no) (y5 hm ad B D F) (λa r _ f=>?_) (λ_=>ai.ret _);refine E r f ?_ (by rw[f];exact F.sfx (gS _ _));grind
theorem abp{v a b:aa}{ctx:Ctx}{no:Bool}{pd:ao}(d:hK v a)(e:pN (ar a)=false)(f:qv (ar a)=false)
  (bm:∀k r0,a.length<r0.length->bW X (λr=>r=b) pd (cK (eN (hB (fi da)) ctx no) r0 (ik ctx k (ar a) a pd))):∀(N:Nat)(l:List (aa×aa))(c:aa)(k:Nat),l.length<=N->C c->(∀x∈l,x.1∈jA/\C x.2)->dz X pd (c++(cY l++v))->bW X (λr=>r=b) pd (b8 (eN (hB (fi da)) ctx no) k (c++(cY l++v)) pd):=by
 have e1:ai X.E m (hB (fi da)):=ai.pE X.ok (ai.pipe X.ok kg);intro N;induction N with
 |zero=>
  intro l c k hl aF h aw;have:l=[]:=n1.1 (by omega);subst this
  exact abo hm kg ek uB d e f bm aF h aw (λj g i n=>by grind)
 |succ N o=>intro l c k hl aF h aw;refine abo hm kg ek uB d e f bm aF h aw (λj g i n p q s=>?_);grind
end
theorem ape{X:fk}{c2:ak Unit}{ctx:Ctx}{no:Bool}{pd:ao}{a o:aa}(b:ar a= .op o)(ad:o≠[59])(c:o≠[38])(he:dG ctx (.op o)=true)(k:Nat)(r0:aa):bW X (λr=>r=a) pd (cK (eN c2 ctx no) r0 (ik ctx k (ar a) a pd)):=by rw[b];unfold ik;simp only;rw[aO (by grind),if_pos he];exact .inl ⟨rfl,rfl⟩
theorem apf{X:fk}{c2:ak Unit}{ctx:Ctx}{no:Bool}{pd:ao}{x:aa}{k:Nat}(a:bp x=some x)(bc:ar x≠ .eof)(he:dG ctx (ar x)=true):bW X (λr=>r=x) pd (b8 (eN c2 ctx no) (k+1) x pd):=by
 rw[cm];have:eN c2 ctx no (k+1) x pd= .ok (.inr (k+1)) x pd:=by unfold eN;rw[aM (ch a),if_neg bc,if_pos (by grind)];rfl
 rw[this];exact .inl ⟨rfl,rfl⟩
section
variable{X:fk}{m:Nat}(hm:X.c0<=m){c2:ak Unit}(e1:ai X.E m c2)
include hm e1
theorem abq{ctx:Ctx}{no:Bool}{pd:ao}{u x:aa}{k:Nat}{r0:aa}(hl:bW X (λr=>r=x) pd (cS u pd))(b:x.length<r0.length)(d:bp x=some x)(bc:ar x≠ .eof)(he:dG ctx (ar x)=true):bW X (λr=>r=x) pd (cK (eN c2 ctx no) r0 (ae cS (λ_=>aX (.inl (k+1))) u pd)):=by refine bW.sK hm (Jn X.ok e1 ctx no) hl (λa r _ c=>?_) (λ_=>ai.ret _);subst c;show bW X _ pd (if r.length<r0.length then b8 (eN c2 ctx no) (k+1) r pd else .bad r);simp_all[apf]
theorem apg{ctx:Ctx}{no:Bool}{pd:ao}{x:aa}(b:bp x=some x)(c:ar x≠ .line)(bc:ar x≠ .eof)(he:dG ctx (ar x)=true)(aw:dz X pd (10::x))(k:Nat)(r0:aa)(a:(10::x).length<r0.length):bW X (λr=>r=x) pd (cK (eN c2 ctx no) r0 (ik ctx k (ar (10::x)) (10::x) pd)):=by have d:ar (10::x)= .line:=rfl;rw[d];unfold ik;simp only;exact abq hm e1 (y5 hm (j:=[10]) (.inr (.inl rfl)) b c aw) (Nat.lt_trans (Nat.lt_succ_self _) a) b bc he
theorem aph{ctx:Ctx}{no:Bool}{pd:ao}{y x:aa}(a:bp y=some x)(c:ar x≠ .line)(bc:ar x≠ .eof)(he:dG ctx (ar x)=true)(d:ar (59::y)= .op [59])(k:Nat)(r0:aa)(b:(59::y).length<r0.length):bW X (λr=>r=x) pd (cK (eN c2 ctx no) r0 (ik ctx k (ar (59::y)) (59::y) pd)):=by have e:=kR _ _ _ (Nat.le_refl _) a;have hl:=(dT a).length_le;rw[d];unfold ik;simp only;rw[if_pos (by simp),aM (show bU 1 (59::y) pd= .ok () y pd from rfl)];refine abq hm e1 ?_ (by grind) e bc he;rw[rE a c];exact .inl ⟨rfl,rfl⟩
end
structure ja(X:fk)(c2:ak Unit)(ctx:Ctx)(no:Bool)(v cD eT:aa)(pd:ao):Prop where
 ce:hK v cD
 abr:pN (ar cD)=false
 abt:qv (ar cD)=false
 go:∀k r0,cD.length<r0.length->bW X (λr=>r=eT) pd (cK (eN c2 ctx no) r0 (ik ctx k (ar cD) cD pd))
theorem hK.op{o:aa}{t:aa}(c:bp t=some t)(a:ar t= .op o)(ad:eV o=false)(d:o≠[40]):hK t t:=by
 have e:=il a;refine⟨?_,?_,c,.inr ⟨o,a,ad,d⟩⟩
 ·grind
 ·cases t with
  |nil=>rfl
  |cons b u=>show(gb b||b==10||bs (b::u)!=[])=true;grind
theorem hK.nl(x:aa):hK (10::x) (10::x):=⟨by simp,rfl,by simp[nQ,gb],.inl rfl⟩
section
variable{X:fk}{m:Nat}(hm:X.c0<=m){da:ak Unit}(kg:ai X.E m da){C:aa->Prop}(ek:y6 X da C)(uB:∀{c:aa}(x:aa)(k:Ctx),C c->dG k (ar (c++x))=false)
theorem ja.op{c2:ak Unit}{ctx:Ctx}{no:Bool}{pd:ao}{v o:aa}(c:bp v=some v)(a:ar v= .op o)(he:dG ctx (.op o)=true):ja X c2 ctx no v v v pd:=by
 have b:o=[41]\/o=[59,59]:=by cases ctx<;>simp[dG,cA] at he<;>first|grind|grind
 refine⟨hK.op c a ?_ ?_,?_,?_,λk r0 _=>ape a ?_ ?_ he k r0⟩
 ·rcases b with rfl|rfl<;>decide
 ·grind
 ·rw[a];rcases b with rfl|rfl<;>decide
 ·rw[a];rcases b with rfl|rfl<;>decide
 ·grind
 grind
include hm in
theorem ja.nl{c2:ak Unit}(e1:ai X.E m c2){ctx:Ctx}{no:Bool}{pd:ao}{x:aa}(hx:bp x=some x)(ht:ar x≠ .line)(bc:ar x≠ .eof)(he:dG ctx (ar x)=true)(aw:dz X pd (10::x)):ja X c2 ctx no (10::x) (10::x) x pd:=
 ⟨hK.nl x,rfl,rfl,λk r0 hl=>apg hm e1 hx ht bc he aw k r0 hl⟩
include hm in
theorem ja.abu{c2:ak Unit}(e1:ai X.E m c2){ctx:Ctx}{no:Bool}{pd:ao}{y x:aa}(bx:bp y=some x)(ht:ar x≠ .line)(bc:ar x≠ .eof)(he:dG ctx (ar x)=true)(fp:ar (59::y)= .op [59]):ja X c2 ctx no (59::y) (59::y) x pd:=
 ⟨hK.op (jy (by decide) (by decide) (by decide)) fp (by decide) (by decide),by rw[fp];decide,by rw[fp];decide,λk r0 hl=>aph hm e1 bx ht bc he fp k r0 hl⟩
include hm kg ek uB
theorem api{pre t v e d:aa}{ctx:Ctx}{no:Bool}{pd:ao}(aB:pre=[]\/pre=[32]\/pre=[10])(f:uT C t)(bm:ja X (hB (fi da)) ctx no v e d pd)(aw:dz X pd (pre++(t++v))):bW X (λr=>r=d) pd (oe (hB (fi da)) ctx no (pre++(t++v)) pd):=by
 obtain⟨c,l,ad,g,rfl⟩:=f;rw[uV] at aw⊢;obtain⟨e4,b,j,k,n⟩:=ek.head (cY l++v) ad;have h:dz X pd (c++(cY l++v)):=aw.sfx (gS _ _);rw[qX];have e1:ai X.E m (hB (fi da)):=ai.pE X.ok (ai.pipe X.ok kg);refine bW.ae (P:=λr=>r=c++(cY l++v)) hm (bW.aK ?_) (λa r' _ i=>?_) (λ_=>ai.rep X.ok (λs=>Jn X.ok e1 ctx no s) 0)
 ·rcases aB with rfl|rfl|rfl
  ·rw[tM,rE e4 b];exact .inl ⟨rfl,rfl⟩
  ·exact y5 hm (.inl rfl) e4 b aw
  ·exact y5 hm (.inr (.inl rfl)) e4 b aw
 ·subst i;exact abp hm kg ek uB bm.ce bm.abr bm.abt bm.go l.length l c 0 (cV _) ad g h
end
def AI(c:aa):Prop:=∃b t,c=b::t/\gb b=false/\b≠35/\b≠92/\b≠10/\b≠33/\(b=40\/oM b=false/\(([125,116,101,102,100]:aa).contains b=false\/∃k u,t=k::u/\(b=101/\k=99\/b=102/\k≠105)))
theorem apj{r w:aa}(h:cA (ar r) w=true):w<+:r:=by grind[FE,ER,Z_]
theorem AI.facts{c:aa}(h:AI c)(x:aa):(bp (c++x)=some (c++x)/\ar (c++x)≠ .line/\ar (c++x)≠ .eof/\cA (ar (c++x)) [33]=false/\c≠[])/\∀k,dG k (ar (c++x))=false:=by
 obtain⟨b,t,rfl,ad,f,g,i,o,e⟩:=h
 have bc:∀w:aa,w<+:b::t++x->w.head?≠none->w.head?=some b:=by
  intro w d aw;cases w with
  |nil=>grind
  |cons a w=>grind
 have hW:∀w∈([[33],[125],iE,ig,hS,eU,gD,ih,eo]:bt),cA (ar (b::t++x)) w=false:=by
  intro w d;cases bf:cA (ar (b::t++x)) w with
  |false=>rfl
  |true=>
   exfalso;have aB:=apj bf;have j:=bc w aB ((by decide:∀w∈([[33],[125],iE,ig,hS,eU,gD,ih,eo]:bt),w.head?≠none) w d);rcases e with rfl|⟨l,aF|⟨k,u,rfl,hk⟩⟩
   ·exact(by decide:∀w∈([[33],[125],iE,ig,hS,eU,gD,ih,eo]:bt),w.head?≠some 40) w d j
   ·have:([33,125,116,101,102,100]:aa).contains b=true:=by
     have:∀w∈([[33],[125],iE,ig,hS,eU,gD,ih,eo]:bt),∀b,w.head?=some b->([33,125,116,101,102,100]:aa).contains b=true:=by decide
     grind
    grind
   ·simp only[kX,qx,tN] at d;rcases hk with⟨rfl,rfl⟩|⟨rfl,hk⟩
    ·rcases d with rfl|rfl|rfl|rfl|rfl|rfl|rfl|rfl|rfl<;>simp[iE,ig,hS,eU,gD,ih,eo] at aB
    ·rcases d with rfl|rfl|rfl|rfl|rfl|rfl|rfl|rfl|rfl<;>simp[iE,ig,hS,eU,gD,ih,eo] at aB;grind
 have q:ar (b::t++x)= .op [40]\/∃w p,ar (b::t++x)= .word w p:=by
  rw[hF,CI,aO i];rcases e with rfl|⟨l,_⟩
  ·simp[X3]
  simp_all[nx]
 refine⟨⟨jy ad f g,?_,?_,hW _ (by simp),by simp⟩,λk=>?_⟩
 ·grind
 ·grind
 ·have m:(ar (b::t++x)== .eof)=false:=by grind
  have n:(ar (b::t++x)== .op [41])=false:=by grind
  have r:(ar (b::t++x)== .op [59,59])=false:=by grind
  unfold dG;cases k
  ·exact m
  ·exact n
  ·grind
  ·grind
  ·grind
  ·grind
  ·grind
  ·simp_all
  simp_all
def y7(d:Nat)(c:aa):Prop:=y1 d c\/c=[97]\/c=[98]\/c=[99]
theorem y7.aG{d:Nat}{c:aa}(h:y7 d c):AI c:=by
 have f:∀{W e:aa->Prop},rM W e c->AI c:=by
  rintro W e ⟨x,ws,r,ad,a,rfl,n⟩;simp only[sI,kX,qx,tN] at ad;rcases ad with rfl|rfl|rfl|rfl
  ·exact⟨_,_,rfl,by decide,by decide,by decide,by decide,by decide,.inr ⟨by decide,.inl (by decide)⟩⟩
  ·exact⟨_,_,rfl,by decide,by decide,by decide,by decide,by decide,.inr ⟨by decide,.inr ⟨_,_,rfl,.inl ⟨rfl,rfl⟩⟩⟩⟩
  ·exact⟨_,_,rfl,by decide,by decide,by decide,by decide,by decide,.inr ⟨by decide,.inl (by decide)⟩⟩
  ·exact⟨_,_,rfl,by decide,by decide,by decide,by decide,by decide,.inr ⟨by decide,.inl (by decide)⟩⟩
 rcases h with h|rfl|rfl|rfl
 ·cases d with
  |zero=>exact f h
  |succ d=>
   rcases h with h|h
   ·grind
   ·have h0:∀{b:UInt8}{t:aa},gb b=false/\b≠35/\b≠92/\b≠10/\b≠33/\oM b=false/\([125,116,101,102,100]:aa).contains b=false->AI (b::t):=λ⟨g,a2,a3,i,j,l,m⟩=>⟨_,_,rfl,g,a2,a3,i,j,.inr ⟨l,.inl m⟩⟩
    have hf:∀{k:UInt8}{t:aa},k≠105->AI (102::k::t):=λhk=>⟨_,_,rfl,by decide,by decide,by decide,by decide,by decide,.inr ⟨by decide,.inr ⟨_,_,rfl,.inr ⟨rfl,hk⟩⟩⟩⟩
    rcases h with⟨t,ad,rfl⟩|⟨t,ad,rfl⟩|⟨t,u,ad,a,rfl⟩|⟨t,u,ad,a,rfl⟩|⟨t,u,ad,a,rfl⟩|⟨w,u,ad,a,rfl⟩|rfl|⟨w,u,ad,a,rfl⟩|⟨t,ad,rfl⟩
    ·exact⟨40,_,rfl,by decide,by decide,by decide,by decide,by decide,.inl rfl⟩
    ·exact h0 (by decide)
    ·exact h0 (by decide)
    ·exact h0 (by decide)
    ·exact h0 (by decide)
    ·grind
    ·grind
    ·exact h0 (by decide)
    grind
 all_goals exact⟨_,_,rfl,by decide,by decide,by decide,by decide,by decide,.inr ⟨by decide,.inl (by decide)⟩⟩
structure sL(X:fk)(d n:Nat):Prop where
 ls:∀{pre t v cD eT:aa}{ctx:Ctx}{no:Bool}{pd:ao},(pre=[]\/pre=[32]\/pre=[10])->uT (y7 d) t->ja X (jx true n) ctx no v cD eT pd->dz X pd (pre++(t++v))->bW X (λr=>r=eT) pd ((aR true n).ls ctx no (pre++(t++v)) pd)
 wd:∀w,hY d w->eH X (aR true n).dl w
 rd:∀{t v cD eT:aa}{ctx:Ctx}{no:Bool}{pd:ao}(k:Nat),uT (y7 d) t->ja X (jx true n) ctx no v cD eT pd->dz X pd (t++v)->bW X (λr=>r=eT) pd (b8 (eN (jx true n) ctx no) k (t++v) pd)
theorem uT.imp{C a:aa->Prop}(h:∀c,C c->a c){t:aa}(d:uT C t):uT a t:=by obtain⟨c,l,ad,b,e⟩:=d;exact⟨c,l,h c ad,λp aB=>⟨(b p aB).1,h _ (b p aB).2⟩,e⟩
theorem iu.cc{d:Nat}{t:aa}(h:iu d t):uT (y7 d) t:=by rw[Nk] at h;exact h.imp λc aF=> .inl aF
theorem Nu{d:Nat}{b:UInt8}(h:b=97\/b=98\/b=99):uT (y7 d) [b]:=by
 refine⟨[b],[],?_,by simp,by rfl⟩;rcases h with rfl|rfl|rfl
 ·exact .inr (.inl rfl)
 ·exact .inr (.inr (.inl rfl))
 ·exact .inr (.inr (.inr rfl))
theorem sL.abw{X:fk}{d n:Nat}(h:sL X d n):TQ X n d:=by intro t v pd a aw;have:=h.ls (pre:=[]) (t:=t) (v:=41::v) (ctx:= .paren) (no:=true) (pd:=pd) (.inl rfl) a.cc (ja.op (y3 v) (y4 v) rfl) aw;grind
theorem apk{l:dS}{o r:aa}{pd:ao}:g0 l (.op o) r pd=ae ((l.ls .paren false).aK [41]) (λ_=>ji [41]) (r.drop 1) pd:=rfl
theorem AJ{l:dS}{w r:aa}{p:Bool}{pd:ao}:g0 l (.word w p) r pd=(if w=[123] then ae ((l.ls .qU false).aK [10,125]) λ_=>cW [125]
 else if w=mh then qd l
 else if w=nr then pD l l.dl
 else if w=pA then qV l l.dl
 else ae ((l.ls .pB false).aK eg) λ_=>iF l eg:ak Unit) (r.drop w.length) pd:=rfl
def F2(l:dS):Unit->ak (Unit⊕Unit):=λ_=>ae ((l.ls .rB false).aK ([10]++iE++[32,120,10]++eU)) λ_=>ae (cW iE) λ_=>ae ((l.ls .qc false).aK (10::eU)) λ_=>
    ae (bM []) λt=>if cA t ig then ae (cW ig) λ_=>aX (.inl ()) else
     if cA t hS then ae (cW hS) λ_=>ae ((l.ls .kj false).aK (10::eU)) λ_=>ae (cW eU) λ_=>aX (.inr ()) else ae (cW eU) λ_=>aX (.inr ())
theorem abx(l:dS):qd l=b8 (F2 l) ():=rfl
theorem Nv{b:UInt8}{t:aa}(h:b≠59):ar (59::b::t)= .op [59]:=by rw[mN (by simp)];simp[bs,lg,xz,List.isPrefixOf,h.symm]
theorem Jo{t:aa}:ar (59::59::t)= .op [59,59]:=by rfl
theorem xw(t:aa):bp (59::t)=some (59::t):=jy (by decide) (by decide) (by decide)
theorem ja.AK{X:fk}{n m:Nat}(hm:X.c0<=m)(e1:ai X.E m (jx true n)){ctx:Ctx}{no:Bool}{pd:ao}{w v:aa}(aw:w≠[])(a:w.all ql=true)(b:w.head?≠some 35)(c:cT v=true)(he:dG ctx (.word w true)=true)(d:dz X pd (10::(w++v))):ja X (jx true n) ctx no (10::(w++v)) (10::(w++v)) (w++v) pd:=by grind[l7,ja.nl]
theorem ja.aby{X:fk}{n m:Nat}(hm:X.c0<=m)(e1:ai X.E m (jx true n)){ctx:Ctx}{no:Bool}{pd:ao}{w v:aa}(aw:w≠[])(a:w.all ql=true)(c:w.head?≠some 35)(d:cT v=true)(he:dG ctx (.word w true)=true)(e:w.head?≠some 59):ja X (jx true n) ctx no (59::(w++v)) (59::(w++v)) (w++v) pd:=by
 obtain⟨f,g⟩:=l7 aw a c d;cases w with
 |nil=>grind
 |cons b t=>grind[ja.abu,Nv]
theorem ja.TU{X:fk}{n m:Nat}(hm:X.c0<=m)(e1:ai X.E m (jx true n)){ctx:Ctx}{no:Bool}{pd:ao}{w v:aa}(aw:w≠[])(a:w.all ql=true)(b:w.head?≠some 35)(c:cT v=true)(he:dG ctx (.word w true)=true):ja X (jx true n) ctx no (59::32::(w++v)) (59::32::(w++v)) (w++v) pd:=by grind[l7,ja.abu,j4,Nv]
theorem bW.ok{X:fk}{α:Type}{a:α}{r:aa}{pd:ao}:bW X (λq=>q=r) pd (.ok a r pd):= .inl ⟨rfl,rfl⟩
theorem C2{E:ll}(ok:E.mT){m:Nat}(hm:w5 E m)(s:Unit):ai E m (F2 (aR true m) s):=ai.ae ok ((hm.ls _ _).aK _) λ_=>ai.ae ok (ai.cW ok _) λ_=>ai.ae ok ((hm.ls _ _).aK _) λ_=>
 ai.fL ok λt=>ai.ite (ai.ae ok (ai.cW ok _) λ_=>ai.ret _) (ai.ite (ai.ae ok (ai.cW ok _) λ_=>ai.ae ok ((hm.ls _ _).aK _) λ_=>ai.ae ok (ai.cW ok _) λ_=>ai.ret _) (ai.ae ok (ai.cW ok _) λ_=>ai.ret _))
theorem abz{E:ll}(ok:E.mT)(m:Nat):ai E (m+1) (jx true (m+1)):=ai.pE ok (ai.pipe ok (ai.command ok (oh ok m)))
section
variable{X:fk}{m:Nat}(hm:X.c0<=m)(e1:ai X.E m (jx true m)){d:Nat}(kw:sL X d m)
include hm e1 kw
theorem apl{t v:aa}{pd:ao}(b:iu d t)(aw:dz X pd ([40]++t++[41]++v)):bW X (λr=>r=v) pd (g0 (aR true m) (.op [40]) ([40]++t++[41]++v) pd):=by
 have he:[40]++t++[41]++v=40::(t++(41::v)):=by simp
 rw[he] at aw⊢;rw[apk];refine bW.ae hm (kw.ls (pre:=[]) (v:=41::v) (.inl rfl) b.cc (ja.op (y3 v) (y4 v) rfl) (aw.sfx ⟨[40],rfl⟩)).aK (λa r' _ c=>?_) (λ_=>ai.ji X.ok _);grind[E_,y3,y4,bW.ok]
theorem apm{t v:aa}{pd:ao}(b:cT v=true)(e:iu d t)(aw:dz X pd ([123,32]++(t++[10])++[125]++v)):bW X (λr=>r=v) pd (g0 (aR true m) (.word [123] true) ([123,32]++(t++[10])++[125]++v) pd):=by
 have he:[123,32]++(t++[10])++[125]++v=123::([32]++(t++(10::([125]++v)))):=by simp
 rw[he] at aw⊢;rw[AJ,bh rfl];have c:dz X pd ([32]++(t++(10::([125]++v)))):=aw.sfx ⟨[123],rfl⟩;refine bW.ae hm (kw.ls (.inr (.inl rfl)) e.cc (ja.AK (w:=[125]) hm e1 (by simp) (by decide) (by decide) b rfl (c.sfx ⟨32::t,by simp⟩)) c).aK (λa r' _ f=>?_) (λ_=>ai.cW X.ok _);subst f;rw[oN (by simp) (by decide) (by decide) b];exact bW.ok
theorem apn{t u v:aa}{pd:ao}(b:cT v=true)(g:iu d t)(hu:iu d u)(aw:dz X pd ([105,102,32]++(t++[59])++[32,116,104,101,110,32]++(u++[10])++[102,105]++v)):bW X (λr=>r=v) pd (g0 (aR true m) (.word mh true) ([105,102,32]++(t++[59])++[32,116,104,101,110,32]++(u++[10])++[102,105]++v) pd):=by
 have bk:=oh X.ok m;have he:[105,102,32]++(t++[59])++[32,116,104,101,110,32]++(u++[10])++[102,105]++v=mh++([32]++(t++(59::32::(iE++([32]++(u++(10::(eU++v)))))))):=by simp[mh,iE,eU]
 rw[he] at aw⊢;rw[AJ,aO (by decide),bh rfl,o0,abx,cm];have e:=aw.sfx (gS mh _);have f:dz X pd ([32]++(u++(10::(eU++v)))):=e.sfx ⟨32::t++59::32::iE,by simp⟩;have h:dz X pd (10::(eU++v)):=f.sfx ⟨32::u,by simp⟩;unfold F2;refine bW.sK hm (C2 X.ok bk) (kw.ls (.inr (.inl rfl)) g.cc (ja.TU (w:=iE) hm e1 (by decide) (by decide) (by decide) rfl rfl) e).aK (λa r' _ c=>?_) (λ_=>ai.ae X.ok (ai.cW X.ok _) λ_=>ai.ae X.ok ((bk.ls _ _).aK _) λ_=>ai.fL X.ok λt=>ai.ite (ai.ae X.ok (ai.cW X.ok _) λ_=>ai.ret _) (ai.ite (ai.ae X.ok (ai.cW X.ok _) λ_=>ai.ae X.ok ((bk.ls _ _).aK _) λ_=>ai.ae X.ok (ai.cW X.ok _) λ_=>ai.ret _) (ai.ae X.ok (ai.cW X.ok _) λ_=>ai.ret _)));subst c;rw[aM (oN (by decide) (by decide) (by decide) rfl)];refine bW.sK hm (C2 X.ok bk) (kw.ls (.inr (.inl rfl)) hu.cc (ja.AK (w:=eU) hm e1 (by decide) (by decide) (by decide) b rfl h) f).aK (λa r' _ c=>?_) (λ_=>ai.fL X.ok λt=>ai.ite (ai.ae X.ok (ai.cW X.ok _) λ_=>ai.ret _) (ai.ite (ai.ae X.ok (ai.cW X.ok _) λ_=>ai.ae X.ok ((bk.ls _ _).aK _) λ_=>ai.ae X.ok (ai.cW X.ok _) λ_=>ai.ret _) (ai.ae X.ok (ai.cW X.ok _) λ_=>ai.ret _)));subst c;obtain⟨i,j⟩:=l7 (w:=eU) (r:=v) (by decide) (by decide) (by decide) b;rw[aM (ch j),i,aO (by decide),aO (by decide),aM (oN (by decide) (by decide) (by decide) b)];exact bW.ok
theorem apo{t u v:aa}{pd:ao}(q:iu d t)(hu:iu d u)(aw:dz X pd ([105,102,32,97,59,32,116,104,101,110,10]++(t++[10])++[101,108,105,102,32,98,10,116,104,101,110,32,99,10,101,108,115,101,32]++(u++[59])++[102,105,32,50,62,102]++v)):bW X (λr=>r=[32,50,62,102]++v) pd (g0 (aR true m) (.word mh true) ([105,102,32,97,59,32,116,104,101,110,10]++(t++[10])++[101,108,105,102,32,98,10,116,104,101,110,32,99,10,101,108,115,101,32]++(u++[59])++[102,105,32,50,62,102]++v) pd):=by
 have bk:=oh X.ok m;have he:[105,102,32,97,59,32,116,104,101,110,10]++(t++[10])++[101,108,105,102,32,98,10,116,104,101,110,32,99,10,101,108,115,101,32]++(u++[59])++[102,105,32,50,62,102]++v=mh++([32]++([97]++(59::32::(iE++([10]++(t++(10::(ig++([32]++([98]++(10::(iE++([32]++([99]++(10::(hS++([32]++(u++(59::(eU++([32,50,62,102]++v))))))))))))))))))))):=by simp[mh,iE,eU,ig,hS]
 rw[he] at aw⊢;rw[AJ,aO (by decide),bh rfl,o0,abx,cm];have l:=aw.sfx (gS mh _);have n:dz X pd ([10]++(t++(10::(ig++([32]++([98]++(10::(iE++([32]++([99]++(10::(hS++([32]++(u++(59::(eU++([32,50,62,102]++v))))))))))))))))):=l.sfx ⟨[32]++([97]++(59::32::iE)),by simp⟩;have o:dz X pd (10::(ig++([32]++([98]++(10::(iE++([32]++([99]++(10::(hS++([32]++(u++(59::(eU++([32,50,62,102]++v))))))))))))))):=n.sfx ⟨10::t,by simp⟩;have p:dz X pd ([32]++([98]++(10::(iE++([32]++([99]++(10::(hS++([32]++(u++(59::(eU++([32,50,62,102]++v))))))))))))):=o.sfx ⟨10::ig,by simp⟩;have c:dz X pd (10::(iE++([32]++([99]++(10::(hS++([32]++(u++(59::(eU++([32,50,62,102]++v))))))))))):=p.sfx ⟨[32,98],by simp⟩;have e:dz X pd ([32]++([99]++(10::(hS++([32]++(u++(59::(eU++([32,50,62,102]++v))))))))):=c.sfx ⟨10::iE,by simp⟩;have f:dz X pd (10::(hS++([32]++(u++(59::(eU++([32,50,62,102]++v))))))):=e.sfx ⟨[32,99],by simp⟩;have h:dz X pd ([32]++(u++(59::(eU++([32,50,62,102]++v))))):=f.sfx ⟨10::hS,by simp⟩;have i:ai X.E m (ae (cW eU) λ_=>(aX (.inr ()):ak (Unit⊕Unit))):=ai.ae X.ok (ai.cW X.ok _) λ_=>ai.ret _;have g:ai X.E m (ae (bM []) λt=>if cA t ig then ae (cW ig) λ_=>(aX (.inl ()):ak (Unit⊕Unit)) else
  if cA t hS then ae (cW hS) λ_=>ae (((aR true m).ls .kj false).aK (10::eU)) λ_=>ae (cW eU) λ_=>aX (.inr ()) else ae (cW eU) λ_=>aX (.inr ())):=ai.fL X.ok λt=>ai.ite (ai.ae X.ok (ai.cW X.ok _) λ_=>ai.ret _) (ai.ite (ai.ae X.ok (ai.cW X.ok _) λ_=>ai.ae X.ok ((bk.ls _ _).aK _) λ_=>i) i)
 unfold F2;refine bW.sK hm (C2 X.ok bk) (kw.ls (.inr (.inl rfl)) (Nu (.inl rfl)) (ja.TU (w:=iE) hm e1 (by decide) (by decide) (by decide) rfl rfl) l).aK (λa r' _ b=>?_) (λ_=>ai.ae X.ok (ai.cW X.ok _) λ_=>ai.ae X.ok ((bk.ls _ _).aK _) λ_=>g);subst b;rw[aM (oN (by decide) (by decide) (by decide) rfl)];refine bW.sK hm (C2 X.ok bk) (kw.ls (.inr (.inr rfl)) q.cc (ja.AK (w:=ig) hm e1 (by decide) (by decide) (by decide) rfl rfl o) n).aK (λa r' _ b=>?_) (λ_=>g);subst b;obtain⟨j,k⟩:=l7 (w:=ig) (r:=[32]++([98]++(10::(iE++([32]++([99]++(10::(hS++([32]++(u++(59::(eU++([32,50,62,102]++v))))))))))))) (by decide) (by decide) (by decide) rfl;rw[aM (ch k),j,bh (by decide),aM (oN (by decide) (by decide) (by decide) rfl)];show bW X _ pd (if _ then b8 (F2 (aR true m)) () _ pd else .bad _);rw[bh (by grind[List.length_cons]),cm];unfold F2;refine bW.sK hm (C2 X.ok bk) (kw.ls (.inr (.inl rfl)) (Nu (.inr (.inl rfl))) (ja.AK (w:=iE) hm e1 (by decide) (by decide) (by decide) rfl rfl c) p).aK (λa r' _ b=>?_) (λ_=>ai.ae X.ok (ai.cW X.ok _) λ_=>ai.ae X.ok ((bk.ls _ _).aK _) λ_=>g);subst b;rw[aM (oN (by decide) (by decide) (by decide) rfl)];refine bW.sK hm (C2 X.ok bk) (kw.ls (.inr (.inl rfl)) (Nu (.inr (.inr rfl))) (ja.AK (w:=hS) hm e1 (by decide) (by decide) (by decide) rfl rfl f) e).aK (λa r' _ b=>?_) (λ_=>g);subst b;obtain⟨j,k⟩:=l7 (w:=hS) (r:=[32]++(u++(59::(eU++([32,50,62,102]++v))))) (by decide) (by decide) (by decide) rfl;rw[aM (ch k),j,aO (by decide),bh (by decide),aM (oN (by decide) (by decide) (by decide) rfl)];refine bW.sK hm (C2 X.ok bk) (kw.ls (.inr (.inl rfl)) hu.cc (ja.aby (w:=eU) hm e1 (by decide) (by decide) (by decide) rfl rfl (by decide)) h).aK (λa r' _ b=>?_) (λ_=>i);subst b;rw[aM (oN (by decide) (by decide) (by decide) rfl)];exact bW.ok
theorem abD{x u v:aa}{pd:ao}(b:cT v=true){e:aa}(he:e=[]\/e=[32])(hu:iu d u)(aw:dz X pd (gD++([32]++(u++(59::(e++(ih++v))))))):bW X (λr=>r=v) pd (iF (aR true m) x (gD++([32]++(u++(59::(e++(ih++v)))))) pd):=by
 have bk:=oh X.ok m;unfold iF;rw[aM (gK.2 (oN (by decide) (by decide) (by decide) rfl))];have bm:ja X (jx true m) .done false (59::(e++(ih++v))) (59::(e++(ih++v))) (ih++v) pd:=by
  rcases he with rfl|rfl
  ·exact ja.aby (w:=ih) hm e1 (by decide) (by decide) (by decide) b rfl (by decide)
  ·exact ja.TU (w:=ih) hm e1 (by decide) (by decide) (by decide) b rfl
 refine bW.ae hm (kw.ls (.inr (.inl rfl)) hu.cc bm (aw.sfx (gS gD _))).aK (λa r' _ c=>?_) (λ_=>ai.cW X.ok _);subst c;rw[oN (by decide) (by decide) (by decide) b];exact bW.ok
theorem apr{t u v:aa}{pd:ao}(e:cT v=true)(f:iu d t)(hu:iu d u)(aw:dz X pd ([119,104,105,108,101,32]++(t++[10])++[100,111,32]++(u++[59])++[32,100,111,110,101]++v)):bW X (λr=>r=v) pd (g0 (aR true m) (.word uA true) ([119,104,105,108,101,32]++(t++[10])++[100,111,32]++(u++[59])++[32,100,111,110,101]++v) pd):=by
 have bk:=oh X.ok m;have he:[119,104,105,108,101,32]++(t++[10])++[100,111,32]++(u++[59])++[32,100,111,110,101]++v=uA++([32]++(t++(10::(gD++([32]++(u++(59::([32]++(ih++v))))))))):=by simp[uA,gD,ih]
 rw[he] at aw⊢;rw[AJ,aO (by decide),aO (by decide),aO (by decide),aO (by decide),o0];have b:=aw.sfx (gS uA _);have c:dz X pd (10::(gD++([32]++(u++(59::([32]++(ih++v))))))):=b.sfx ⟨32::t,by simp⟩;refine bW.ae hm (kw.ls (.inr (.inl rfl)) f.cc (ja.AK (w:=gD) hm e1 (by decide) (by decide) (by decide) rfl rfl c) b).aK (λa r' _ g=>?_) (λ_=>ai.body X.ok bk _);subst g;exact abD hm e1 kw e (.inr rfl) hu (c.sfx (eb _ _))
end
theorem abE{X:fk}{D:ak Unit}{w u:aa}{pd:ao}(b:eH X D w)(hu:cT u=true)(a:u≠[])(aw:dz X pd (w++u)):bW X (λr=>r=u) pd (cG D (w++u) pd):=by have:=(b u pd a aw).1;rw[Jm hu a] at this;exact this.Jk bW.ok
theorem F3{D:ak Unit}{w u:aa}{pd:ao}(a:w.all ql=true)(hu:cT u=true)(b:u≠[]):cG D (w++u) pd= .ok () u pd:=by grind[Io,Jm]
theorem abF{b:UInt8}{t:aa}{pd:ao}:bU 1 (b::t) pd= .ok () t pd:=rfl
def C3(D:ak Unit):Unit->ak (Unit⊕Unit):=λ_=>ae (bM []) λt=>match t with
 | .eof=>b5 []
 | .word _ _=>ae (cG D) λ_=>aX (.inl ())
 | .line=>aX (.inr ())
 | .op o=>if o=[59] then ae (bU 1) λ_=>aX (.inr ()) else bJ
theorem aps(D:ak Unit):pC D=b8 (C3 D) ():=rfl
theorem apt{E:ll}(ok:E.mT){m:Nat}(hm:w5 E m)(s:Unit):ai E m (C3 (aR true m).dl s):=ai.fL ok λt=>by
 cases t with
 |eof=>simp[ai.b5]
 |word _ _=>exact ai.ae ok (ai.cG ok hm.dl) λ_=>ai.ret _
 |line=>simp[ai.ret]
 |op o=>exact ai.ite (ai.ae ok (ai.dj ok _) λ_=>ai.ret _) ai.bJ
section
variable{X:fk}{m:Nat}(hm:X.c0<=m)(e1:ai X.E m (jx true m)){d:Nat}(kw:sL X d m)
include hm e1 kw
theorem apu{w v:aa}{pd:ao}(b:hY d w)(aw:dz X pd (32::97::32::(w++(59::32::v)))):bW X (λr=>r=32::v) pd (pC (aR true m).dl (32::97::32::(w++(59::32::v))) pd):=by have bk:=oh X.ok m;have hf:=λs=>apt X.ok bk s;rw[aps,cm];unfold C3;obtain⟨e,f⟩:=l7 (w:=[97]) (r:=32::(w++(59::32::v))) (by simp) (by decide) (by decide) rfl;rw[aM (ch (by rw[j4];exact f)),e];simp only;rw[aM (F3 (by decide) rfl (by simp))];show bW X _ pd (if _ then b8 (C3 (aR true m).dl) () (32::(w++(59::32::v))) pd else .bad _);rw[bh (by simp),cm];unfold C3;obtain⟨g,⟨x,p,h⟩,k⟩:=(Np b).tok (u:=59::32::v);rw[aM (ch (by rw[j4];exact g)),h];simp only;have c:ar (59::32::v)= .op [59]:=Nv (by decide);have i:cT (59::32::v)=true:=(hK.op (xw _) c (by decide) (by decide)).pO;refine bW.sK hm hf (abE (kw.wd w b) i (by simp) (aw.sfx ⟨[32,97,32],rfl⟩)) (λa r' _ j=>?_) (λ_=>ai.ret _);subst j;show bW X _ pd (if _ then b8 (C3 (aR true m).dl) () (59::32::v) pd else .bad _);rw[bh (by grind),cm];unfold C3;rw[aM (ch (xw _)),c];simp only;rw[if_pos trivial,aM abF];exact bW.ok
theorem apv{w u v:aa}{pd:ao}(i:cT v=true)(j:hY d w)(hu:iu d u)(aw:dz X pd ([102,111,114,32,120,32,105,110,32,97,32]++w++[59,32,100,111,32]++(u++[59])++[100,111,110,101]++v)):bW X (λr=>r=v) pd (g0 (aR true m) (.word nr true) ([102,111,114,32,120,32,105,110,32,97,32]++w++[59,32,100,111,32]++(u++[59])++[100,111,110,101]++v) pd):=by
 have bk:=oh X.ok m;have he:[102,111,114,32,120,32,105,110,32,97,32]++w++[59,32,100,111,32]++(u++[59])++[100,111,110,101]++v=nr++(32::([120]++(32::(fl++(32::97::32::(w++(59::32::(gD++([32]++(u++(59::([]++(ih++v))))))))))))):=by simp[nr,fl,gD,ih]
 rw[he] at aw⊢;generalize g:gD++([32]++(u++(59::([]++(ih++v)))))=z at aw⊢;have b:dz X pd (32::97::32::(w++(59::32::z))):=aw.sfx ⟨nr++(32::([120]++(32::fl))),by simp⟩;have c:dz X pd z:=b.sfx ⟨32::97::32::(w++[59,32]),by simp⟩;rw[AJ,if_neg (by decide),if_neg (by decide),if_pos rfl,List.drop_left];unfold pD;obtain⟨k,l⟩:=l7 (w:=[120]) (r:=32::(fl++(32::97::32::(w++(59::32::z))))) (by simp) (by decide) (by decide) rfl;rw[aM (ch (by rw[j4];exact l)),k];simp only;rw[bh (by decide),aM Is];refine bW.ae (P:=λr=>r=z) hm (bW.aK ?_) (λa r' _ e=>?_) (λ_=>ai.body X.ok bk _)
 ·obtain⟨h,f⟩:=l7 (w:=fl) (r:=32::97::32::(w++(59::32::z))) (by decide) (by decide) (by decide) rfl;rw[aM (ch (by rw[j4];exact f)),h,aO (by simp),aM (rE f (by grind)),aM (ch f),h,if_pos (by decide)];rw[aM (show bU 2 (fl++(32::97::32::(w++(59::32::z)))) pd= .ok () (32::97::32::(w++(59::32::z))) pd from rfl)];refine bW.ae hm (apu hm e1 kw j b) (λa r' _ e=>?_) (λ_=>ai.ae X.ok (ai.lines X.ok) λ_=>ai.ret _);subst e;subst g;obtain⟨o,n⟩:=l7 (w:=gD) (r:=[32]++(u++(59::([]++(ih++v))))) (by decide) (by decide) (by decide) rfl;rw[aM (rE (by rw[j4];exact n) (by grind))];exact bW.ok
 ·subst e;subst g;exact abD hm e1 kw i (.inl rfl) hu c
theorem apx{v:aa}{pd:ao}(e:cT v=true)(aw:dz X pd ([102,111,114,32,120,10,100,111,32,97,10,100,111,110,101]++v)):bW X (λr=>r=v) pd (g0 (aR true m) (.word nr true) ([102,111,114,32,120,10,100,111,32,97,10,100,111,110,101]++v) pd):=by
 have bk:=oh X.ok m;have he:[102,111,114,32,120,10,100,111,32,97,10,100,111,110,101]++v=nr++(32::([120]++(10::(gD++([32]++([97]++(10::(ih++v)))))))):=by rfl
 rw[he] at aw⊢;have c:dz X pd (10::(gD++([32]++([97]++(10::(ih++v)))))):=aw.sfx ⟨nr++[32,120],by simp⟩;have f:dz X pd ([32]++([97]++(10::(ih++v)))):=c.sfx ⟨10::gD,by simp⟩;rw[AJ,if_neg (by decide),if_neg (by decide),if_pos rfl,List.drop_left];unfold pD;obtain⟨h,i⟩:=l7 (w:=[120]) (r:=10::(gD++([32]++([97]++(10::(ih++v)))))) (by simp) (by decide) (by decide) rfl;rw[aM (ch (by rw[j4];exact i)),h];simp only;rw[bh (by decide),aM Is];obtain⟨g,d⟩:=l7 (w:=gD) (r:=[32]++([97]++(10::(ih++v)))) (by decide) (by decide) (by decide) rfl;generalize k:gD++([32]++([97]++(10::(ih++v))))=z at c g d⊢;refine bW.ae (P:=λr=>r=z) hm (bW.aK ?_) (λa r' _ b=>?_) (λ_=>ai.body X.ok bk _)
 ·rw[aM (ch (hK.nl _).rO),aO (by simp[ar])];refine bW.ae hm (y5 hm (j:=[10]) (x:=z) (.inr (.inl rfl)) d (by grind) c) (λa r' _ b=>?_) (λ_=>ai.fL X.ok λt=>ai.ite (ai.ae X.ok (ai.dj X.ok _) λ_=>ai.ae X.ok (ai.words X.ok bk) λ_=>ai.ae X.ok (ai.lines X.ok) λ_=>ai.ret _) (ai.ret _));subst b;rw[aM (ch d),g,aO (by decide)];exact bW.ok
 ·subst b;subst k;unfold iF;rw[aM (gK.2 (oN (by decide) (by decide) (by decide) rfl))];refine bW.ae hm (kw.ls (.inr (.inl rfl)) (Nu (.inl rfl)) (ja.AK (w:=ih) hm e1 (by decide) (by decide) (by decide) e rfl (f.sfx ⟨[32,97],rfl⟩)) f).aK (λa r' _ b=>?_) (λ_=>ai.cW X.ok _);subst b;rw[oN (by decide) (by decide) (by decide) e];exact bW.ok
end
def Nw(D:ak Unit):Unit->ak (Unit⊕Unit):=λ_=>ae (bM [120,41]) λt=>match t with
 | .eof=>b5 [120,41]
 | .word _ _=>ae ((cG D).aK [41]) λ_=>ae (bM [41]) λt=>match t with
   | .eof=>b5 [41]
   | .op o=>if o=[124] then ae (bU 1) λ_=>aX (.inl ()) else if o=[41] then ae (bU 1) λ_=>aX (.inr ()) else bJ
   |_=>bJ
 |_=>bJ
theorem TV(D:ak Unit):kQ D=b8 (Nw D) ():=rfl
theorem abH{b:UInt8}{t:aa}(h:b≠124):ar (124::b::t)= .op [124]:=by rw[mN (by simp)];simp[bs,lg,xz,List.isPrefixOf,h.symm]
theorem TW{D:ak Unit}{b:UInt8}{x y:aa}{pd:ao}(d:ql b=true)(e:b≠35)(a:bp y=some (b::41::x)):kQ D y pd= .ok () x pd:=by have ad:ar (b::41::x)= .word [b] true:=rD (w:=[b]) (by simp) (by grind) (hK.op (y3 x) (y4 x) (by decide) (by decide)).pO;rw[TV,cm];unfold Nw;rw[aM (ch a),ad];simp only;have c:cG D (b::41::x) pd= .ok () (41::x) pd:=F3 (w:=[b]) (u:=41::x) (by grind) (hK.op (y3 x) (y4 x) (by decide) (by decide)).pO (by simp);rw[aM (gK.2 c),aM (ch (y3 x)),y4];rfl
theorem apy{D:ak Unit}{x:aa}{pd:ao}:kQ D (97::124::98::41::x) pd= .ok () x pd:=by have a:ar (124::98::41::x)= .op [124]:=abH (by decide);have b:bp (124::98::41::x)=some (124::98::41::x):=jy (by decide) (by decide) (by decide);have c:=(hK.op b a (by decide) (by decide)).pO;have ad:ar (97::124::98::41::x)= .word [97] true:=rD (w:=[97]) (by simp) (by decide) c;rw[TV,cm];unfold Nw;rw[aM (ch (jy (by decide) (by decide) (by decide))),ad];simp only;have d:cG D (97::124::98::41::x) pd= .ok () (124::98::41::x) pd:=F3 (w:=[97]) (u:=124::98::41::x) (by decide) c (by simp);rw[aM (gK.2 d),aM (ch b),a];simp only;rw[bh trivial,aM abF];show(if _ then b8 (Nw D) () (98::41::x) pd else .bad _)=_;rw[bh (by simp),<-TV];exact TW (by decide) (by decide) (jy (by decide) (by decide) (by decide))
theorem abI{m:Nat}{y x:aa}{pd:ao}(a:bp y=some x)(ad:ar x≠ .eof)(b:ar x≠ .line)(he:dG .item (ar x)=true):(aR true m).ls .item true y pd= .ok 0 x pd:=by rw[w4,qX,aM (gK.2 (rE a b)),cm];have c:=kR _ _ _ (cV _) a;rw[XI c ad he rfl];rfl
def y8(l:dS)(D:ak Unit):Unit->ak (Unit⊕Unit):=λ_=>ae cS λ_=>ae (bM []) λt=>if t= .eof then b5 [] else if cA t eo then ae (bU 4) λ_=>aX (.inr ()) else
 ae ((if t= .op [40] then bU 1 else aX ())) λ_=>ae (kQ D) λ_=>ae (l.ls .item true) λ_=>ae (bM []) λt=>if t= .op [59,59] then ae (bU 2) λ_=>aX (.inl ()) else aX (.inl ())
theorem C5(l:dS)(D:ak Unit):nu l D=b8 (y8 l D) ():=rfl
theorem abJ{E:ll}(ok:E.mT){m:Nat}:ai E m (ae (bM []) λt=>if t= .op [59,59] then ae (bU 2) λ_=>(aX (.inl ()):ak (Unit⊕Unit)) else aX (.inl ())):=ai.fL ok λt=>ai.ite (ai.ae ok (ai.dj ok _) λ_=>ai.ret _) (ai.ret _)
theorem abK{E:ll}(ok:E.mT){m:Nat}(hm:w5 E m):ai E m (ae (bM []) λt=>if t= .eof then b5 [] else if cA t eo then ae (bU 4) λ_=>(aX (.inr ()):ak (Unit⊕Unit)) else
 ae ((if t= .op [40] then bU 1 else aX ())) λ_=>ae (kQ (aR true m).dl) λ_=>ae ((aR true m).ls .item true) λ_=>ae (bM []) λt=>if t= .op [59,59] then ae (bU 2) λ_=>aX (.inl ()) else aX (.inl ())):=ai.fL ok λt=>ai.ite (ai.b5 _) (ai.ite (ai.ae ok (ai.dj ok _) λ_=>ai.ret _)
 (ai.ae ok (ai.ite (ai.dj ok _) (ai.ret _)) λ_=>ai.ae ok (ai.w2 ok hm) λ_=>ai.ae ok (hm.ls _ _) λ_=>abJ ok))
theorem apz{E:ll}(ok:E.mT){m:Nat}(hm:w5 E m)(s:Unit):ai E m (y8 (aR true m) (aR true m).dl s):=ai.ae ok (ai.lines ok) λ_=>abK ok hm
section
variable{X:fk}{m:Nat}(hm:X.c0<=m)(e1:ai X.E m (jx true m)){d:Nat}(kw:sL X d m)
include hm e1 kw
theorem apA{u v:aa}{pd:ao}(n:cT v=true)(hu:iu d u)(aw:dz X pd ([32,97,124,98,41]++([32]++(u++([59,59]++([10]++([40,99,41,32,59,59,32,100,41,32]++(eo++v)))))))):bW X (λr=>r=v) pd (nu (aR true m) (aR true m).dl ([32,97,124,98,41]++([32]++(u++([59,59]++([10]++([40,99,41,32,59,59,32,100,41,32]++(eo++v))))))) pd):=by
 have bk:=oh X.ok m;have hf:=λs=>apz X.ok bk s;obtain⟨e,f⟩:=l7 (w:=eo) (r:=v) (by decide) (by decide) (by decide) n;have o:nu (aR true m) (aR true m).dl (eo++v) pd= .ok () v pd:=by rw[C5,cm];unfold y8;rw[aM (rE f (by grind)),aM (ch f),e,if_neg (by simp),if_pos (by decide)];rfl
 have p:nu (aR true m) (aR true m).dl ([32,100,41,32]++(eo++v)) pd= .ok () v pd:=by
  rw[C5,cm];unfold y8;have b:bp ([32,100,41,32]++(eo++v))=some (100::41::32::(eo++v)):=by show bp (32::100::41::32::(eo++v))=_;rw[j4];exact jy (by decide) (by decide) (by decide)
  have c:ar (100::41::32::(eo++v))= .word [100] true:=rD (w:=[100]) (by simp) (by decide) (hK.op (y3 _) (y4 _) (by decide) (by decide)).pO;have h:=kR _ _ _ (Nat.le_refl _) b
  rw[aM (rE b (by grind)),aM (ch h),c,if_neg (by simp),if_neg (by decide),if_neg (by simp),aM (show aX () (100::41::32::(eo++v)) pd= .ok () (100::41::32::(eo++v)) pd from rfl),aM (TW (by decide) (by decide) h),
   aM (abI (x:=eo++v) (by grind[j4]) (by grind) (by grind) (by rw[e];decide)),aM (ch f),e,aO (by simp)]
  show(if _ then b8 (y8 (aR true m) (aR true m).dl) () (eo++v) pd else .bad _)=_;rw[bh (by grind),<-C5];exact o
 have i:bW X (λr=>r=v) pd (nu (aR true m) (aR true m).dl ([10]++([40,99,41,32,59,59,32,100,41,32]++(eo++v))) pd):=by
  have b:bp ([40,99,41,32,59,59,32,100,41,32]++(eo++v))=some ([40,99,41,32,59,59,32,100,41,32]++(eo++v)):=jy (by decide) (by decide) (by decide);have c:ar ([40,99,41,32,59,59,32,100,41,32]++(eo++v))= .op [40]:=by rfl
  have k:dz X pd ([10]++([40,99,41,32,59,59,32,100,41,32]++(eo++v))):=aw.sfx ⟨[32,97,124,98,41]++([32]++(u++[59,59])),by simp⟩;rw[C5,cm];unfold y8;generalize l:[40,99,41,32,59,59,32,100,41,32]++(eo++v)=z at b c k⊢;refine bW.sK hm hf (y5 hm (j:=[10]) (x:=z) (.inr (.inl rfl)) b (by grind) k) (λa r' _ g=>?_) (λ_=>abK X.ok bk);subst g;rw[aM (ch b),c,aO (by simp),aO (by decide),bh rfl];subst l;rw[aM (show bU 1 ([40,99,41,32,59,59,32,100,41,32]++(eo++v)) pd= .ok () (99::41::32::59::59::([32,100,41,32]++(eo++v))) pd from rfl),
   aM (TW (x:=32::59::59::([32,100,41,32]++(eo++v))) (by decide) (by decide) (jy (by decide) (by decide) (by decide))),
   aM (abI (x:=59::59::([32,100,41,32]++(eo++v))) (by simp[j4,xw]) (by simp[Jo]) (by simp[Jo]) (by rfl)),
   aM (ch (xw _)),Jo,bh rfl,aM (show bU 2 (59::59::([32,100,41,32]++(eo++v))) pd= .ok () ([32,100,41,32]++(eo++v)) pd from rfl)]
  show bW X _ pd (if _ then b8 (y8 (aR true m) (aR true m).dl) () ([32,100,41,32]++(eo++v)) pd else .bad _);rw[bh (by simp),<-C5,p];exact bW.ok
 generalize l:[10]++([40,99,41,32,59,59,32,100,41,32]++(eo++v))=z at aw i⊢;rw[C5,cm];unfold y8;have q:ar (124::98::41::([32]++(u++([59,59]++z))))= .op [124]:=abH (by decide);have b:bp (97::124::98::41::([32]++(u++([59,59]++z))))=some (97::124::98::41::([32]++(u++([59,59]++z)))):=jy (by decide) (by decide) (by decide);have c:ar (97::124::98::41::([32]++(u++([59,59]++z))))= .word [97] true:=rD (w:=[97]) (by simp) (by decide) (hK.op (jy (by decide) (by decide) (by decide)) q (by decide) (by decide)).pO;show bW X _ pd (cK _ _ (ae cS _ (32::97::124::98::41::([32]++(u++([59,59]++z)))) pd))
 rw[aM (rE (r1:=97::124::98::41::([32]++(u++([59,59]++z)))) (show bp (32::97::124::98::41::([32]++(u++([59,59]++z))))=_ by grind[j4]) (by grind)),
  aM (ch b),c,aO (by simp),aO (by decide),aO (by simp),aM (show aX () (97::124::98::41::([32]++(u++([59,59]++z)))) pd= .ok () (97::124::98::41::([32]++(u++([59,59]++z)))) pd from rfl),aM apy]
 have t:dz X pd ([32]++(u++([59,59]++z))):=aw.sfx (gS _ _);refine bW.sK hm hf (kw.ls (v:=[59,59]++z) (.inr (.inl rfl)) hu.cc (ja.op (xw _) Jo rfl) t) (λa r' _ g=>?_) (λ_=>abJ X.ok);subst g;rw[aM (ch (show bp ([59,59]++z)=some ([59,59]++z) from xw _)),bh (show ar ([59,59]++z)= .op [59,59] from Jo),aM (show bU 2 ([59,59]++z) pd= .ok () z pd from rfl)];show bW X _ pd (if _ then b8 (y8 (aR true m) (aR true m).dl) () z pd else .bad _);rw[bh (by grind),<-C5];exact i
theorem apB{w u v:aa}{pd:ao}(j:cT v=true)(g:hY d w)(hu:iu d u)(aw:dz X pd ([99,97,115,101,32]++w++[32,105,110,32,97,124,98,41,32]++(u++[])++[59,59,10,40,99,41,32,59,59,32,100,41,32,101,115,97,99]++v)):bW X (λr=>r=v) pd (g0 (aR true m) (.word pA true) ([99,97,115,101,32]++w++[32,105,110,32,97,124,98,41,32]++(u++[])++[59,59,10,40,99,41,32,59,59,32,100,41,32,101,115,97,99]++v) pd):=by
 have bk:=oh X.ok m;have he:[99,97,115,101,32]++w++[32,105,110,32,97,124,98,41,32]++(u++[])++[59,59,10,40,99,41,32,59,59,32,100,41,32,101,115,97,99]++v=pA++(32::(w++(32::(fl++([32,97,124,98,41]++([32]++(u++([59,59]++([10]++([40,99,41,32,59,59,32,100,41,32]++(eo++v))))))))))):=by simp[pA,fl,eo]
 rw[he] at aw⊢;have c:=apA hm e1 kw (v:=v) (u:=u) (pd:=pd) j hu;have e:cT ([32,97,124,98,41]++([32]++(u++([59,59]++([10]++([40,99,41,32,59,59,32,100,41,32]++(eo++v)))))))=true:=rfl;generalize [32,97,124,98,41]++([32]++(u++([59,59]++([10]++([40,99,41,32,59,59,32,100,41,32]++(eo++v))))))=z at aw c e⊢;have h:dz X pd (w++(32::(fl++z))):=aw.sfx ⟨pA++[32],by simp⟩;have k:dz X pd z:=h.sfx ⟨w++(32::fl),by simp⟩;rw[AJ,if_neg (by decide),if_neg (by decide),if_neg (by decide),if_pos rfl,List.drop_left];unfold qV;obtain⟨l,⟨x,p,n⟩,y⟩:=(Np g).tok (u:=32::(fl++z));rw[aM (ch (by rw[j4];exact l)),n];simp only;have o:cT z=true:=e;obtain⟨q,i⟩:=l7 (w:=fl) (r:=z) (by decide) (by decide) (by decide) o;refine bW.ae (P:=λr=>r=fl++z) hm (bW.aK ?_) (λa r' b f=>?_) (λt=>ai.ite (ai.ae X.ok (ai.dj X.ok _) λ_=>(ai.items X.ok bk).aK _) ai.bJ)
 ·refine bW.ae hm (abE (kw.wd w g) rfl (by simp) h) (λa r' _ f=>?_) (λ_=>ai.ae X.ok (ai.lines X.ok) λ_=>ai.fL X.ok λt=>ai.ite (ai.b5 _) (ai.ret _));subst f;rw[aM (rE (by rw[j4];exact i) (by grind)),aM (ch i),q,if_neg (by simp)];exact bW.ok
 ·subst f;have s:a= .word fl true:=by
   have b:=gK.1 b;obtain⟨_,r1,A,_,b⟩:=b1 b;obtain⟨_,B,C,_,b⟩:=b1 b;obtain⟨t,D,E,aB,b⟩:=b1 b;have xb:=nv aB;split at b
   ·cases b
   ·cases b;grind
  subst s;rw[bh (by decide),aM (show bU 2 (fl++z) pd= .ok () z pd from rfl)];exact(c k).aK
end
theorem apC{D:ak Unit}{y v:aa}{pd:ao}(c:y=[32,50,62,102]\/y=[32,62,102])(b:cT v=true)(d:v≠[]):dx D (y++v) pd= .ok true v pd:=by
 have ad:fF (y++v) pd= .ok (some [62]) (102::v) pd:=by
  rcases c with rfl|rfl
  ·have a:bp ([32,50,62,102]++v)=some (50::62::102::v):=by show bp (32::50::62::102::v)=_;rw[j4];exact jy (by decide) (by decide) (by decide)
   unfold fF;rw[a];rfl
  ·have a:bp ([32,62,102]++v)=some (62::102::v):=by show bp (32::62::102::v)=_;rw[j4];exact jy (by decide) (by decide) (by decide)
   unfold fF;rw[a];rfl
 unfold dx;rw[aM ad];simp only;rw[aO (by decide),aO (by decide)];obtain⟨e,f⟩:=l7 (w:=[102]) (r:=v) (by decide) (by decide) (by decide) b;have g:jL D [120] (102::v) pd= .ok () v pd:=by unfold jL;rw[aM (ch (show bp (102::v)=some (102::v) from f)),show ar (102::v)= .word [102] true from e];exact F3 (w:=[102]) (by decide) b d
 rw[aM g];rfl
theorem abN{D:ak Unit}{y v b:aa}{pd:ao}(bx:y=[]\/y=[32,50,62,102]\/y=[32,62,102])(a:hK v b):gJ D (y++v) pd= .ok () b pd:=by
 rcases bx with rfl|bx
 ·exact a.mG D pd
 ·have ad:dx D (y++v) pd= .ok true v pd:=apC bx a.pO a.ne;unfold gJ;rw[cm,aM ad];have hl:v.length<(y++v).length:=by grind
  show(if v.length<(y++v).length then gJ D v pd else .bad v)=_;rw[bh hl];exact a.mG D pd
section
variable{X:fk}{m:Nat}(hm:X.c0<=m)(e1:ai X.E m (jx true m)){d:Nat}(kw:sL X d m)
include hm e1 kw
theorem apD{t v:aa}{pd:ao}(b:cT v=true)(e:iu d t)(aw:dz X pd (123::([10]++(t++(10::([125]++v)))))):bW X (λr=>r=v) pd (g0 (aR true m) (.word [123] true) (123::([10]++(t++(10::([125]++v))))) pd):=by rw[AJ,bh rfl];have c:dz X pd ([10]++(t++(10::([125]++v)))):=aw.sfx ⟨[123],rfl⟩;refine bW.ae hm (kw.ls (.inr (.inr rfl)) e.cc (ja.AK (w:=[125]) hm e1 (by simp) (by decide) (by decide) b rfl (c.sfx ⟨10::t,by simp⟩)) c).aK (λa r' _ f=>?_) (λ_=>ai.cW X.ok _);subst f;rw[oN (by simp) (by decide) (by decide) b];exact bW.ok
end
theorem AL{X:fk}{m:Nat}(hm:X.c0<=m){c v b y:aa}{pd:ao}(aF:AI c){t:Tok}(d:ar (c++(y++v))=t)(i:hv t=true)(e:hK v b)(f:y=[]\/y=[32,50,62,102]\/y=[32,62,102])
  (hk:bW X (λr=>r=y++v) pd (g0 (aR true m) t (c++(y++v)) pd)):bW X (λr=>r=b) pd (fx true (some (aR true m)) (dd (some (aR true m))) (c++(y++v)) pd):=by
 obtain⟨⟨ad,j,g,k,l⟩,o⟩:=aF.facts (y++v);have bk:=oh X.ok (m+1);unfold fx;rw[aM (ch ad),aO g,bh (by grind),d];refine bW.ae (n:=m+1) (by omega) (show bW X (λr=>r=y++v) pd (qe (some (aR true m)) t (c++(y++v)) pd) from hk.named) (λa r' _ h=>?_) (λ_=>ai.mG X.ok bk.dl);subst h;rw[abN f e];exact bW.ok
section
variable{X:fk}{m:Nat}(hm:X.c0<=m){d:Nat}(kw:sL X d m)
include hm kw
theorem apE{t v b:aa}{pd:ao}(h:hK v b)(i:iu d t)(e1:ai X.E m (jx true m))(aw:dz X pd ([102,40,41,32,123,10]++(t++[10])++[125,32,62,102]++v)):bW X (λr=>r=b) pd (fx true (some (aR true (m+1))) (dd (some (aR true (m+1)))) ([102,40,41,32,123,10]++(t++[10])++[125,32,62,102]++v) pd):=by
 have bk:=oh X.ok (m+1);have he:[102,40,41,32,123,10]++(t++[10])++[125,32,62,102]++v=[102]++(40::41::32::123::([10]++(t++(10::([125]++([32,62,102]++v)))))):=by simp
 rw[he] at aw⊢;have hk:=apD hm e1 kw (t:=t) (v:=[32,62,102]++v) (pd:=pd) rfl i (aw.sfx ⟨[102,40,41,32],rfl⟩);have f:cT ([10]++(t++(10::([125]++([32,62,102]++v)))))=true:=rfl;generalize [10]++(t++(10::([125]++([32,62,102]++v))))=z at aw hk f⊢;have j:ar (40::41::32::123::z)= .op [40]:=by rfl
 have c:bp (40::41::32::123::z)=some (40::41::32::123::z):=jy (by decide) (by decide) (by decide);obtain⟨k,g⟩:=l7 (w:=[102]) (r:=40::41::32::123::z) (by decide) (by decide) (by decide) (L5 _);unfold fx;rw[aM (ch g),k,if_neg (by simp),if_neg (by decide)];simp only;rw[if_neg (by decide),aM (show dx (dd (some (aR true (m+1)))) ([102]++(40::41::32::123::z)) pd= .ok false ([102]++(40::41::32::123::z)) pd from It g (by decide) (by decide)),aO (by simp),aM (F3 (by decide) (L5 _) (by simp)),bh (by decide),aM (ch c),j,bh rfl];refine bW.ae (P:=λr=>r=b) (n:=m+1) (by omega) ?_ (λa r' _ e=>by subst e;exact bW.ok) (λ_=>ai.ret _);have l:(aR true (m+1)).has=true:=rfl;have o:bp (32::123::z)=some (123::z):=by rw[j4];exact jy (by decide) (by decide) (by decide)
 obtain⟨p,q⟩:=l7 (w:=[123]) (r:=z) (by decide) (by decide) (by decide) f;unfold lF;simp only;rw[bh l];refine bW.named ?_
 rw[aM (show bU 1 (40::41::32::123::z) pd= .ok () (41::32::123::z) pd from rfl),aM (ch (y3 _)),y4,aO (by simp),bh rfl,
  aM (show bU 1 (41::32::123::z) pd= .ok () (32::123::z) pd from rfl),aM (gK.2 (rE o (by grind))),
  aM (ch (show bp (123::z)=some (123::z) from q)),show ar (123::z)= .word [123] true from p,aO (by simp),bh (by decide)]
 refine bW.ae (n:=m+1) (by omega) (show bW X (λr=>r=[32,62,102]++v) pd ((aR true (m+1)).cp (.word [123] true) (123::z) pd) from hk.named) (λa r' _ e=>?_) (λ_=>ai.ite bk.rd (ai.ret _));subst e;rw[bh trivial];rw[show(aR true (m+1)).rd=gJ (dd (some (aR true m))) from rfl,abN (.inr (.inr rfl)) h];exact bW.ok
end
theorem apG{X:fk}{n:Nat}(hm:X.c0<=n){lo:Option dS}(hD:ai X.E n (dd lo)):∀w,hY 0 w->xv w/\eH X (dd lo) w:=λw a=>⟨Np a,eH.consts hm hD rfl w a⟩
theorem AM{X:fk}{m d:Nat}(hm:X.c0<=m+1)(hW:∀w,hY d w->eH X (dd (some (aR true m))) w){c v a:aa}{pd:ao}(e:v_ (hY d) (hY 0) c)(f:hK v a)(aw:dz X pd (c++v)):bW X (λq=>q=a) pd (fx true (some (aR true m)) (dd (some (aR true m))) (c++v) pd):=by have bk:=oh X.ok (m+1);have hD:ai X.E (m+1) (dd (some (aR true m))):=bk.dl;exact ao6 hm hD (show hT (dd (some (aR true m))) from(qY true (m+1)).dl) (λw b=>⟨Np b,hW w b⟩) (apG hm hD) e f aw
theorem apH{X:fk}{m:Nat}(hm:X.c0<=m+1):y6 X (fx true (some (aR true m)) (dd (some (aR true m)))) (y7 0):=by
 have bk:=oh X.ok (m+1);have hD:ai X.E (m+1) (dd (some (aR true m))):=bk.dl;refine⟨λ{c v b pd} aF a aw=>?_,λ{c} x aF=>(aF.aG.facts x).1⟩;have hW:∀w,hY 0 w->eH X (dd (some (aR true m))) w:=eH.consts hm hD rfl
 rcases aF with aF|rfl|rfl|rfl
 ·exact AM hm hW (rM.q aF) a aw
 ·exact AM hm hW (v_.one (.inl rfl)) a aw
 ·exact AM hm hW (v_.one (.inr (.inl rfl))) a aw
 ·exact AM hm hW (v_.one (.inr (.inr rfl))) a aw
theorem apI{X:fk}{m d:Nat}(aG:d<=2)(hm:X.c0<=m)(kw:sL X d m)(e:sL X d (m+1))(e1:ai X.E m (jx true m)):y6 X (fx true (some (aR true (m+1))) (dd (some (aR true (m+1))))) (y7 (d+1)):=by
 have bk:=oh X.ok (m+1);have g:=abz X.ok m;have a:X.c0<=m+1:=by omega
 have hW:∀w,hY (d+1) w->eH X (dd (some (aR true (m+1)))) w:=abc a bk aG e.abw e.wd
 refine⟨λ{c v i pd} aF b aw=>?_,λ{c} x aF=>(aF.aG.facts x).1⟩;have h:=aF.aG;rcases aF with(aF|aF)|rfl|rfl|rfl
 ·grind[AM,rM.q]
 ·rcases aF with⟨t,ad,rfl⟩|⟨t,ad,rfl⟩|⟨t,u,ad,f,rfl⟩|⟨t,u,ad,f,rfl⟩|⟨t,u,ad,f,rfl⟩|⟨w,u,ad,f,rfl⟩|rfl|⟨w,u,ad,f,rfl⟩|⟨t,ad,rfl⟩
  ·exact AL a h (y:=[]) (mN (by simp)|>.2 (X3 _)) rfl b (.inl rfl) (apl a g e ad aw)
  ·exact AL a h (y:=[]) (rD (w:=[123]) (by simp) (by decide) (qm _)) (by decide) b (.inl rfl) (apm a g e b.pO ad aw)
  ·exact AL a h (y:=[]) (rD (w:=mh) (by decide) (by decide) (qm _)) (by decide) b (.inl rfl) (apn a g e b.pO ad f aw)
  ·have he:∀(z:aa),[105,102,32,97,59,32,116,104,101,110,10]++(t++[10])++[101,108,105,102,32,98,10,116,104,101,110,32,99,10,101,108,115,101,32]++(u++[59])++[102,105,32,50,62,102]++z=([105,102,32,97,59,32,116,104,101,110,10]++(t++[10])++[101,108,105,102,32,98,10,116,104,101,110,32,99,10,101,108,115,101,32]++(u++[59])++[102,105])++([32,50,62,102]++z):=λz=>by simp
   have hk:=apo a g e ad f aw;rw[he] at hk⊢;exact AL a ⟨105,_,rfl,by decide,by decide,by decide,by decide,by decide,.inr ⟨by decide,.inl (by decide)⟩⟩ (rD (w:=mh) (by decide) (by decide) (qm _)) (by decide) b (.inr (.inl rfl)) hk
  ·exact AL a h (y:=[]) (rD (w:=uA) (by decide) (by decide) (qm _)) (by decide) b (.inl rfl) (apr a g e b.pO ad f aw)
  ·exact AL a h (y:=[]) (rD (w:=nr) (by decide) (by decide) (qm _)) (by decide) b (.inl rfl) (apv a g e b.pO ad f aw)
  ·exact AL a h (y:=[]) (rD (w:=nr) (by decide) (by decide) (qm _)) (by decide) b (.inl rfl) (apx a g e b.pO aw)
  ·exact AL a h (y:=[]) (rD (w:=pA) (by decide) (by decide) (qm _)) (by decide) b (.inl rfl) (apB a g e b.pO ad f aw)
  grind[apE]
 ·exact AM (by omega) hW (v_.one (.inl rfl)) b aw
 ·exact AM (by omega) hW (v_.one (.inr (.inl rfl))) b aw
 ·exact AM (by omega) hW (v_.one (.inr (.inr rfl))) b aw
theorem sL.of{X:fk}{m d:Nat}(hm:X.c0<=m+1)(ek:y6 X (fx true (some (aR true m)) (dd (some (aR true m)))) (y7 d))(hW:∀w,hY d w->eH X (dd (some (aR true m))) w):sL X d (m+1):=
 ⟨λ{pre t v b e ctx no pd} aB a bm aw=>api hm (ai.command X.ok (oh X.ok m)) ek (λx k aF=>(aF.aG.facts x).2 k) aB a bm aw,hW,λ{t v b e ctx no pd} k a bm aw=>by obtain⟨c,l,ad,f,rfl⟩:=a;rw[uV] at aw⊢;exact abp hm (ai.command X.ok (oh X.ok m)) ek (λx k aF=>(aF.aG.facts x).2 k) bm.ce bm.abr bm.abt bm.go l.length l c k (cV _) ad f aw⟩
theorem Nx{X:fk}(aF:1<=X.c0):∀d,d<=3->∀n,X.c0+2*d<=n->sL X d n
 |0,_,n,aw=>by
  obtain⟨m,rfl⟩:∃m,n=m+1:=⟨n-1,by omega⟩
  exact sL.of (by omega) (apH (by omega)) (eH.consts (m:=m+1) (by omega) (oh X.ok (m+1)).dl rfl)
 |d+1,aG,n,aw=>by
  obtain⟨m,rfl⟩:∃m,n=m+3:=⟨n-3,by omega⟩
  have b:=Nx aF d (by omega) (m+1) (by omega);have a:=Nx aF d (by omega) (m+2) (by omega);exact sL.of (by omega) (apI (by omega) (by omega) b a (abz X.ok m)) (abc (by omega) (oh X.ok (m+2)) (by omega) a.abw a.wd)
def gq(c:aa):Prop:=(69:UInt8)∉c/\c≠[]/\c.getLast?≠some 10
theorem gq.app{x y:aa}(c:(69:UInt8)∉x)(a:gq y):gq (x++y):=by obtain⟨ad,b,d⟩:=a;refine⟨by grind,by simp[b],?_⟩;simp_all
theorem gq.k{x y:aa}(a:gq x)(b:(69:UInt8)∉y/\y≠[]/\y.getLast?≠some 10):gq (x++y):=gq.app a.1 b
theorem gq.args{W:aa->Prop}(hW:∀w,W w->gq w):∀{ws:bt},(∀w∈ws,W w)->jQ ws=[]\/gq (jQ ws)
 |[],_=> .inl rfl
 |w::t,h=>by
  have he:jQ (w::t)=[32]++(w++jQ t):=by rfl
  right;rw[he];refine gq.app (by decide) ?_;rcases gq.args hW (ws:=t) (λw a=>h w (by grind)) with ad|ad
  ·grind
  ·exact gq.app (hW w (h w (by simp))).1 ad
theorem gq.simple{W a:aa->Prop}(hW:∀w,W w->gq w)(b:∀w,a w->gq w){s:aa}(h:rM W a s):gq s:=by
 obtain⟨x,ws,r,ad,c,rfl,d⟩:=h;have e:gq x:=by simp only[sI,kX,qx,tN] at ad;rcases ad with rfl|rfl|rfl|rfl<;>exact⟨by decide,by decide,by decide⟩
 have f:gq (x++jQ ws):=by
  rcases gq.args hW c with h|h
  ·grind
  ·exact gq.app e.1 h
 rcases d with rfl|rfl|⟨w,g,rfl⟩
 ·grind
 ·grind[gq.k]
 ·exact gq.app f.1 (gq.app (by decide) (b w g))
theorem gq.list{C:aa->Prop}(b:∀c,C c->gq c){t:aa}(h:uT C t):gq t:=by
 obtain⟨c,l,ad,a,rfl⟩:=h;induction l generalizing c with
 |nil=>grind[cY]
 |cons p l d=>
  have he:c++cY (p::l)=(c++p.1)++(p.2++cY l):=by simp[cY]
  rw[he];obtain⟨e,f⟩:=a p (by simp);refine gq.app ?_ (d p.2 f λq g=>a q (by grind));have:(69:UInt8)∉p.1:=(by decide:∀j∈jA,(69:UInt8)∉j) p.1 e;simp[(b c ad).1,this]
theorem TY:∀d,(∀w,hY d w->gq w)/\∀t,iu d t->gq t
 |0=>by
  have hk:∀w∈oV,gq w:=by unfold gq;decide
  exact⟨hk,λt f=>gq.list (λc aF=>gq.simple hk hk aF) f⟩
 |d+1=>by
  obtain⟨g,a⟩:=TY d
  have hk:∀w∈oV,gq w:=by unfold gq;decide
  have i:∀w,hY (d+1) w->gq w:=by
   intro w h;rcases h with h|⟨t,ad,h|h⟩|⟨v,ad,h⟩
   ·grind
   ·subst h;exact gq.k (gq.app (by decide) (a t ad)) ⟨by decide,by decide,by decide⟩
   ·subst h;exact gq.k (gq.app (by decide) (a t ad)) ⟨by decide,by decide,by decide⟩
   ·subst h;exact gq.k (gq.app (by decide) (g v ad)) ⟨by decide,by decide,by decide⟩
  refine⟨i,λt f=>gq.list (λc aF=>?_) f⟩;rcases aF with aF|aF
  ·exact gq.simple i hk aF
  ·have k:∀{t:aa}{b:UInt8},iu d t->b≠69->(69:UInt8)∉t++[b]:=λf j=>by simp[(a _ f).1,xE j]
   rcases aF with⟨t,ad,rfl⟩|⟨t,ad,rfl⟩|⟨t,u,ad,e,rfl⟩|⟨t,u,ad,e,rfl⟩|⟨t,u,ad,e,rfl⟩|⟨w,u,ad,e,rfl⟩|rfl|⟨w,u,ad,e,rfl⟩|⟨t,ad,rfl⟩
   ·exact gq.k (gq.app (by decide) (a t ad)) ⟨by decide,by decide,by decide⟩
   ·exact gq.app (by simp[(a t ad).1]) ⟨by decide,by decide,by decide⟩
   ·exact gq.app (by simp[(a t ad).1,(a u e).1]) ⟨by decide,by decide,by decide⟩
   ·exact gq.app (by simp[(a t ad).1,(a u e).1]) ⟨by decide,by decide,by decide⟩
   ·exact gq.app (by simp[(a t ad).1,(a u e).1]) ⟨by decide,by decide,by decide⟩
   ·exact gq.app (by simp[(g w ad).1,(a u e).1]) ⟨by decide,by decide,by decide⟩
   ·exact⟨by decide,by decide,by decide⟩
   ·exact gq.app (by simp[(g w ad).1,(a u e).1]) ⟨by decide,by decide,by decide⟩
   ·exact gq.app (by simp[(a t ad).1]) ⟨by decide,by decide,by decide⟩
def sM:fk where
 E:={T:=[],N:=λ_=>0,c:=1,Q:=λ_ _=>True}
 ok:=by
  have aF:∀{b:UInt8}{u:aa},¬(b::u<:+[]):=λh=>by grind
  refine⟨cV _,λ_ _ _ _=>cV _,λ_ _ _ _ _ _=>trivial,λ_ _=>trivial,λ_ _ _ _ _ _ _ _ _ _ _=>trivial,λu h=>absurd h aF,λu h=>absurd h aF,λr h ad a=>?_,λu h=>absurd h aF⟩;grind[ar,hv]
 c0:=1
theorem sM.nil{pd:ao}:sM.E.H sM.c0 [] pd:=⟨fM,cV _,trivial⟩
theorem bW.nil{P:aa->Prop}{pd b:ao}{α:Type}{a:α}:bW sM P pd (.ok a [] b):= .inr sM.nil
theorem apJ{c2:ak Unit}{no:Bool}{k:Nat}{pd:ao}:b8 (eN c2 .text no) k [] pd= .ok k [] pd:=by rw[cm,Ik,bh rfl];rfl
theorem ja.text{c2:ak Unit}{no:Bool}{x:aa}{pd a:ao}(b:cS (10::x) pd= .ok true [] a):ja sM c2 .text no (10::x) (10::x) [] pd:=by refine⟨hK.nl x,rfl,rfl,λk r0 hl=>?_⟩;show bW sM _ pd (cK _ r0 (ae cS (λ_=>aX (.inl (k+1))) (10::x) pd));rw[aM b];show bW sM _ pd (if _ then b8 (eN c2 .text no) (k+1) [] a else .bad _);rw[bh (by grind),apJ];exact bW.nil
theorem abO{P:aa->Prop}{pd:ao}{α:Type}{x:dD α}(h:bW sM P pd x):∀q,x≠ .deep q:=by rintro q rfl;exact h
theorem apK{t:aa}(a:iu 3 t){n:Nat}(aw:7<=n):∀q,gm true n (t++[10])≠ .deep q:=by have hk:=Nx (X:=sM) (Nat.le_refl _) 3 (by decide) n (by show 1+6<=n;omega);have:=hk.ls (pre:=[]) (t:=t) (v:=[10]) (ctx:= .text) (no:=true) (pd:=[]) (.inl rfl) a.cc (ja.text (XY rfl)) dz.nil;exact abO this
theorem abP:∀(r:aa),r=(iN r).1/\(iN r).2=[]\/r=(iN r).1++10::(iN r).2
 |[]=> .inl ⟨rfl,rfl⟩
 |b::t=>by
  unfold iN;by_cases h:b=10
  ·grind
  simp_all[abP]
theorem apL:∀(n:Nat)(r q:aa),r.length<=n->nq [69] false r=some q->∃p s,r=p++69::s/\(s=[]/\q=[]\/s=10::q):=by
 intro n;induction n with
 |zero=>simp_all[nq]
 |succ n e=>
  intro r q aw h;cases r with
  |nil=>grind
  |cons b t=>
   rw[Cn] at h;simp only[eB,cn] at h;have c:=abP (b::t);have a:=LN (b::t) (by simp);by_cases hl:(iN (b::t)).1=[69]
   ·rw[bh hl] at h;cases h;rcases c with⟨ad,d⟩|ad
    ·exact⟨[],[],by grind,.inl ⟨rfl,d⟩⟩
    ·exact⟨[],10::(iN (b::t)).2,by grind,.inr rfl⟩
   grind
theorem apM{t:aa}(i:(69:UInt8)∉t):dz sM [([69],false)] (t++mn):=by
 intro z r' d j;right;have k:r'=[]:=by
  have ad:nq [69] false z=some r':=by grind[l3]
  obtain⟨p,s,e,l⟩:=apL z.length z r' (cV _) ad;obtain⟨y,f⟩:=d;rw[e] at f;have g:(y++10::p)++69::s=(t++[10,98,111,100,121,10])++69::[10]:=by grind[mn]
  have m:s=[10]:=by
   rcases List.append_eq_append_iff.1 g with⟨a,h,b⟩|⟨a,h,b⟩
   ·cases a with
    |nil=>grind
    |cons c a=>
     simp only[hF,C6] at b;have:(69:UInt8)∈t++[10,98,111,100,121,10]:=by grind
     grind
   ·cases a with
    |nil=>grind
    |cons c a=>
     simp only[hF,C6] at b;obtain⟨rfl,b⟩:=b;have:(69:UInt8)∈[(10:UInt8)]:=by grind
     grind
  grind
 grind[sM.nil]
abbrev pP:ao:=[([69],false)]
theorem apN:cS mn pP= .ok true [] []:=by
 have a:l3 pP [98,111,100,121,10,69,10]= .inl []:=by
  unfold l3;have:nq [69] false [98,111,100,121,10,69,10]=some []:=by rw[Cn];simp only[eB,cn];rw[aO (by decide)];show nq [69] false [69,10]=_;rw[Cn];decide
  simp only[this];rfl
 rw[show mn=10::[98,111,100,121,10,69,10] from rfl,qk,cm,tk (hK.nl _).rO];have:ae iV (λ_=>aX (.inl true)) (10::[98,111,100,121,10,69,10]) pP=(.ok (.inl true) [] []:dD (Bool⊕Bool)):=by unfold ae;rw[ti,a];rfl
 rw[this];show(if([]:aa).length<(10::[98,111,100,121,10,69,10]:aa).length then b8 gE true [] [] else .bad [])=_;rw[bh (by decide),cm,qZ l5 (by decide)];rfl
theorem asj{b:UInt8}{t:aa}(h:oM b=false)(a:b≠45):bs (60::60::b::t)=[60,60]:=by simp only[oM,Jr,NK,ne_eq] at h;simp_all[bs,lg,xE]
theorem apO{lo:Option dS}{D:ak Unit}{z:aa}(a:cT z=true)(c:z≠[])(g:bp z=some z){o:aa}(h:ar z= .op o)(ad:eV o=false)(i:o≠[40]):fx true lo D ([99,97,116]++([32,60,60,69]++z)) []= .ok () z pP:=by
 have j:hK z z:=⟨c,a,g,.inr ⟨o,h,ad,i⟩⟩;obtain⟨k,f⟩:=l7 (w:=[99,97,116]) (r:=[32,60,60,69]++z) (by decide) (by decide) (by decide) rfl;have s1:bp ([32,60,60,69]++z)=some (60::60::69::z):=by show bp (32::60::60::69::z)=_;rw[j4];exact jy (by decide) (by decide) (by decide)
 have v:dx D ([32,60,60,69]++z) []= .ok true z pP:=by
  have l:fF ([32,60,60,69]++z) []= .ok (some [60,60]) (69::z) []:=by unfold fF;rw[s1];rfl
  unfold dx;rw[aM l];simp only;rw[bh trivial];have m:hs false (69::z) []= .ok () z pP:=by
   obtain⟨n,p⟩:=l7 (w:=[69]) (r:=z) (by decide) (by decide) (by decide) a;have d:bp (69::z)=some (69::z):=p;have e:ar (69::z)= .word [69] true:=n;unfold hs;rw[d];simp only[e];have aG:dt (69::z)=some ([69],z,[]):=by
    have q:cT (69::z)=false:=RC (by decide);rw[EM,aO (by grind),if_neg (by decide),if_neg (by decide),if_neg (by decide),if_neg (by decide)];have:dt z=some ([],z,[]):=by
     cases z with
     |nil=>grind
     |cons b t=>rw[EM,bh a]
    grind
   grind
  rw[aM m];rfl
 unfold fx;rw[aM (ch f),k,aO (by simp),aO (by decide)];simp only;rw[aO (by decide),aM (show dx D ([99,97,116]++([32,60,60,69]++z)) []= .ok false ([99,97,116]++([32,60,60,69]++z)) [] from It f (by decide) (by decide)),aO (by simp),aM (F3 (by decide) rfl (by simp)),bh (by decide),aM (ch s1)];have s:ar (60::60::69::z)= .op [60,60]:=by rfl
 rw[s,aO (by decide)];have u:dx D (60::60::69::z) []= .ok true z pP:=by
  have:dx D (60::60::69::z) []=dx D ([32,60,60,69]++z) []:=by have s2:=kR _ _ _ (cV _) s1;simp_all[dx,ae,fF]
  grind
 unfold hy;rw[cm,aM u,bh rfl];show(if _ then hy true D z pP else .bad _)=_;rw[bh (by grind)];exact j.simple D pP
theorem apS{t:aa}(a:iu 3 t){n:Nat}(aw:8<=n):∀q,gm true n (rN++t++mn)≠ .deep q:=by
 obtain⟨m,rfl⟩:∃m,n=m+1:=⟨n-1,by omega⟩
 have b:=(TY 3).2 t a;have i:=Nx (X:=sM) (Nat.le_refl _) 3 (by decide) (m+1) (by show 1+6<=m+1;omega);have j:dz sM pP (t++mn):=apM b.1;have u:=i.rd (v:=mn) (ctx:= .text) (no:=true) (pd:=pP) 1 a.cc (ja.text apN) j;obtain⟨c,l,ad,x,y⟩:=a.cc;obtain⟨⟨k,g,o,A,B⟩,C⟩:=ad.aG.facts (cY l++mn);have d:t++mn=c++(cY l++mn):=by grind
 rw[<-d] at k g o;have h:(t++mn).length<([99,97,116]++([32,60,60,69]++(59::32::(t++mn)))).length:=by grind
 have he:rN++t++mn=[99,97,116]++([32,60,60,69]++(59::32::(t++mn))):=by rfl
 generalize t++mn=z at*;have e:ar (59::32::z)= .op [59]:=Nv (by decide);have p:=hK.op (xw (32::z)) e (by decide) (by decide);obtain⟨D,f⟩:=l7 (w:=[99,97,116]) (r:=[32,60,60,69]++(59::32::z)) (by decide) (by decide) (by decide) rfl;have e1:jx true (m+1) ([99,97,116]++([32,60,60,69]++(59::32::z))) []= .ok () (59::32::z) pP:=
  (XZ f (by rfl) (apO p.pO (by simp) (xw _) e (by decide) (by decide)) (xw _) (by grind) (by grind) (by grind)).2
 have s:gm true (m+1) ([99,97,116]++([32,60,60,69]++(59::32::z)))=b8 (eN (jx true (m+1)) .text true) 1 z pP:=by
  unfold gm;rw[w4,qX,aM (gK.2 (rE f (by grind))),cm,LX f (by grind) (by rfl),aM e1,aM (ch (xw _)),e];have:ik .text 0 (.op [59]) (59::32::z) pP= .ok (.inl 1) z pP:=by unfold ik;simp only;rw[if_pos (by simp),aM (show bU 1 (59::32::z) pP= .ok () (32::z) pP from rfl),aM (rE (by grind[j4]) g)];rfl
  rw[this];show(if _ then b8 (eN (jx true (m+1)) .text true) 1 z pP else .bad _)=_;grind
 grind[abO]
end Go.Eng
namespace Go.Eng
open Go Go.Proofs
theorem abQ{s:aa}(b:(df s).length<=1000000)(aG:∀q,gm false 30 (df s)≠ .deep q):oK s=some (match gm false 30 (df s) with| .ok a _ _=>(a:Int)|_=> -1):=by
 have h:=alj s b;unfold oK;cases aB:gm false 30 (df s) with
 |ok a r pd=>simp_all[aQ]
 |more op nd ds=>simp_all[aQ]
 |bad r=>rw[aB] at h;obtain⟨_,op,h⟩:=h;simp_all[aQ]
 |deep q=>grind
theorem apV{s:aa}(d:(df s).length<=1000000):EH s=some (match gm true 30 (df s) with| .ok a _ _=>(a:Int)|_=> -1):=by
 have h:=an_ d;unfold EH;cases aB:gm true 30 (df s) with
 |ok a r pd=>rw[aB] at h;obtain⟨st,ad,b,_⟩:=h;simp_all[aQ]
 |more op nd ds=>rw[aB] at h;obtain⟨st,c,ad,b,_⟩:=h;simp_all[aQ]
 |bad r=>rw[aB] at h;obtain⟨st,c,ad,b⟩:=h;simp_all[aQ]
 |deep q=>rw[aB] at h;obtain⟨st,c,ad,b⟩:=h;simp_all[aQ]
theorem T0{r:aa}{n:Nat}(aw:n<=30)(h:∀q,gm true n r≠ .deep q){fr:Bool}{m:Nat}(hm:n<=m):Af (gm true n r) (gm fr m r)/\∀q,gm fr m r≠ .deep q:=by grind[Af,XS]
def kW(x:dD Nat):Int:=match x with| .ok a _ _=>(a:Int)|_=> -1
theorem Af.kW{x y:dD Nat}(h:Af x y)(a:∀q,x≠ .deep q):kW y=kW x:=by
 rcases h with⟨q,h⟩|rfl|⟨_,_,_,_,rfl,rfl⟩
 ·grind
 ·rfl
 ·rfl
theorem apW(s:aa):∃t,df s=t++[10]:=by
 unfold df;split
 ·grind[List.getLast?_eq_some_iff]
 simp
theorem T1(t:aa):df (t++[10])=t++[10]:=bh (by simp)
theorem apX(s:aa):(df s).length<=s.length+1:=by grind[df]
theorem apY(x0:aa)(b:x0.length<=1048576):∃T,Cf x0=some T/\T.length<=470000/\(∀n,8<=n->∀q,gm true n (df T)≠ .deep q)/\∃c z,df T=c++z/\AI c:=by
 obtain⟨t,T,ad,a,f,d⟩:=aoN x0 b;refine⟨T,ad,?_⟩;have bq:=(TY 3).2 t a;rcases d with rfl|rfl
 ·have he:df T=T++[10]:=aO bq.2.2;refine⟨by omega,λn aw=>?_,?_⟩
  ·grind[apK]
  ·obtain⟨c,l,e,g,h⟩:=a.cc;exact⟨c,cY l++[10],by grind,e.aG⟩
 ·have he:df (rN++t++mn)=rN++t++mn:=by have:=T1 (rN++t++[10,98,111,100,121,10,69]);simp_all[mn]
  refine⟨by grind[rN,mn,List.length_cons],λn aw=>?_,?_⟩
  ·grind[apS]
  ·exact⟨[99],[97,116,32,60,60,69,59,32]++t++mn,by grind[rN],⟨_,_,rfl,by decide,by decide,by decide,by decide,by decide,.inr ⟨by decide,.inl (by decide)⟩⟩⟩
theorem apZ{n:Nat}(h:n<=2000000):((n:Nat):Int)<=9223372036854775807:=by omega
theorem F4{w v:aa}(a:df w=v)(hl:v.length<=1000000)(h:gm false 30 v= .ok 1 [] []):oK w=some 1:=by grind[abQ]
theorem Jp{x:aa}{b:UInt8}(a:b≠10):df (x++[b])=x++[b,10]:=by simp_all[df]
theorem law_FnWrap(x0:aa):M_l_FnWrap x0=some true:=by
 unfold M_l_FnWrap;by_cases l:(1048576:Int)<(x0.length:Int)
 ·grind
 rw[e3 l,aU];obtain⟨T,ad,D,c,E⟩:=apY x0 (by omega);have F:=apX T;obtain⟨i,j⟩:=apW T;have e:dr (df T):= .inr ⟨i,j⟩;have bc:df T≠[]:=Jh T;obtain⟨s1,s2⟩:=T0 (n:=28) (fr:=false) (m:=30) (by decide) (c 28 (by decide)) (by decide);obtain⟨o,G⟩:=T0 (n:=28) (fr:=true) (m:=30) (by decide) (c 28 (by decide)) (by decide);obtain⟨p,H⟩:=T0 (n:=28) (fr:=false) (m:=28) (by decide) (c 28 (by decide)) (by decide);have s:df (df T)=df T:=by grind[T1]
 have e4:oK (df T)=some (kW (gm true 28 (df T))):=by rw[abQ (by grind) (by grind),s];exact congrArg some (s1.kW (c 28 (by decide)))
 have t:EH T=some (kW (gm true 28 (df T))):=by rw[apV (by omega)];exact congrArg some (o.kW (c 28 (by decide)))
 rw[ad,aQ rfl,Zm T (by omega),aQ rfl,e4,aQ rfl,aQ rfl,t,aQ rfl];rw[decide_eq_true rfl,decide_eq_false bc];simp only[Bool.not_true,cond_false];by_cases hk:kW (gm true 28 (df T))<1
 ·grind
 rw[e3 hk,aU]
 have aB:∃k r pd,gm false 28 (df T)= .ok k r pd/\k≠0:=by
  have d:=p.kW (c 28 (by decide));cases aB:gm false 28 (df T) with
  |ok k r pd=>rw[aB] at d;refine⟨k,r,pd,rfl,λh0=>hk ?_⟩;rw[<-d,h0];show((0:Nat):Int)<1;decide
  |more _ _ _=>rw[aB] at d;exact absurd (by rw[<-d];show(-1:Int)<1;decide) hk
  |bad _=>rw[aB] at d;exact absurd (by rw[<-d];show(-1:Int)<1;decide) hk
  |deep q=>grind
 obtain⟨k,r,pd,aB,f⟩:=aB;have g:gm false 29 (df T)= .ok k r pd:=by
  rcases XS (.inl rfl) (n:=28) (m:=29) (fr:=false) (by decide) (df T) with⟨q,h⟩|h|⟨_,_,_,_,h,_⟩
  ·grind
  ·grind
  grind
 generalize df T=u at*;have w:oK (([40]++u)++[41])=some 1:=F4 (Jp (by decide)) (by grind) (by grind[ajr]);have y:oK (([123,32]++u)++[125])=some 1:=F4 (Jp (by decide)) (by grind) (by simpa using aju e g f);have z:oK (((([105,102,32]++u)++[116,104,101,110,32])++u)++[102,105])=some 1:=by
  have:=ajv e g f;refine F4 (v:=((([105,102,32]++u)++[116,104,101,110,32])++u)++[102,105,10]) ?_ (by grind[List.length_cons]) ?_
  ·have:=Jp (x:=((([105,102,32]++u)++[116,104,101,110,32])++u)++[102]) (b:=105) (by decide);grind
  simp_all[mh,iE,eU]
 have A:oK (((([119,104,105,108,101,32]++u)++[100,111,32])++u)++[100,111,110,101])=some 1:=by
  have:=ajw e g f;refine F4 (v:=((([119,104,105,108,101,32]++u)++[100,111,32])++u)++[100,111,110,101,10]) ?_ (by grind[List.length_cons]) ?_
  ·have:=Jp (x:=((([119,104,105,108,101,32]++u)++[100,111,32])++u)++[100,111,110]) (b:=101) (by decide);simp_all
  simp_all[uA,gD,ih]
 have B:oK (((([101,99,104,111,32,36,40,32]++u)++[41,32,34,36,40,32])++u)++[41,34])=some 1:=by
  have:=ajA e g f;refine F4 (v:=((([101,99,104,111,32,36,40,32]++u)++[41,32,34,36,40,32])++u)++[41,34,10]) ?_ (by grind[List.length_cons]) ?_
  ·have:=Jp (x:=((([101,99,104,111,32,36,40,32]++u)++[41,32,34,36,40,32])++u)++[41]) (b:=34) (by decide);grind
  simp_all[EX]
 have C:oK (([102,40,41,32,123,10]++u)++[125,10])=some 1:=by refine F4 (v:=([102,40,41,32,123,10]++u)++[125,10]) (by have:=T1 (([102,40,41,32,123,10]++u)++[125]);grind) (by grind[List.length_cons]) ?_;simpa using ajx e aB f
 have a:∀{n:Nat},n<=2*u.length+100->((n:Nat):Int)<=9223372036854775807:=λaw=>apZ (by omega)
 rw[bS (a (by grind)),bS (a (by grind)),w,aQ rfl];rw[bS (λ_=>a (by grind)),bS (λ_=>a (by grind)),y,Iu (show(decide ((1:Int)=1))=true from rfl)];rw[bS (λ_=>a (by grind)),bS (λ_=>a (by grind)),bS (λ_=>a (by grind[List.length_cons])),bS (λ_=>a (by grind[List.length_cons])),z,Iu (show(bif(decide ((1:Int)=1)) then(decide ((1:Int)=1)) else false)=true from rfl)];rw[bS (λ_=>a (by grind[List.length_cons])),bS (λ_=>a (by grind[List.length_cons])),bS (λ_=>a (by grind[List.length_cons])),bS (λ_=>a (by grind[List.length_cons])),A,Iu (show(bif(bif(decide ((1:Int)=1)) then(decide ((1:Int)=1)) else false) then(decide ((1:Int)=1)) else false)=true from rfl)];rw[bS (λ_=>a (by grind[List.length_cons])),bS (λ_=>a (by grind[List.length_cons])),bS (λ_=>a (by grind[List.length_cons])),bS (λ_=>a (by grind[List.length_cons])),B,Iu (show(bif(bif(bif(decide ((1:Int)=1)) then(decide ((1:Int)=1)) else false) then(decide ((1:Int)=1)) else false) then(decide ((1:Int)=1)) else false)=true from rfl)];rw[bS (λ_=>a (by grind)),bS (λ_=>a (by grind[List.length_cons])),C,Iu (show(bif(bif(bif(bif(decide ((1:Int)=1)) then(decide ((1:Int)=1)) else false) then(decide ((1:Int)=1)) else false) then(decide ((1:Int)=1)) else false) then(decide ((1:Int)=1)) else false)=true from rfl)];rfl
def SG(x:dD Nat):Int:=match x with| .ok _ _ _=>0| .more _ _ _=>1|_=>2
end Go.Eng
