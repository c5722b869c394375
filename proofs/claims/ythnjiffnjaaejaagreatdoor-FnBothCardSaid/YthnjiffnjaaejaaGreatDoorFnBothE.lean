/- Part 5 of what FnBoth needs. No condition. -/
import Derived.Test.YthnjiffnjaaejaaGreatDoorFnBothD
set_option linter.all false
namespace Go.Eng
open Go Go.Proofs
section
variable{R:bj}{n:Nat}(bk:o5 R n)(hD:k_ R n){e:cm}(bf:e.ne=30- (n:Int))
include bk bf
theorem aoL{r:H}{F:ah}{st:Z}(h:cI e r F)(p:gA e r F st):bR false e r (Gn (aU true n) r F) (λst=>st) (λ_ _ _=>True) (zK R st):=by
 unfold Gn zK;refine bR.iZ (C:=λx=>x) c_.id (bk.im e .item true rfl bf r F st h p) (λa ad u b k s1 c i _=>?_) (λop nd ds b _ l=>?_) (λb d=>?_)
 ·obtain⟨d,m⟩:=b;dsimp only at i⊢;obtain⟨ao,eK⟩:=A9 true n;rw[eK] at k;obtain⟨s,v⟩:=zv (by simp) k;rw[aS (cu s),i.eta.2.2.2.2.1];obtain⟨ai,rfl,t⟩:=i;rw[ss c,gy];simp only[bA,cK,aL];by_cases f:bs ad=[59,59]
  ·have g:aq ad= .op [59,59]:=(mB (by simp)).2 f;simp only[f,bA,aL];rw[bc g];obtain⟨q,rfl⟩:=(h4 g).2.1;have o:q<:+[59,59]++q:=fO _ q;exact⟨_,mC some (tl c 2 rfl),o.trans s1,c.mono o,⟨ai,rfl,λj=>absurd j (c.uu (by simp) (by decide))⟩,trivial⟩
  ·have g:aq ad≠ .op [59,59]:=λj=>f ((mB (by simp)).1 j);simp only[f,bG,aW];rw[aO g];exact⟨_,rfl,s1,c,⟨ai,rfl,t⟩,trivial⟩
 ·obtain⟨d,m⟩:=b;dsimp only at l⊢;rw[l.z.1];simp only[show¬((1:Int)=0) by decide,bG,cZ,eQ,cA,aW];grind
 ·obtain⟨fb,m⟩:=b;dsimp only at d⊢;rw[d.1];simp only[show¬((2:Int)=0) by decide,bG,cZ,eQ,cA,aW];grind
include hD
theorem abC{r0 r:H}{F:ah}{x:Z}(h:cI e r F)(O:Ds e r F x):bR false e r (N (lJ (a9 true n)) (λ_=>Gn (aU true n)) r F) (λst=>st) (λ_ _ _=>True) (fixF (AR R (zK R)) bD x):=by
 unfold lJ;rw[aoG];refine bR.rep (en:=λ_ r F x=>Ds e r F x) (λk s r F x aB O ni av=>?_) bD () r F _ (wQ h) h O;simp only[k6] at av⊢;rcases O with⟨i,m,P,rfl,NT,E,G,iK⟩|⟨P,rfl⟩
 ·rw[aS (cu P)];unfold AR;have Q:((e.st i F m).1,(e.st i F m).2.1,(e.st i F m).2.2.1,(e.st i F m).2.2.2.1,(e.st i F m).2.2.2.2.1,(e.st i F m).2.2.2.2.2.1,(e.st i F m).2.2.2.2.2.2.1,(e.st i F m).2.2.2.2.2.2.2.1,(e.st i F m).2.2.2.2.2.2.2.2)=e.st i F m:=rfl;dsimp only;rw[Q,qZ,aR rfl];by_cases J:i=[]
  ·subst J;simp only[bA,aL];obtain⟨f,j,t⟩:=vv (ai:=m) (x:=[120,41]) E (by decide);rw[j,aR rfl];exact⟨f,rfl,(t.mono G).s⟩
  ·simp only[J,bG,aW];rw[NO E J,aR rfl];have rT:∃f,h9 (e.st i F m) (e.st i F m).2.1=some f/\jk e r f:=qi _ E G
   have qf:aq i≠ .eof:=λC=>J (mA.1 C);cases an:aq i with
   |eof=>grind
   |line=>simp only[aL];obtain⟨f,j,t⟩:=rT;rw[j,aR rfl];exact⟨_,rfl,by cases j;exact t⟩
   |op o=>simp only[aL];obtain⟨f,j,t⟩:=rT;rw[j,aR rfl];exact⟨_,rfl,by cases j;exact t⟩
   |word w p=>
    simp only[aW,k6];have hs:c1 i=false:=(zz iK an).2;have l:=Gb hD bf (tr0:=m) E;have h6:=aJ.low (aJ.cX (xR true n▸(um true n).dl)) E;obtain⟨⟨dM,fB,ja⟩,hb,l⟩:=l;rw[hb,aR rfl];dsimp only at l⊢;cases hm:cX (a9 true n) i F with
    |ok a v c=>
     rw[hm] at l;obtain⟨cx,ak,a3, -, -, -⟩:=l;rw[aS (qj hm),a3.eta.2.2.2.2.1];simp only[bA,hI,aW];have ay:=wy (mL true n) J hs hm;obtain⟨u,rfl,NX⟩:=a3;obtain⟨kh,S,qh⟩:=x_ ak ⟨u,rfl,NX⟩;rw[S,aR rfl];rcases qh with⟨g,d,T,rfl,NY,y,vu,zJ⟩|⟨T,rfl⟩
     ·rw[aS (cu T)];have U:((e.st g c d).1,(e.st g c d).2.1,(e.st g c d).2.2.1,(e.st v c u).2.2.2.1,(e.st g c d).2.2.2.2.1,(e.st g c d).2.2.2.2.2.1,(e.st g c d).2.2.2.2.2.2.1,(e.st v c u).2.2.2.2.2.2.2.1,(e.st g c d).2.2.2.2.2.2.2.2)=e.st g c d:=rfl;rw[U,qZ,aR rfl];have K:g<:+r:=vu.trans (cx.trans G);by_cases V:g=[]
      ·subst V;simp only[bA,aL];obtain⟨f,j,t⟩:=vv (ai:=d) (x:=[41]) y (by decide);rw[j,aR rfl];exact⟨f,rfl,(t.mono K).s⟩
      ·simp only[V,bG,aW];rw[ss y,aR rfl];have auq:aq g≠ .eof:=λC=>V (mA.1 C);have X:∃f,h9 (e.st g c d) (e.st g c d).2.1=some f/\jk e r f:=qi _ y K
       by_cases L:bs g=[124]
       ·have D:aq g= .op [124]:=(mB (by simp)).2 L;obtain⟨q,rfl⟩:=(h4 D).2.1;rw[D,L];simp only[bA,hI,aW,cK,k6,vE,and_true,show¬((124:UInt8)=41) by decide,bG,fo];have I:q<:+[124]++q:=fO _ q;have Y:=y.uu (by simp) (by decide);rw[aS (show b6 1 ([124]++q) c= .ok () q c from rfl)];obtain⟨z,JJ,Bm⟩:=x_ (y.mono I) ⟨d,rfl,λC=>absurd C Y⟩;have Dt:hR ((e.st ([124]++q) c d).1,W ((e.st ([124]++q) c d).2.1+1),(e.st ([124]++q) c d).2.2.1,(e.st v c u).2.2.2.1,(e.st ([124]++q) c d).2.2.2.2.1,(e.st ([124]++q) c d).2.2.2.2.2.1,(e.st ([124]++q) c d).2.2.2.2.2.2.1,(e.st v c u).2.2.2.2.2.2.2.1,(e.st ([124]++q) c d).2.2.2.2.2.2.2.2)=some z:=by rw[<-JJ];exact mC hR (tl y 1 rfl)
        rw[Dt,aR rfl];have h5:q.length<r.length:=by grind
        have Du:(z.1,z.2.1,z.2.2.1,(e.st v c u).2.2.2.1,z.2.2.2.2.1,z.2.2.2.2.2.1,z.2.2.2.2.2.2.1,(e.st v c u).2.2.2.2.2.2.2.1,z.2.2.2.2.2.2.2.2)=z:=by rcases Bm with⟨oi,Ux, -,rfl, -⟩|⟨-,rfl⟩<;>rfl
        rw[Du];exact bR.inl h5 (av () q c z (I.trans K) (y.mono I) h5 Bm)
       ·by_cases M:bs g=[41]
        ·have D:aq g= .op [41]:=(mB (by simp)).2 M;obtain⟨q,rfl⟩:=(h4 D).2.1;rw[D,M];simp only[bA,hI,aW,cK,k6,vE,and_true,show¬((41:UInt8)=124) by decide,bG,fo,aL,cA];have I:q<:+[41]++q:=fO _ q;have Y:=y.uu (by simp) (by decide);rw[aS (show b6 1 ([41]++q) c= .ok () q c from rfl)];have cD:=aoL bk bf (y.mono I) (st:=e.st q c d) ⟨d,rfl,λC=>absurd C Y⟩;have Dt:zK R ((e.st ([41]++q) c d).1,W ((e.st ([41]++q) c d).2.1+1),(e.st ([41]++q) c d).2.2.1,(e.st v c u).2.2.2.1,(e.st ([41]++q) c d).2.2.2.2.1,(e.st ([41]++q) c d).2.2.2.2.2.1,(e.st ([41]++q) c d).2.2.2.2.2.2.1,(e.st v c u).2.2.2.2.2.2.2.1,(e.st ([41]++q) c d).2.2.2.2.2.2.2.2)=zK R (e.st q c d):=mC (zK R) (tl y 1 rfl);rw[Dt];obtain⟨b,oe,A⟩:=cD.mono (I.trans K);rw[oe,JG];dsimp only;cases B:Gn (aU true n) q c with
         |ok a eY lK=>rw[B] at A;rw[aS B];exact⟨b,rfl,A⟩
         |more op nd ds=>rw[B] at A;rw[dt B];exact⟨b,rfl,A⟩
         |bad q=>rw[B] at A;rw[hq B];exact⟨b,rfl,A⟩
         |deep q=>rw[B] at A;rw[ki B];exact⟨b,rfl,A⟩
        ·simp only[L,M,bG,fo,aL];obtain⟨f,j,t⟩:=X;rw[j,aR rfl]
         have fin:∃b:Z,some (f.1,f.2.1,f.2.2.1,(e.st v c u).2.2.2.1,f.2.2.2.2.1,f.2.2.2.2.2.1,f.2.2.2.2.2.2.1,(e.st v c u).2.2.2.2.2.2.2.1,f.2.2.2.2.2.2.2.2)=some b/\jk e r b:=⟨_,rfl,by cases j;exact t⟩
         cases D:aq g with
         |eof=>grind
         |line=>exact fin
         |word _ _=>exact fin
         |op o=>have aN:=(h4 D).1;subst aN;simp only[L,M,cA];exact fin
     ·rw[dt (op:=[]) (by rw[iY T];rfl)];have U:((e.tt c).1,(e.tt c).2.1,(e.tt c).2.2.1,(e.st v c u).2.2.2.1,(e.tt c).2.2.2.2.1,(e.tt c).2.2.2.2.2.1,(e.tt c).2.2.2.2.2.2.1,(e.st v c u).2.2.2.2.2.2.2.1,(e.tt c).2.2.2.2.2.2.2.2)=e.tt c:=rfl;rw[U,pB,aR rfl];simp only[aL];obtain⟨f,j,t⟩:=Dp (x:=[41]) ak.Be (by decide);rw[j,aR rfl];exact⟨f,rfl,(t.mono nP).s⟩
    |more op nd ds=>rw[hm] at l;rw[dt (tk hm),l.z.1];simp only[show¬((1:Int)=0) by decide,bG,fo,aL];obtain⟨f,af,bg⟩:=Gm (q:=false) (x:=[41]) E l G (by grind) (by decide);rw[af,aR rfl];exact⟨f,rfl,bg⟩
    |bad q=>rw[hm] at l;rw[hq (vw hm),l.1];simp only[show¬((2:Int)=0) by decide,bG,fo,aL];rw[su l,aR rfl];exact⟨_,rfl,l.mono G⟩
    |deep q=>rw[hm] at l;rw[ki (vx hm),l.1];simp only[show¬((2:Int)=0) by decide,bG,fo,aL];rw[su l,aR rfl];exact⟨_,rfl,l.mono G⟩
 ·rw[dt (op:=[]) (by rw[iY P];rfl)];unfold AR;have Q:((e.tt F).1,(e.tt F).2.1,(e.tt F).2.2.1,(e.tt F).2.2.2.1,(e.tt F).2.2.2.2.1,(e.tt F).2.2.2.2.2.1,(e.tt F).2.2.2.2.2.2.1,(e.tt F).2.2.2.2.2.2.2.1,(e.tt F).2.2.2.2.2.2.2.2)=e.tt F:=rfl;dsimp only;rw[Q,pB,aR rfl];simp only[aL];obtain⟨f,j,t⟩:=Dp (x:=[120,41]) aB.Be (by decide);rw[j,aR rfl];exact⟨f,rfl,(t.mono nP).s⟩
end
theorem JK:(eH:H)≠[]/\eH.all gN=true:=by decide
def zL:H:=10::eH
def Gp:H:=[32]++fK++[10]++eH
def Bn:H:=[120,32]++fK++[10]++eH
theorem aoO{σ α:Type}(f:σ->ae (σ⊕α))(x:H):∀(bw:Nat)(s:σ)(r:H)(F:ah),r.length<=bw->(b8 f s).aM x r F=b8 (λs=>(f s).aM x) s r F:=by
 intro bw;induction bw with
 |zero=>
  intro s r F h;have d:r.length=0:=by omega
  rw[cz];unfold ae.aM;rw[cz];cases M:f s r F with
  |ok y ad b=>grind[cR]
  |more op nd ds=>rfl
  |bad q=>rfl
  |deep q=>rfl
 |succ bw c=>
  intro s r F h;rw[cz];unfold ae.aM;rw[cz];cases M:f s r F with
  |ok y ad b=>
   cases y with
   |inl s'=>
    simp only[cR];by_cases ay:ad.length<r.length
    ·rw[bc ay,bc ay];exact c s' ad b (by omega)
    grind
   |inr a=>rfl
  |more op nd ds=>rfl
  |bad q=>rfl
  |deep q=>rfl
noncomputable def zM:Z->Option Z:=λx=>(aw (gZ x ([]) ([10,101,115,97,99]:H)) λ(a:Z)=>some a)
noncomputable def JL(R:bj)(a:Z->Option Z):Z->Option Z:=λx=>
 (cZ ((decide (x.2.2.2.2.1=0))=true) (mx x) [] λ(b:H)=>(bif(bif(decide (x.2.2.2.2.1=0)) then(decide (b=([101,115,97,99]:H))) else false) then some (x.1,(W (x.2.1+4)),x.2.2.1,x.2.2.2.1,x.2.2.2.2.1,x.2.2.2.2.2.1,x.2.2.2.2.2.2.1,x.2.2.2.2.2.2.2.1,x.2.2.2.2.2.2.2.2) else(bif(decide (x.2.2.2.2.1=0)) then(aw (Ir R x) λ(c:Z)=>a c) else a x)))
noncomputable def JM(R:bj)(b:Z->Option Z):Z->Option Z:=λa=>
 (cZ ((decide (a.2.2.2.2.1=0))=true) (gY a) false λ(c:Bool)=>(bif(bif(decide (a.2.2.2.2.1=0)) then c else false) then(aw (hS a ([])) λ(d:Z)=>JL R b d) else JL R b a))
theorem abD(R:bj)(j k:Z->Option Z)(x:Z):Is R j k x=(bif(decide (x.2.2.2.2.1=0)) then(aw (pt x) λ(a:Z)=>JM R k a) else j x):=rfl
noncomputable def ya(R:bj):Z->Option Z:=λx=>
 (bif(!(decide (x.2.2.2.2.1=0))) then(aw (gZ x ([]) ([32,105,110,10,101,115,97,99]:H)) λ(b:Z)=>some b) else(aw (mx x) λ(c:H)=>(bif(!(decide (c=([105,110]:H)))) then(aw (h9 x x.2.1) λ(a:Z)=>some (a.1,a.2.1,a.2.2.1,x.2.2.2.1,a.2.2.2.2.1,a.2.2.2.2.2.1,a.2.2.2.2.2.2.1,x.2.2.2.2.2.2.2.1,a.2.2.2.2.2.2.2.2)) else(fixF (Is R zM) bD (x.1,(W (x.2.1+2)),x.2.2.1,x.2.2.2.1,x.2.2.2.2.1,x.2.2.2.2.2.1,x.2.2.2.2.2.2.1,x.2.2.2.2.2.2.2.1,x.2.2.2.2.2.2.2.2)))))
noncomputable def JN(R:bj):Z->Option Z:=λb=>
 (bif(decide (b.2.2.2.2.1=0)) then(aw (pt b) λ(a:Z)=>(cZ ((decide (a.2.2.2.2.1=0))=true) (gY a) false λ(c:Bool)=>(bif(bif(decide (a.2.2.2.2.1=0)) then c else false) then(aw (hS a ([])) λ(d:Z)=>ya R d) else ya R a))) else ya R b)
noncomputable def Uy(R:bj):Z->Option Z:=λx=>
 (aw (gY x) λ(b:Bool)=>(bif b then(aw (hS x ([120,32,105,110,10,101,115,97,99]:H)) λ(c:Z)=>some c) else(aw (xE x) λ(d:Bool)=>(bif d then(aw (h9 x x.2.1) λ(a:Z)=>some (a.1,a.2.1,a.2.2.1,x.2.2.2.1,a.2.2.2.2.1,a.2.2.2.2.2.1,a.2.2.2.2.2.2.1,x.2.2.2.2.2.2.2.1,a.2.2.2.2.2.2.2.2)) else(aw (rr R x) λy=>JN R y.2.2)))))
theorem aoP(R:bj)(I:Z):Iv R I=aw (hR I) λa=>Uy R (a.1,a.2.1,a.2.2.1,I.2.2.2.1,a.2.2.2.2.1,a.2.2.2.2.2.1,a.2.2.2.2.2.2.1,I.2.2.2.2.2.2.2.1,a.2.2.2.2.2.2.2.2):=rfl
theorem Gq{e:cm}{r:H}{b F:ah}{x:H}(h:cI e r b)(d:eC F<=100*e.S.length+800)(f:x.length<=100):∃a,hS (e.tt F) x=some a/\oK e r (cW [] F x).1 (cW [] F x).2 a:=by
 have h0:=h.b7;have g:=uo F;have c:=Bc x [] F;refine⟨(e.S,(e.S.length:Int),e.ne,(cW [] F x).2,1,0,(cW [] F x).1,[],true),?_,rfl,rfl,rfl,⟨rfl,?_,?_,?_,?_⟩,?_⟩
 ·unfold hS a7 cm.tt;simp only[bA,aL];rw[Dk _ _ _ _ _ _ _ _ _ _ (by omega) (by grind) (by omega),aR rfl]
 ·grind[ax]
 ·grind
 ·grind
 ·simp
 simp
theorem aoQ{l:ea}{D:ae Unit}(aD:l.dl=D)(ay:zB l)(t:Tok):aJ 50 (Bl l D t):=by subst aD;exact(aJ.ite (aJ.dA _) (aJ.ret _)).N λ_=>((aJ.xK ay).mono (by decide)).N λ_=>(ay.ls _ _).N λ_=>(aJ.dR (by simp)).N λt=>aJ.ite (aJ.dA _) (aJ.ret _)
section
variable{R:bj}{n:Nat}(bk:o5 R n)(hD:k_ R n){e:cm}(bf:e.ne=30- (n:Int))
include bk hD bf
theorem aoR{r:H}{F:ah}{st:Z}(h:cI e r F)(j:gA e r F st)(Y:bo r=some r):bR false e r (Bl (aU true n) (a9 true n) (aq r) r F) (λst=>st) (λ_ _ _=>True) (Ir R st):=by
 unfold Bl;rw[aoK];obtain⟨ai,rfl,k⟩:=j;rw[ss h,aR rfl];by_cases a:bs r=[40]
 ·have b:aq r= .op [40]:=(mB (by simp)).2 a;simp only[a,b,bA,aL,cK];obtain⟨q,rfl⟩:=(h4 b).2.1;rw[aS (show b6 1 ([40]++q) F= .ok () q F from rfl)];have c:q<:+[40]++q:=fO _ q;have l:=h.uu (by simp) (by decide);obtain⟨d,m,i⟩:=x_ (h.mono c) (st:=e.st q F ai) ⟨ai,rfl,λf=>absurd f l⟩;have o:hR ((e.st ([40]++q) F ai).1,W ((e.st ([40]++q) F ai).2.1+1),(e.st ([40]++q) F ai).2.2.1,(e.st ([40]++q) F ai).2.2.2.1,(e.st ([40]++q) F ai).2.2.2.2.1,(e.st ([40]++q) F ai).2.2.2.2.2.1,(e.st ([40]++q) F ai).2.2.2.2.2.2.1,(e.st ([40]++q) F ai).2.2.2.2.2.2.2.1,(e.st ([40]++q) F ai).2.2.2.2.2.2.2.2)=some d:=by rw[<-m];exact mC hR (tl h 1 rfl)
  rw[o,aR rfl];have g:JI R (e.st ([40]++q) F ai) d=fixF (AR R (zK R)) bD d:=by unfold JI;rcases i with⟨p,s, -,rfl, -⟩|⟨-,rfl⟩<;>rfl
  rw[g];exact(abC (r0:=[40]++q) bk hD bf (h.mono c) i).mono c
 ·have b:aq r≠ .op [40]:=λf=>a ((mB (by simp)).1 f);simp only[a,b,bG,aW,cA];rw[JG];have g:JI R (e.st r F ai) (e.st r F ai)=fixF (AR R (zK R)) bD (e.st r F ai):=rfl;rw[g];exact abC (r0:=r) bk hD bf h (.inl ⟨r,ai,Y,rfl,k,h,fq,Y⟩)
omit bk hD bf in
theorem Uz{k:Z->Option Z}{x:Z}(h:x.2.2.2.2.1≠0):JL R k x=k x:=by unfold JL;simp_all[cZ]
omit bk hD bf in
theorem UA{k:Z->Option Z}{x:Z}(h:x.2.2.2.2.1≠0):JM R k x=k x:=by unfold JM;simp only[h,bG,cZ,eQ,cA,aW];exact Uz h
theorem aoS{r:H}{F:ah}{st:Z}(h:cI e r F)(J:gA e r F st):bR false e r ((n4 (aU true n) (a9 true n)).aM zL r F) (λst=>st) (λ_ _ _=>True) (fixF (Is R zM) bD st):=by
 rw[aoI,aoO _ _ _ _ _ _ (cF _)];refine bR.rep (en:=λ_ r F x=>gA e r F x) (λk s r F x p w K av=>?_) bD () r F _ (wQ h) h J
 have m:∀x:Z,x.2.2.2.2.1≠0->k x=zM x:=by intro x w;obtain⟨k',M⟩:=K x;simp_all[abD]
 have L:zL.length<=100:=by decide
 have y:∀{ad:H}{nd:H}{ds:ah}{st:Z}{op:bx},ad<:+r->jb false e ad nd ds st->nd.length+eC ds<=100*e.S.length+500->pD (aU true n) (a9 true n) s r F= .more op nd ds->bR false e r (cR (λs=>(pD (aU true n) (a9 true n) s).aM zL) r ((pD (aU true n) (a9 true n) s).aM zL r F)) (λst=>st) (λ_ _ _=>True) (k st):=by intro ad nd ds st op M U O P;rw[tk P,m st (by rw[U.z.1];decide)];obtain⟨z,Q,S⟩:=Gm (q:=false) (x:=zL) (p.mono M) U M O L;unfold zM;rw[show([10,101,115,97,99]:H)=zL from rfl,Q];exact⟨z,rfl,S⟩
 rw[abD,w.eta.2.2.2.2.1];simp only[bA,aL];obtain⟨bN,T,f⟩:=F7 p w;rw[T,aR rfl];have V:=aJ.low (aJ.lines (c:=0)) p;cases hm:c2 r F with
 |ok a ad i=>
  rw[hm] at f;obtain⟨t,ak,a3,u,fj⟩:=f;obtain⟨ai,rfl,W⟩:=a3;unfold JM;have v:(e.st ad i ai).2.2.2.2.1=0:=rfl;rw[v,qZ,gy];simp only[bA,cK,aL];by_cases A:ad=[]
  ·subst A;simp only[bA,aL];obtain⟨z,B,o⟩:=vv (ai:=ai) (x:=[]) ak (by decide);rw[B,aR rfl,Uz (by rw[o.1];decide)];have g:pD (aU true n) (a9 true n) s r F= .more [] [] i:=by unfold pD;rw[aS hm,aS (cu u)];rfl
   exact y t o.s (by have:=ak.kf;show([]:H).length+eC i<=_;omega) g
  ·simp only[A,bG,aW];unfold JL;rw[v,wR ak,gy];simp only[bA,cK,aL];have D:=h.nl.iE ak.sfx;have X:aq ad≠ .eof:=λC=>A (mA.1 C);by_cases aD:jw ad=[101,115,97,99]
   ·have E:=(sq D JK.1 JK.2).1 aD;simp only[aD,bA,aL];obtain⟨q,rfl⟩:=(qQ E).1;have G:q<:+eH++q:=fO _ q;have g:pD (aU true n) (a9 true n) s r F= .ok (.inr ()) q i:=by unfold pD;rw[aS hm,aS (cu u),E];rfl
    rw[qj g];exact⟨_,mC some (tl ak 4 rfl),G.trans t,ak.mono G,⟨ai,rfl,λC=>absurd C (ak.uu (by decide) (by decide))⟩,trivial⟩
   ·have bh:cG (aq ad) eH=false:=by rw[<-Jy D JK.1 JK.2];exact eE aD
    simp only[aD,bG,aW];have j:pD (aU true n) (a9 true n) s r F=N (Bl (aU true n) (a9 true n) (aq ad)) (λ_=>a1 (.inl ())) ad i:=by unfold pD;rw[aS hm,aS (cu u),aO X,aO (by grind)]
    have d:=aoR bk hD bf ak ⟨ai,rfl,W⟩ u;obtain⟨b,I,d⟩:=d;rw[I,aR rfl];have Y:∀op nd ds,Bl (aU true n) (a9 true n) (aq ad) ad i= .more op nd ds->nd.length+eC ds<=100*e.S.length+50:=aJ.low (aoQ (xR true n) (um true n) _) ak
    cases l:Bl (aU true n) (a9 true n) (aq ad) ad i with
    |ok ak aC dr=>rw[l] at d;obtain⟨dM,fB,ja,_⟩:=d;rw[aS l] at j;have ay:=aoJ (s':=()) j;rw[qj j];grind[bR.inl]
    |more op nd ds=>grind[dt]
    |bad q=>rw[l] at d;rw[hq l] at j;rw[vw j];rw[m b (by rw[d.1];decide)];unfold zM;rw[su d];exact⟨_,rfl,d.mono t⟩
    |deep q=>rw[l] at d;rw[ki l] at j;rw[vx j];rw[m b (by rw[d.1];decide)];unfold zM;rw[su d];exact⟨_,rfl,d.mono t⟩
 |more op nd ds=>
  rw[hm] at f;have g:pD (aU true n) (a9 true n) s r F= .more op nd ds:=by unfold pD;grind[dt]
  have I:=V _ _ _ hm;rcases f with f|⟨_,rfl,rfl⟩
  ·rw[UA (by grind)];exact y List.suffix_rfl (.inl f) (by omega) g
  ·unfold JM;have v:(e.tt ds).2.2.2.2.1=0:=rfl;rw[v,pB,gy];simp only[decide_true,if_true,cond_true];obtain⟨z,B,o⟩:=Gq (F:=ds) (x:=[]) p (by omega) (by simp);rw[B,aR rfl,Uz (by rw[o.1];decide)];exact y fq o.s (by show([]:H).length+eC ds<=_;omega) g
 |bad q=>
  rw[hm] at f;have g:pD (aU true n) (a9 true n) s r F= .bad q:=by simp_all[pD,hq]
  rw[vw g,UA (by rw[f.1];decide),m _ (by rw[f.1];decide)];unfold zM;rw[su f];exact⟨_,rfl,f⟩
 |deep q=>
  rw[hm] at f;have g:pD (aU true n) (a9 true n) s r F= .deep q:=by simp_all[pD,ki]
  rw[vx g,UA (by rw[f.1];decide),m _ (by rw[f.1];decide)];unfold zM;rw[su f];exact⟨_,rfl,f⟩
end
def qk(D:ae Unit):ae Tok:=N (cX D) λ_=>N c2 λ_=>N (bV []) λt=>if t= .eof then cf [] else a1 t
theorem aoT(l:ea)(D:ae Unit):rD l D=N (bV Bn) λt=>match t with
 | .eof=>cf Bn
 | .word _ _=>N ((qk D).aM Gp) λt=>if cG t fK then N (b6 2) λ_=>(n4 l D).aM zL else bP
 |_=>bP:=rfl
section
variable{R:bj}{n:Nat}(bk:o5 R n)(hD:k_ R n){e:cm}(bf:e.ne=30- (n:Int))
theorem N0{r r0:H}{nd:H}{ds:ah}{st:Z}{b:ah}(h0:cI e r b)(hm:jb false e r nd ds st)(c:r<:+r0)(d:nd.length+eC ds<=100*e.S.length+500):∃a,ya R st=some a/\jb false e r0 (cW nd ds Gp).1 (cW nd ds Gp).2 a:=by obtain⟨a,f,g⟩:=Gm (q:=false) (x:=Gp) h0 hm c d (by decide);unfold ya;rw[hm.z.1];simp only[show¬((1:Int)=0) by decide,bG,fo,aL];rw[show([32,105,110,10,101,115,97,99]:H)=Gp from rfl,f];exact⟨a,rfl,g⟩
theorem N1{r:H}{st:Z}(hm:jk e r st):ya R st=some st:=by unfold ya;rw[hm.1];simp only[show¬((2:Int)=0) by decide,bG,fo,aL];rw[su hm];rfl
theorem UB{st:Z}(hm:st.2.2.2.2.1≠0):JN R st=ya R st:=by simp_all[JN]
include bk hD bf
theorem aoU{r r0:H}{F:ah}{st:Z}(h:cI e r F)(d:gA e r F st)(h0:r<:+r0)(Y:bo r=some r)(k:r≠[]):bR false e r0 ((if cG (aq r) fK then N (b6 2) λ_=>(n4 (aU true n) (a9 true n)).aM zL else bP:ae Unit) r F) (λst=>st) (λ_ _ _=>True) (ya R st):=by
 obtain⟨ai,rfl,l⟩:=d;have f:(e.st r F ai).2.2.2.2.1=0:=rfl;unfold ya;rw[f,wR h,aR rfl];simp only[bA,hI,aW];have a:=h.nl.iE h.sfx;by_cases aD:jw r=[105,110]
 ·have g:=(sq a Bi.1 Bi.2).1 aD;simp only[aD,bA,hI,aW];have bh:cG (aq r) fK=true:=by grind[cG]
  rw[bc bh];obtain⟨q,rfl⟩:=(qQ g).1;rw[aS (show b6 2 (fK++q) F= .ok () q F from rfl)];have b:q<:+fK++q:=fO _ q;have az:=aoS bk hD bf (h.mono b) (st:=e.st q F ai) ⟨ai,rfl,λi=>absurd i (h.uu (by decide) (by decide))⟩;refine bR.ei (az.mono (b.trans h0)) ?_;exact mC (fixF (Is R zM) bD) (tl h 2 rfl)
 ·have bh:cG (aq r) fK=false:=by rw[<-Jy a Bi.1 Bi.2];exact eE aD
  simp only[aD,bG,fo,aL];rw[aO (by grind)];obtain⟨m,c,j⟩:=qi (ai:=ai) (e.st r F ai).2.1 h h0;rw[c,aR rfl];exact⟨_,rfl,by cases c;exact j⟩
theorem aoV{r r0:H}{F:ah}{tr0:Bool}(h:cI e r F)(g:r<:+r0){w:H}{p:Bool}(Q:aq r= .word w p):bR false e r0 (N ((qk (a9 true n)).aM Gp) (λt=>if cG t fK then N (b6 2) λ_=>(n4 (aU true n) (a9 true n)).aM zL else bP) r F) (λst=>st) (λ_ _ _=>True) (aw (rr R (e.st r F tr0)) λy=>JN R y.2.2):=by
 have b:=Gb hD bf (tr0:=tr0) h;have S:=aJ.low (aJ.cX (xR true n▸(um true n).dl)) h;obtain⟨⟨T,U,V⟩,E,b⟩:=b;rw[E,aR rfl];dsimp only at b⊢;cases hm:cX (a9 true n) r F with
 |ok a G I=>
  rw[hm] at b;obtain⟨m,ak,a3, -, -, -⟩:=b;unfold JN;rw[a3.eta.2.2.2.2.1];simp only[bA,aL];obtain⟨W,J,d⟩:=F7 ak a3;rw[J,aR rfl];have z:=aJ.low (aJ.lines (c:=0)) ak;cases i:c2 G I with
  |ok X o s=>
   rw[i] at d;obtain⟨fb,u,K,A,Y⟩:=d;obtain⟨ai,rfl,L⟩:=K;have B:(e.st o s ai).2.2.2.2.1=0:=rfl;rw[B,qZ,gy];simp only[bA,cK,aL];by_cases v:o=[]
   ·subst v;simp only[bA,aL];obtain⟨M,C,D⟩:=vv (ai:=ai) (x:=[]) u (by decide);rw[C,aR rfl];have f:qk (a9 true n) r F= .more [] [] s:=by unfold qk;rw[aS hm,aS i,aS (cu A)];rfl
    rw[dt (tk f)];have:=u.kf;obtain⟨j,k,l⟩:=N0 (R:=R) u D.s (fb.trans (m.trans g)) (by show([]:H).length+eC s<=_;omega);exact⟨j,k,l⟩
   ·simp only[v,bG,aW];have O:aq o≠ .eof:=λP=>v (mA.1 P);have f:qk (a9 true n) r F= .ok (aq o) o s:=by unfold qk;rw[aS hm,aS i,aS (cu A),aO O];rfl
    rw[aS (qj f)];exact aoU bk hD bf u ⟨ai,rfl,L⟩ (fb.trans (m.trans g)) A v
  |more op nd ds=>
   rw[i] at d;have f:qk (a9 true n) r F= .more op nd ds:=by unfold qk;grind[aS,dt]
   rw[dt (tk f)];have Z:=z _ _ _ i;rcases d with d|⟨_,rfl,rfl⟩
   ·rw[d.1];simp only[show¬((1:Int)=0) by decide,bG,cZ,eQ,cA,aW];obtain⟨j,k,l⟩:=N0 (R:=R) ak (.inl d) (m.trans g) (by omega);exact⟨j,k,l⟩
   ·have B:(e.tt ds).2.2.2.2.1=0:=rfl;rw[B,pB,gy];simp only[bA,cK,aL];obtain⟨M,C,D⟩:=Gq (F:=ds) (x:=[]) ak (by omega) (by simp);rw[C,aR rfl];obtain⟨j,k,l⟩:=N0 (R:=R) ak D.s (m.trans g) (by show([]:H).length+eC ds<=_;omega);exact⟨j,k,l⟩
  |bad q=>
   rw[i] at d;have f:qk (a9 true n) r F= .bad q:=by unfold qk;grind[aS,hq]
   rw[hq (vw f),d.1];simp only[show¬((2:Int)=0) by decide,bG,cZ,eQ,cA,aW];rw[N1 d];exact⟨_,rfl,d.mono (m.trans g)⟩
  |deep q=>
   rw[i] at d;have f:qk (a9 true n) r F= .deep q:=by unfold qk;grind[aS,ki]
   rw[ki (vx f),d.1];simp only[show¬((2:Int)=0) by decide,bG,cZ,eQ,cA,aW];rw[N1 d];exact⟨_,rfl,d.mono (m.trans g)⟩
 |more op nd ds=>
  rw[hm] at b;have f:qk (a9 true n) r F= .more op nd ds:=by unfold qk;rw[dt hm]
  rw[dt (tk f),UB (by rw[b.z.1];decide)];obtain⟨j,k,l⟩:=N0 (R:=R) h b g (by grind);exact⟨j,k,l⟩
 |bad q=>
  rw[hm] at b;have f:qk (a9 true n) r F= .bad q:=by simp_all[qk,hq]
  rw[hq (vw f),UB (by rw[b.1];decide),N1 b];exact⟨_,rfl,b.mono g⟩
 |deep q=>
  rw[hm] at b;have f:qk (a9 true n) r F= .deep q:=by simp_all[qk,ki]
  rw[ki (vx f),UB (by rw[b.1];decide),N1 b];exact⟨_,rfl,b.mono g⟩
theorem aoW{r:H}{F:ah}{st:Z}(h:cI e r F)(s:gA e r F st):bR false e r (rD (aU true n) (a9 true n) r F) (λst=>st) (λ_ _ _=>True) (Iv R st):=by
 rw[aoT,aoP];obtain⟨ai,rfl,t⟩:=s;rcases xY h ⟨ai,rfl,t⟩ with⟨a,y,i,j,u,k,m,z⟩|⟨i,j⟩
 ·rw[j,aR rfl,aS (cu i)];obtain⟨b,rfl,A⟩:=u;have l:((e.st a F b).1,(e.st a F b).2.1,(e.st a F b).2.2.1,(e.st r F ai).2.2.2.1,(e.st a F b).2.2.2.2.1,(e.st a F b).2.2.2.2.2.1,(e.st a F b).2.2.2.2.2.2.1,(e.st r F ai).2.2.2.2.2.2.2.1,(e.st a F b).2.2.2.2.2.2.2.2)=e.st a F b:=rfl;rw[l];unfold Uy;rw[qZ,aR rfl];by_cases g:a=[]
  ·subst g;simp only[bA,aL];obtain⟨d,c,f⟩:=vv (ai:=b) (x:=Bn) k (by decide);rw[show([120,32,105,110,10,101,115,97,99]:H)=Bn from rfl,c,aR rfl];exact⟨d,rfl,(f.mono m).s⟩
  ·simp only[g,bG,aW];rw[NO k g,aR rfl];have q:∃d,h9 (e.st a F b) (e.st a F b).2.1=some d/\jk e r d:=qi _ k m
   have B:aq a≠ .eof:=λv=>g (mA.1 v);cases C:aq a with
   |eof=>grind
   |line=>simp only[aL];obtain⟨d,c,f⟩:=q;rw[c,aR rfl];exact⟨_,rfl,by cases c;exact f⟩
   |op o=>simp only[aL];obtain⟨d,c,f⟩:=q;rw[c,aR rfl];exact⟨_,rfl,by cases c;exact f⟩
   |word w p=>simp only[aW];grind[aoV]
 ·rw[j,aR rfl,dt (op:=[]) (nd:=(cW [] F Bn).1) (ds:=(cW [] F Bn).2) (by rw[iY i];rfl)];have l:((e.tt F).1,(e.tt F).2.1,(e.tt F).2.2.1,(e.st r F ai).2.2.2.1,(e.tt F).2.2.2.2.1,(e.tt F).2.2.2.2.2.1,(e.tt F).2.2.2.2.2.2.1,(e.st r F ai).2.2.2.2.2.2.2.1,(e.tt F).2.2.2.2.2.2.2.2)=e.tt F:=rfl;rw[l];unfold Uy;rw[pB,aR rfl];simp only[aL];obtain⟨d,c,f⟩:=Dp (x:=Bn) h.Be (by decide);rw[show([120,32,105,110,10,101,115,97,99]:H)=Bn from rfl,c,aR rfl];exact⟨d,rfl,(f.mono nP).s⟩
end
theorem N2:(hT:H)≠[]/\hT.all gN=true:=by decide
theorem Dw:(eh:H)≠[]/\eh.all gN=true:=by decide
theorem UC:(gf:H)≠[]/\gf.all gN=true:=by decide
theorem UD:(iv:H)≠[]/\iv.all gN=true:=by decide
theorem N3:([125]:H)≠[]/\([125]:H).all gN=true:=by decide
theorem UE(t:Tok)(h:d_ .qL t=true):∃w,t= .word w true/\w≠[]/\w.all gN=true/\(w=iv\/w=gf\/w=eh):=by
 simp only[d_,yl] at h;rcases h with(h|h)|h
 ·exact⟨iv,Gj h,UD.1,UD.2,.inl rfl⟩
 ·exact⟨gf,Gj h,UC.1,UC.2,.inr (.inl rfl)⟩
 ·exact⟨eh,Gj h,Dw.1,Dw.2,.inr (.inr rfl)⟩
theorem aoX{β:Type}{m:Nat}{c:Ctx}{no:Bool}{kw x y:H}{K:ae β}(az:c≠ .text)(b:∀t,d_ c t=cG t kw)(e:kw≠[]/\kw.all gN=true){r:H}{F:ah}(f:dK r):
  N (((aU true m).ls c no).aM x) (λ_=>N ((cS kw).aM y) (λ_=>K)) r F=N (N (((aU true m).ls c no).aM x) (λ_=>tj)) (λ_=>K) r F:=by
 rw[<-NR az b e f];cases hm:(((aU true m).ls c no).aM x) r F with
 |ok a ad g=>
  rw[aS hm,aS hm];have d:=h3.1 hm;obtain⟨ao,eK⟩:=A9 true m;rw[eK] at d;obtain⟨h,i⟩:=zv az d;rw[b] at i;have j:aq ad= .word kw true:=by grind[cG]
  have:=Gh (F:=g) h j;grind[aS,qj]
 |more op nd ds=>grind[dt]
 |bad q=>grind[hq]
 |deep q=>grind[ki]
def UF:H:=[10]++hT++[32,120,10]++eh
def yb:H:=10::eh
def N4(l:ea):Unit->ae (Unit⊕Unit):=λ_=>N ((l.ls .sg false).aM UF) λ_=>N (cS hT) λ_=>N ((l.ls .qL false).aM yb) λ_=>
    N (bV []) λt=>if cG t iv then N (cS iv) λ_=>a1 (.inl ()) else
     if cG t gf then N (cS gf) λ_=>N ((l.ls .kE false).aM yb) λ_=>N (cS eh) λ_=>a1 (.inr ()) else N (cS eh) λ_=>a1 (.inr ())
theorem aoY(l:ea):rC l=b8 (N4 l) ():=rfl
theorem aoZ{n:Nat}{s':Unit}{r:H}{F:ah}{r':H}{a:ah}(h:N4 (aU true n) () r F= .ok (.inl s') r' a):r'.length<r.length:=(Y_ (rF true n)).lt (s:=()) h
def N5(l:ea):ae (Unit⊕Unit):=N ((l.ls .qL false).aM yb) λ_=>
    N (bV []) λt=>if cG t iv then N (cS iv) λ_=>a1 (.inl ()) else
     if cG t gf then N (cS gf) λ_=>N ((l.ls .kE false).aM yb) λ_=>N (cS eh) λ_=>a1 (.inr ()) else N (cS eh) λ_=>a1 (.inr ())
def UG(l:ea):ae (Unit⊕Unit):=N (N ((l.ls .qL false).aM yb) λ_=>tj) λa=>if a=iv then a1 (.inl ()) else if a=gf then N (N ((l.ls .kE false).aM yb) λ_=>tj) λ_=>a1 (.inr ()) else a1 (.inr ())
theorem ao0{n:Nat}{s:Unit}{r:H}{F:ah}(a:dK r):N4 (aU true n) s r F=N (N (((aU true n).ls .sg false).aM UF) λ_=>tj) (λ_=>N5 (aU true n)) r F:=by show N (((aU true n).ls .sg false).aM UF) (λ_=>N (cS hT) λ_=>N5 (aU true n)) r F=_;exact NR (by simp) abo N2 a
theorem ao1{r:H}{F:ah}{w:H}(a:dK r)(b:w≠[]/\w.all gN=true)(c:aq r= .word w true):tj r F= .ok w (r.drop w.length) F:=by grind[sq,tj]
theorem ao2{n:Nat}{r:H}{F:ah}(g:dK r):N5 (aU true n) r F=UG (aU true n) r F:=by
 unfold N5 UG;rw[k6];cases hm:(((aU true n).ls .qL false).aM yb) r F with
 |ok a ad h=>
  rw[aS hm,aS hm];have f:=h3.1 hm;have Y:=((rF true n).ls .qL false).sfx f;have b:=g.iE Y;obtain⟨ao,eK⟩:=A9 true n;rw[eK] at f;obtain⟨e,i⟩:=zv (by simp) f;obtain⟨w,d,j,k,l⟩:=UE _ i;rw[aS (cu e),aS (ao1 b ⟨j,k⟩ d),d];rcases l with rfl|rfl|rfl
  ·rw[bc (by decide),bc rfl,aS (Gh e d)]
  ·rw[aO (by decide),bc (by decide),aO (by decide),bc rfl,aS (Gh e d)];have aD:dK (ad.drop gf.length):=b.iE (lO _ _);have:=NR (β:=Unit⊕Unit) (m:=n) (no:=false) (x:=yb) (K:=a1 (.inr ())) (c:= .kE) (by simp) abq Dw aD (F:=h);omega
  ·rw[aO (by decide),aO (by decide),aO (by decide),aO (by decide),aS (Gh e d)]
 |more op nd ds=>grind[dt]
 |bad q=>grind[hq]
 |deep q=>grind[ki]
noncomputable def Dx(R:bj):H×Z->Option Z:=λy=>
 (bif(bif(decide (y.2.2.2.2.2.1=0)) then(decide (y.1=([101,108,115,101]:H))) else false) then(aw (qJ R y.2 ([([102,105]:H)]:bx) ([10,102,105]:H)) λ(b,a)=>some a) else some y.2)
theorem abH(R:bj)(j:H×Z->Option Z)(k:H×Z->Option Z)(y:H×Z):IB R j k y=(bif(bif(decide (y.2.2.2.2.2.1=0)) then(decide (y.1=([101,108,105,102]:H))) else false) then
 (aw (qJ R y.2 ([([116,104,101,110]:H)]:bx) ([10,116,104,101,110,32,120,10,102,105]:H)) λz=>
 (bif(decide (z.2.2.2.2.2.1=0)) then
 (aw (qJ R z.2 ([([101,108,105,102]:H),([101,108,115,101]:H),([102,105]:H)]:bx) ([10,102,105]:H)) λv=>k v)
 else k (y.1,z.2)))
 else j y):=rfl
section
variable{R:bj}{n:Nat}(bk:o5 R n)(hD:k_ R n){e:cm}(bf:e.ne=30- (n:Int))
theorem N6{y:H×Z}(h:y.2.2.2.2.2.1≠0):Dx R y=some y.2:=by simp_all[Dx]
include bk bf
theorem ao3{r:H}{F:ah}{st:Z}(h:cI e r F)(E:gA e r F st):bR false e r (rC (aU true n) r F) (λst=>st) (λ_ _ _=>True) (fixF (IB R (Dx R)) bD (iv,st)):=by
 rw[aoY];refine bR.rep (en:=λ_ r F (x:H×Z)=>x.1=iv/\gA e r F x.2) (λk s r F x l i G av=>?_) bD () r F _ (wQ h) h ⟨rfl,E⟩;obtain⟨af,x⟩:=x;obtain⟨rfl,i⟩:=i;dsimp only at i
 have g:∀y:H×Z,(y.2.2.2.2.2.1≠0\/y.1≠iv)->k y=Dx R y:=by
  intro y bl;obtain⟨k',M⟩:=G y;rw[M,abH];rcases bl with bl|bl
  ·grind
  ·have:decide (y.1=([101,108,105,102]:H))=false:=eE bl;grind
 rw[abH];dsimp only;rw[i.eta.2.2.2.2.1,decide_eq_true (show(iv:H)=[101,108,105,102] from rfl)];simp only[bA,aL];have d:∀{u:H}{m:ah},N4 (aU true n) s r F= .ok (.inl ()) u m->u.length<r.length:=λI=>aoZ (s':=()) I
 rw[ao0 (l.nl.iE l.sfx)] at d⊢;refine bR.iZ (C:=cR _ r) c_.k (Dq bk bf (c:= .sg) rfl (by simp) (Gk abo N2) (by decide) l i) (λa ad aH b J s1 o z hb=>?_) (λop nd ds b _ p=>?_) (λb q=>?_)
 ·rw[aS J] at d;rw[z.eta.2.2.2.2.1];simp only[bA,aL];rw[ao2 (o.nl.iE o.sfx)] at d⊢;unfold UG at d⊢;have U:=(Dq bk bf (c:= .qL) (x:=yb) rfl (by simp) (λt an=>by grind[UE]) (by decide) o z).mono s1;refine bR.iZ (C:=cR _ r) c_.k U (λak K L f N s2 v j O=>?_) (λop nd ds f _ A=>?_) (λf B=>?_)
  ·rw[aS N] at d;obtain⟨rfl, -,P, -⟩:=O;obtain⟨w,Q,ft,iN,S⟩:=UE _ P;cases Q;rcases S with ti|ti|ti
   ·rw[ti] at d⊢;rw[bc rfl] at d⊢;have ay:=d rfl;exact bR.inl ay (av () K L f s2 v ay ⟨ti,j⟩)
   ·rw[ti,aO (by decide),bc rfl,g f (.inr (by rw[ti];decide))];unfold Dx;rw[j.eta.2.2.2.2.1,ti,decide_eq_true (show(gf:H)=[101,108,115,101] from rfl)];simp only[bA,aL];have T:=(Dq bk bf (c:= .kE) (x:=yb) rfl (by simp) (Gk abq Dw) (by decide) v j).mono s2;refine bR.iZ (C:=cR _ r) c_.k T (λa3 cB b9 D Nu V W X Y=>?_) (λop nd ds D _ n2=>?_) (λD jL=>?_)
    ·exact⟨_,rfl,V,W,X,trivial⟩
    ·grind
    grind
   ·rw[ti,aO (by decide),aO (by decide),g f (.inr (by rw[ti];decide))];unfold Dx;rw[ti,eE (show¬(eh:H)=[101,108,115,101] by decide)]
    have:∀b:Bool,(bif b then false else false)=false:=by decide
    rw[this];exact⟨_,rfl,s2,v,j,trivial⟩
  ·rw[g f (.inl (by rw[A.z.1];decide)),N6 (by rw[A.z.1];decide)];grind
  ·rw[g f (.inl (by rw[B.1];decide)),N6 (by rw[B.1];decide)];grind
 ·rw[p.z.1];simp only[show¬((1:Int)=0) by decide,bG,aW];rw[g _ (.inl (by show b.2.2.2.2.2.1≠0;rw[p.z.1];decide)),N6 (by show b.2.2.2.2.2.1≠0;rw[p.z.1];decide)];grind
 ·rw[q.1];simp only[show¬((2:Int)=0) by decide,bG,aW];rw[g _ (.inl (by show b.2.2.2.2.2.1≠0;rw[q.1];decide)),N6 (by show b.2.2.2.2.2.1≠0;rw[q.1];decide)];grind
end
theorem Dy{α:Type}(m:Option α):aw m (λy=>some y)=m:=by cases m<;>rfl
def zN(l:ea)(w:H):ae Unit:=if w=[123] then N ((l.ls .p9 false).aM [10,125]) λ_=>cS [125]
 else if w=jT then rC l
 else if w=mz then qb l l.dl
 else if w=oB then rD l l.dl
 else N ((l.ls .p_ false).aM eB) λ_=>ji l eB
section
variable{R:bj}{n:Nat}(bk:o5 R n)(hD:k_ R n){e:cm}(bf:e.ne=30- (n:Int))
noncomputable def UI(R:bj)(I:Z):Option Z:=
 (aw (qJ R I ([([100,111]:H)]:bx) ([10,100,111,32,120,10,100,111,110,101]:H)) λz=>(bif(decide (z.2.2.2.2.2.1=0)) then(aw (qJ R z.2 ([([100,111,110,101]:H)]:bx) ([10,100,111,110,101]:H)) λv=>some v.2) else some z.2))
theorem ao5(R:bj)(I:Z)(w:H):CL R I w=(bif(decide (w=([123]:H))) then(aw (qJ R I ([([125]:H)]:bx) ([10,125]:H)) λz=>some z.2) else
 (bif(bif(decide (w=([119,104,105,108,101]:H))) then(decide (w=([119,104,105,108,101]:H))) else(decide (w=([117,110,116,105,108]:H)))) then UI R I else
 (bif(decide (w=([105,102]:H))) then fixF (IB R (Dx R)) bD (iv,I) else
 (bif(decide (w=([102,111,114]:H))) then(aw (IA R I) λy=>some y) else
 (bif(decide (w=([99,97,115,101]:H))) then(aw (Iv R I) λy=>some y) else some I))))):=by
 unfold CL a7;cases decide (w=([123]:H)) with
 |true=>rfl
 |false=>cases decide (w=([119,104,105,108,101]:H))<;>rfl
include bk bf
theorem abI{r:H}{F:ah}{st:Z}(h:cI e r F)(i:gA e r F st):bR false e r (N (((aU true n).ls .p_ false).aM eB) (λ_=>ji (aU true n) eB) r F) (λst=>st) (λ_ _ _=>True) (UI R st):=by
 have j:N (((aU true n).ls .p_ false).aM eB) (λ_=>ji (aU true n) eB) r F=N (N (((aU true n).ls .p_ false).aM eB) (λ_=>tj)) (λ_=>N (((aU true n).ls .done false).aM (10::jh)) λ_=>cS jh) r F:=by unfold ji;exact aoX (by simp) abr wU (h.nl.iE h.sfx)
 rw[j];unfold UI;refine bR.iZ (C:=λx=>x) c_.id (Dq bk bf (c:= .p_) rfl (by simp) (Gk abr wU) (by decide) h i) (λa ad p b q s1 d f s=>?_) (λop nd ds b _ k=>?_) (λb l=>?_)
 ·rw[f.eta.2.2.2.2.1];simp only[bA,aL];rw[Ul (by simp) NS Gl (d.nl.iE d.sfx)];refine bR.iZ (C:=λx=>x) c_.id ((Dq bk bf (c:= .done) rfl (by simp) (Gk NS Gl) (by decide) d f).mono s1) (λa t u g v s2 m o w=>?_) (λop nd ds g _ y=>?_) (λg z=>?_)
  ·exact⟨_,rfl,s2,m,o,trivial⟩
  ·grind
  grind
 ·rw[k.z.1];grind
 ·rw[l.1];grind
include hD
theorem ao6{r:H}{F:ah}{st:Z}(h:cI e r F)(b:gA e r F st){w:H}(j:oC w=true):bR false e r (zN (aU true n) w r F) (λst=>st) (λ_ _ _=>True) (CL R st w):=by
 rw[ao5];unfold zN;have f:w=jT\/w=tY\/w=Fo\/w=mz\/w=oB\/w=[123]:=by grind[oC]
 rcases f with rfl|rfl|rfl|rfl|rfl|rfl
 ·rw[aO (by decide),bc rfl];exact ao3 bk bf h b
 ·rw[aO (by decide),aO (by decide),aO (by decide),aO (by decide)];exact abI bk bf h b
 ·rw[aO (by decide),aO (by decide),aO (by decide),aO (by decide)];exact abI bk bf h b
 ·rw[aO (by decide),aO (by decide),bc rfl,xR];refine bR.ei (aoD bk hD bf h b h.sfx) ?_;exact Dy _
 ·rw[aO (by decide),aO (by decide),aO (by decide),bc rfl,xR];refine bR.ei (aoW bk hD bf h b) ?_;exact Dy _
 ·rw[bc rfl,Ul (by simp) abp N3 (h.nl.iE h.sfx)];refine bR.iZ (C:=λx=>x) c_.id (Dq bk bf (c:= .p9) rfl (by simp) (Gk abp N3) (by decide) h b) (λa k l d m s2 g i o=>?_) (λop nd ds d _ p=>?_) (λd q=>?_)
  ·exact⟨_,rfl,s2,g,i,trivial⟩
  ·grind
  grind
end
def setAt(y:Z)(a:Int):Z:=(y.1,a,y.2.2.1,y.2.2.2.1,y.2.2.2.2.1,y.2.2.2.2.2.1,y.2.2.2.2.2.2.1,y.2.2.2.2.2.2.2.1,y.2.2.2.2.2.2.2.2)
noncomputable def Bo(R:bj)(nm:H):Z->Option Z:=λx=>
 (aw (gZ x nm ([])) λ(a:Z)=>(bif(decide (a.2.2.2.2.1=0)) then(aw (Fe R (th a)) λ(b:Z)=>some b) else some (th a)))
noncomputable def abJ(R:bj):Z->Option Z:=λx=>
 (aw (ir x) λ(c:H)=>(bif(decide (c=([40]:H))) then(aw (R.ot (setAt x (W (x.2.1+1))) ([41]:H) ([]:bx) true) λz=>(aw (gZ z.2 ([]) ([41]:H)) λ(b:Z)=>Bo R [40] (setAt b (W (b.2.1+1))))) else(aw (mx x) λ(a:H)=>(aw (CL R (setAt x (W (x.2.1+(a.length:Int)))) a) λ(d:Z)=>Bo R a d))))
theorem ao7(R:bj)(I:Z):AT R I=(aw (AQ I I.2.1) λz=>
 (bif(!z.1) then
 some (z.2.1,z.2.2.1,z.2.2.2.1,I.2.2.2.1,z.2.2.2.2.2.1,z.2.2.2.2.2.2.1,z.2.2.2.2.2.2.2.1,I.2.2.2.2.2.2.2.1,z.2.2.2.2.2.2.2.2.2)
 else abJ R (z.2.1,z.2.2.1,z.2.2.2.1,I.2.2.2.1,z.2.2.2.2.2.1,z.2.2.2.2.2.2.1,z.2.2.2.2.2.2.2.1,I.2.2.2.2.2.2.2.1,z.2.2.2.2.2.2.2.2.2))):=rfl
theorem abK{st:Z}{nm:H}(h:st.2.2.2.2.1=1)(au:nm≠[])(i:st.2.2.2.2.2.2.2.1.length<=2000000)(j:st.2.2.2.2.2.2.1.length+eC st.2.2.2.1<=1000000000):gZ st nm []=some (st.1,st.2.1,st.2.2.1,st.2.2.2.1,st.2.2.2.2.1,st.2.2.2.2.2.1,st.2.2.2.2.2.2.1,[nm]++st.2.2.2.2.2.2.2.1,st.2.2.2.2.2.2.2.2):=by
 obtain⟨a,b,c,d,T0,f,g,op,ai⟩:=st;simp only at h i j⊢;subst h;have l:=uo d
 have k:∀e,xA (a,b,c,d,1,f,g,e,ai) []=some (a,b,c,(cW g d []).2,1,f,(cW g d []).1,e,ai):=λe=>Dk _ _ _ _ _ _ _ _ _ _ (by simp) (by omega) (by omega)
 unfold gZ a7;simp only[bA,aL];simp only[au,bG,fo,aL];rw[b1 (by grind),k,aR rfl];rfl
theorem abL{R:bj}{e:cm}{q r:H}{nd:H}{ds:ah}{y:Z}{nm:H}(hm:oK e.up q nd ds y)(h:q<:+r)(ay:q.length<r.length)(f:r<:+e.S)(i:e.S.length<=1000000)(j:nd.length+eC ds<=100*e.S.length+1000)(au:nm≠[])(a:Int)(k:y.2.1<=a/\a<=y.2.1+1):∃c,Bo R nm (setAt y a)=some c/\jb true e r nd ds c:=by
 obtain⟨M,U,g,b,l⟩:=hm;have d:=f.length_le;have m:=b.op;unfold Bo;rw[abK (st:=setAt y a) M au (by show y.2.2.2.2.2.2.2.1.length<=_;omega) (by show y.2.2.2.2.2.2.1.length+eC y.2.2.2.1<=_;grind),aR rfl];show∃c,(bif decide (y.2.2.2.2.1=0) then _ else _)=some c/\_
 rw[M];simp only[show¬((1:Int)=0) by decide,decide_false,cond_false];refine⟨_,rfl,.inl ⟨M,U,g,⟨b.s,?_,?_,b.nd,?_⟩,?_⟩⟩
 ·show ax e.S r<=a;have:ax e.S r<=ax e.S q:=by grind[ax]
  have:=b.lo;have hu:ax e.up.S q=ax e.S q:=rfl;omega
 ·show a<=_;have:=b.bh;have hu:e.up.S=e.S:=rfl;grind
 ·show([nm]++y.2.2.2.2.2.2.2.1).length<=_;grind
 ·show _<=a;have hu:e.up.S=e.S:=rfl;grind
theorem N7{R:bj}{e:cm}{q r:H}{y:Z}{nm:H}(hm:jk e.up q y)(d:q<:+r)(ay:q.length<r.length)(a:Int)(f:y.2.1<=a/\a<=y.2.1+1):∃c,Bo R nm (setAt y a)=some c/\jk e r c:=by
 obtain⟨M,b⟩:=hm;have g:=b.op;unfold Bo;rw[qg (st:=setAt y a) (by show y.2.2.2.2.1≠1;omega),aR rfl];show∃c,(bif decide (y.2.2.2.2.1=0) then _ else _)=some c/\_
 rw[M];simp only[show¬((2:Int)=0) by decide,bG,aW];refine⟨_,rfl,M,⟨b.s,?_,?_,b.nd,?_⟩⟩
 ·show ax e.S r<=a;have:ax e.S r<=ax e.S q:=by grind[ax]
  have:=b.lo;have hu:ax e.up.S q=ax e.S q:=rfl;omega
 ·show a<=_;have:=b.bh;have hu:e.up.S=e.S:=rfl;grind
 ·show y.2.2.2.2.2.2.2.1.length<=_;omega
theorem abM{R:bj}{e:cm}{q:H}{F:ah}{ai:Bool}{nm:H}{n:Nat}(bf:e.ne=30- (n:Int))(au:n<=30):Bo R nm (e.up.st q F ai)=Fe R (e.st q F ai):=by
 unfold Bo;rw[qg (by show(0:Int)≠1;decide),aR rfl];have h0:(e.up.st q F ai).2.2.2.2.1=0:=rfl;rw[h0];simp only[bA,aL];have:th (e.up.st q F ai)=e.st q F ai:=by
  show(e.S,ax e.S q,W (e.ne+1-1),F,(0:Int),(0:Int),([]:H),([]:bx),ai)=_;have M:e.ne+1-1=e.ne:=by omega
  rw[M,dJ (by omega) (by omega)];rfl
 grind[Dy]
section
variable{R:bj}{n:Nat}(g9:∀m,n=m+1->k_ R m/\o5 R m)(hD:k_ R n)(au:n<=30){e:cm}(bf:e.ne=30- (n:Int))
include g9 hD au bf
theorem abN{r:H}{F:ah}{st:Z}(h:cI e r F)(aN:gA e r F st)(Y:bo r=some r)(az:gg (aq r)=true):bR true e r (N ((aU true n).cp (aq r)) (λ_=>g7 (a9 true n)) r F) (λst=>st) (λ_ _ _=>True) (AT R st):=by
 obtain⟨ai,rfl,hG⟩:=aN;rw[ao7];unfold AQ;have dI:=h.nl.iE h.sfx;cases n with
 |zero=>
  have D:decide (30<=(e.st r F ai).2.2.1)=true:=by show decide (30<=e.ne)=true;grind
  rw[D];have aE:(aU true 0).cp (aq r) r F= .deep r:=rfl;rw[ki aE];obtain⟨st,j,c⟩:=qi (ai:=ai) ((e.st r F ai).2.1) h fq;simp only[aL,tg];rw[j,aR rfl,aR rfl];exact⟨_,rfl,by cases j;exact c⟩
 |succ m=>
  obtain⟨NK,S⟩:=g9 m rfl;have D:decide (30<=(e.st r F ai).2.2.1)=false:=by show decide (30<=e.ne)=false;grind
  rw[D];simp only[aW,oL,hI];have x4:W ((e.st r F ai).2.2.1+1)=e.ne+1:=dJ (by show-_<=e.ne+1;omega) (by grind);rw[x4];have JA:((e.st r F ai).1,(e.st r F ai).2.1,e.ne+1,(e.st r F ai).2.2.2.1,(e.st r F ai).2.2.2.2.1,(e.st r F ai).2.2.2.2.2.1,(e.st r F ai).2.2.2.2.2.2.1,(e.st r F ai).2.2.2.2.2.2.2.1,(e.st r F ai).2.2.2.2.2.2.2.2)=e.up.st r F ai:=rfl;rw[JA];unfold abJ;rw[ss h.x3,aR rfl];have T:e.up.ne=30- (m:Int):=by show e.ne+1=_;omega
  have F2:(aU true (m+1)).cp (aq r)=(gK (aU true m) (aq r)).named (lX (aq r)):=rfl;rw[F2];by_cases B:bs r=[40]
  ·have U:aq r= .op [40]:=(mB (by simp)).2 B;simp only[B,bA,aL];rw[U];obtain⟨q,rfl⟩:=(h4 U).2.1;have f:q<:+[40]++q:=fO _ q;have ay:q.length<([40]++q).length:=by simp
   have E:=h.uu (by simp) (by decide);have k:=(h.mono f).x3;have G:setAt (e.up.st ([40]++q) F ai) (W ((e.up.st ([40]++q) F ai).2.1+1))=e.up.st q F ai:=tl h.x3 1 rfl;rw[G];obtain⟨b,j,c⟩:=S.im e.up .paren false rfl T q F (e.up.st q F ai) k ⟨ai,rfl,λi=>absurd i E⟩;have wT:R.ot (e.up.st q F ai) [41] [] true=some b:=j;rw[wT,aR rfl];have p:=aJ.low ((um true m).ls .paren false) k;have I:∀x,((gK (aU true m) (.op [40])).named x) ([40]++q) F=((N (((aU true m).ls .paren false).aM [41]) (λ_=>j1 [41])).named x) q F:=λx=>rfl
   have J:∀(x:H),(N ((gK (aU true m) (.op [40])).named x) (λ_=>g7 (a9 true (m+1)))) ([40]++q) F=N ((N (((aU true m).ls .paren false).aM [41]) (λ_=>j1 [41])).named x) (λ_=>g7 (a9 true (m+1))) q F:=λx=>rfl
   rw[J];have s:e.up.S=e.S:=rfl;cases av:(aU true m).ls .paren false q F with
   |ok a ad l=>
    rw[av] at c;obtain⟨K,ak,⟨o,a3,V⟩,fj⟩:=c;dsimp only at a3;have ni:=av;obtain⟨ao,eK⟩:=A9 true m;rw[eK] at av;obtain⟨hL,jY⟩:=zv (by simp) av;have L:aq ad= .op [41]:=by grind[d_]
    obtain⟨v,rfl⟩:=(h4 L).2.1;have d:(N (((aU true m).ls .paren false).aM [41]) (λ_=>j1 [41])).named (lX (.op [40])) q F= .ok () v l:=by grind[ae.named,aS,qj,A3]
    rw[aS d];have n6:gZ b.2 [] [41]=some b.2:=qg (by rw[a3];show(0:Int)≠1;decide);rw[n6,aR rfl,a3];have X:v<:+[41]++v:=fO [41] v;have M:setAt (e.up.st ([41]++v) l o) (W ((e.up.st ([41]++v) l o).2.1+1))=e.up.st v l o:=tl ak 1 rfl;rw[M,abM bf au];have tf:=ak.uu (by simp) (by decide);exact(abn hD bf (ak.uq.mono X) ⟨o,rfl,λi=>absurd i tf⟩).mono (X.trans (K.trans f))
   |more op nd ds=>
    rw[av] at c;have hb:=p _ _ _ av;rw[s] at hb;have d:(N (((aU true m).ls .paren false).aM [41]) (λ_=>j1 [41])).named (lX (.op [40])) q F= .more ([40]::op) (cW nd ds [41]).1 (cW nd ds [41]).2:=by unfold ae.named;rw[dt (tk av)];rfl
    rw[dt d];obtain⟨aK,af,O⟩:=xZ (e:=e.up) (nm:=[]) (x:=[41]) (ad:=q) (r0:=q) c.z fq k.sfx (.inl rfl) (by grind) k.b7 (by simp);rw[af,aR rfl];have abE:=Bc [41] nd ds;have t:=O.2.2.2.1.bh;have ku:=O.2.2.2.1.lo;have y:=f.length_le;have hle:=h.sfx.length_le;have lr:0<=ax e.up.S q:=by grind[ax]
    have nQ:=h.b7;rw[s] at t;have z:W (aK.2.1+1)=aK.2.1+1:=dJ (by omega) (by omega);rw[z];exact abL O f ay h.sfx h.b7 (by grind) (by simp) _ ⟨by omega,by omega⟩
   |bad u=>
    rw[av] at c;have d:(N (((aU true m).ls .paren false).aM [41]) (λ_=>j1 [41])).named (lX (.op [40])) q F= .bad u:=by grind[ae.named,hq,vw]
    rw[hq d,su c,aR rfl];have g:jk e.up q b.2:=c;have t:=g.2.bh;have ku:=g.2.lo;have hle:=h.sfx.length_le;have y:=f.length_le;have lr:0<=ax e.up.S q:=by grind[ax]
    have nQ:=h.b7;rw[s] at t;have z:W (b.2.2.1+1)=b.2.2.1+1:=dJ (by omega) (by omega);rw[z];exact N7 g f ay _ ⟨by omega,by omega⟩
   |deep u=>
    rw[av] at c;have d:(N (((aU true m).ls .paren false).aM [41]) (λ_=>j1 [41])).named (lX (.op [40])) q F= .deep u:=by grind[ae.named,ki,vx]
    rw[ki d,su c,aR rfl];have g:jk e.up q b.2:=c;have t:=g.2.bh;have ku:=g.2.lo;have hle:=h.sfx.length_le;have y:=f.length_le;have lr:0<=ax e.up.S q:=by grind[ax]
    have nQ:=h.b7;rw[s] at t;have z:W (b.2.2.1+1)=b.2.2.1+1:=dJ (by omega) (by omega);rw[z];exact N7 g f ay _ ⟨by omega,by omega⟩
  ·have aus:aq r≠ .op [40]:=λi=>B ((mB (by simp)).1 i);simp only[B,bG,aW];rw[wR h.x3,aR rfl]
   obtain⟨w,A,P⟩:∃w,aq r= .word w true/\oC w=true:=by unfold gg at az;grind
   have C:w≠[]/\w.all gN=true:=by
    have hs:w=jT\/w=tY\/w=Fo\/w=mz\/w=oB\/w=[123]:=by grind[oC]
    rcases hs with rfl|rfl|rfl|rfl|rfl|rfl<;>decide
   have aE:=(sq dI C.1 C.2).2 A;rw[aE,A];have iI:=(qQ A).1;have ln:=(qQ A).2;obtain⟨q,rfl⟩:=iI;have f:q<:+w++q:=fO _ q;have ay:q.length<(w++q).length:=by grind[List.length_pos_iff]
   have E:=h.uu C.1 ln;have k:=(h.mono f).x3;have G:setAt (e.up.st (w++q) F ai) (W ((e.up.st (w++q) F ai).2.1+(w.length:Int)))=e.up.st q F ai:=tl h.x3 w.length rfl;rw[G];obtain⟨b,j,c⟩:=ao6 S NK T k (st:=e.up.st q F ai) ⟨ai,rfl,λi=>absurd i E⟩ P;rw[j,aR rfl];have I:(gK (aU true m) (.word w true)) (w++q) F=zN (aU true m) w q F:=by show N (b6 w.length) (λ_=>zN (aU true m) w) (w++q) F=_;rw[aS (show b6 w.length (w++q) F= .ok () q F from by simp[b6])]
   have p:=ep.kind (um true m) (r:=w++q) (F:=F) (by omega);rw[A,I] at p;have s:e.up.S=e.S:=rfl;have wI:=h.kf;have Q:setAt b b.2.1=b:=rfl;cases av:zN (aU true m) w q F with
   |ok a ad l=>
    rw[av] at c;obtain⟨K,ak,⟨o,a3,V⟩,fj⟩:=c;have d:((gK (aU true m) (.word w true)).named (lX (.word w true))) (w++q) F= .ok () ad l:=by grind[ae.named]
    rw[aS d];dsimp only at a3;rw[a3,abM bf au];exact(abn hD bf ak.uq ⟨o,rfl,V⟩).mono (K.trans f)
   |more op nd ds=>
    rw[av] at c p;simp only[ep] at p;have d:((gK (aU true m) (.word w true)).named (lX (.word w true))) (w++q) F= .more (w::op) nd ds:=by unfold ae.named;rw[I,av];rfl
    rw[dt d];have g:jb false e.up q nd ds b:=c;have:=abL (R:=R) (nm:=w) g.z f ay h.sfx h.b7 (by omega) C.1 b.2.1 ⟨by omega,by omega⟩;rw[Q] at this;exact this
   |bad u=>
    rw[av] at c;have d:((gK (aU true m) (.word w true)).named (lX (.word w true))) (w++q) F= .bad u:=by grind[ae.named]
    rw[hq d];have g:jk e.up q b:=c;have:=N7 (R:=R) (nm:=w) g f ay b.2.1 ⟨by omega,by omega⟩;rw[Q] at this;exact this
   |deep u=>
    rw[av] at c;have d:((gK (aU true m) (.word w true)).named (lX (.word w true))) (w++q) F= .deep u:=by grind[ae.named]
    rw[ki d];have g:jk e.up q b:=c;have:=N7 (R:=R) (nm:=w) g f ay b.2.1 ⟨by omega,by omega⟩;rw[Q] at this;exact this
end
noncomputable def rU:Z->Option Z:=λx=>
 (aw (gZ x ([102,40,41]:H) ([])) λ(a:Z)=>some (th a))
theorem apb{e:cm}{q r:H}{nd:H}{ds:ah}{y:Z}(hm:oK e.up q nd ds y)(j:q<:+r)(ay:q.length<r.length)(f:r<:+e.S)(k:e.S.length<=1000000)(l:nd.length+eC ds<=100*e.S.length+1000):∃b,rU y=some b/\jb true e r nd ds b:=by
 obtain⟨M,U,g,a,c⟩:=hm;have d:=f.length_le;have m:=a.op;have hu:e.up.S=e.S:=rfl;have h:ax e.up.S q=ax e.S q:=rfl;unfold rU;rw[abK (st:=y) M (by simp) (by omega) (by grind),aR rfl];have n:ax e.S r<=ax e.S q:=by grind[ax]
 have ku:=a.lo;have i:=a.bh;rw[hu] at i c;refine⟨_,rfl,.inl ⟨M,U,g,⟨a.s,?_,?_,a.nd,?_⟩,c⟩⟩
 ·show ax e.S r<=y.2.1;omega
 ·show y.2.1<=_;omega
 ·show([[102,40,41]]++y.2.2.2.2.2.2.2.1).length<=_;grind
theorem abP{e:cm}{q r:H}{y:Z}(hm:jk e.up q y)(b:q<:+r):∃a,rU y=some a/\jk e r a:=by unfold rU;rw[su hm,aR rfl];exact⟨_,rfl,(jk.mono (e:=e) ⟨hm.1,hm.2.uq.th⟩ b)⟩
theorem apc{e:cm}{q:H}{F:ah}{ai:Bool}{n:Nat}(bf:e.ne=30- (n:Int))(au:n<=30):th (e.up.st q F ai)=e.st q F ai:=by
 show(e.S,ax e.S q,W (e.ne+1-1),F,(0:Int),(0:Int),([]:H),([]:bx),ai)=_;have M:e.ne+1-1=e.ne:=by omega
 rw[M,dJ (by omega) (by omega)];rfl
theorem abQ{e:cm}{q:H}{F:ah}{ai:Bool}{n:Nat}(bf:e.ne=30- (n:Int))(au:n<=30):rU (e.up.st q F ai)=some (e.st q F ai):=by unfold rU;rw[qg (by show(0:Int)≠1;decide),aR rfl,apc bf au]
theorem apd{e:cm}{F:ah}{n:Nat}(bf:e.ne=30- (n:Int))(au:n<=30):rU (e.up.tt F)=some (e.tt F):=by grind[xX,abQ]
noncomputable def UK(R:bj):Z->Option Z:=λa=>
 (aw (gY a) λ(d:Bool)=>(bif d then(aw (hS a ([123,32,120,10,125]:H)) λ(e:Z)=>rU e) else(aw (ir a) λ(c:H)=>(cZ ((decide (c=([40]:H)))=false) (mx a) [] λ(f:H)=>(cZ ((decide (c=([40]:H)))=false) (AK f) false λ(g:Bool)=>(bif(bif(decide (c=([40]:H))) then true else g) then(aw (AT R a) λ(h:Z)=>rU h) else(aw (h9 a a.2.1) λ(b:Z)=>rU (b.1,b.2.1,b.2.2.1,a.2.2.2.1,b.2.2.2.2.1,b.2.2.2.2.2.1,b.2.2.2.2.2.2.1,a.2.2.2.2.2.2.2.1,b.2.2.2.2.2.2.2.2))))))))
noncomputable def UL(R:bj):Z->Option Z:=λx=>
 (aw (gY x) λ(c:Bool)=>(bif c then(aw (hS x ([41,32,123,32,120,10,125]:H)) λ(d:Z)=>rU d) else(aw (ir x) λ(e:H)=>(bif(!(decide (e=([41]:H)))) then(aw (h9 x x.2.1) λ(a:Z)=>rU (a.1,a.2.1,a.2.2.1,x.2.2.2.1,a.2.2.2.2.1,a.2.2.2.2.2.1,a.2.2.2.2.2.2.1,x.2.2.2.2.2.2.2.1,a.2.2.2.2.2.2.2.2)) else(aw (pt (setAt x (W (x.2.1+1)))) λ(b:Z)=>(bif(!(decide (b.2.2.2.2.1=0))) then(aw (gZ b ([]) ([123,32,120,10,125]:H)) λ(f:Z)=>rU f) else UK R b))))))
theorem ape(R:bj)(I:Z):IC R I=(bif(decide (28<I.2.2.1)) then
 (aw (h9 I I.2.1) λ(a:Z)=>
 some (a.1,a.2.1,a.2.2.1,I.2.2.2.1,a.2.2.2.2.1,a.2.2.2.2.2.1,a.2.2.2.2.2.2.1,I.2.2.2.2.2.2.2.1,a.2.2.2.2.2.2.2.2))
 else
 (aw (hR (I.1,(W (I.2.1+1)),(W (I.2.2.1+1)),I.2.2.2.1,I.2.2.2.2.1,I.2.2.2.2.2.1,I.2.2.2.2.2.2.1,I.2.2.2.2.2.2.2.1,I.2.2.2.2.2.2.2.2)) λ(b:Z)=>
 UL R (b.1,b.2.1,b.2.2.1,I.2.2.2.1,b.2.2.2.2.1,b.2.2.2.2.2.1,b.2.2.2.2.2.2.1,I.2.2.2.2.2.2.2.1,b.2.2.2.2.2.2.2.2))):=rfl
noncomputable def Gr(R:bj):Z->Option Z:=λa=>
 (aw (gY a) λ(d:Bool)=>(bif d then hS a ([123,32,120,10,125]:H) else(aw (ir a) λ(c:H)=>(cZ ((decide (c=([40]:H)))=false) (mx a) [] λ(e:H)=>(cZ ((decide (c=([40]:H)))=false) (AK e) false λ(f:Bool)=>(bif(bif(decide (c=([40]:H))) then true else f) then AT R a else(aw (h9 a a.2.1) λ(b:Z)=>some (b.1,b.2.1,b.2.2.1,a.2.2.2.1,b.2.2.2.2.1,b.2.2.2.2.2.1,b.2.2.2.2.2.2.1,a.2.2.2.2.2.2.2.1,b.2.2.2.2.2.2.2.2))))))))
noncomputable def N9(R:bj):Z->Option Z:=λx=>
 (aw (gY x) λ(c:Bool)=>(bif c then hS x ([41,32,123,32,120,10,125]:H) else(aw (ir x) λ(d:H)=>(bif(!(decide (d=([41]:H)))) then(aw (h9 x x.2.1) λ(a:Z)=>some (a.1,a.2.1,a.2.2.1,x.2.2.2.1,a.2.2.2.2.1,a.2.2.2.2.2.1,a.2.2.2.2.2.2.1,x.2.2.2.2.2.2.2.1,a.2.2.2.2.2.2.2.2)) else(aw (pt (setAt x (W (x.2.1+1)))) λ(b:Z)=>(bif(!(decide (b.2.2.2.2.1=0))) then gZ b ([]) ([123,32,120,10,125]:H) else Gr R b))))))
theorem abR{α β:Type}(c:Bool)(a b:Option α)(k:α->Option β):aw (bif c then a else b) k=bif c then aw a k else aw b k:=by grind
theorem apf(R:bj)(x:Z):UK R x=aw (Gr R x) rU:=by unfold UK Gr;simp[tg,abR,aa_,oL]
theorem apg(R:bj)(x:Z):UL R x=aw (N9 R x) rU:=by unfold UL N9;simp[tg,abR,oL,apf]
theorem aph{q:Bool}{e:cm}{ad r:H}{X:dp Unit}{y:Option Z}{n:Nat}(bf:e.ne=30- (n:Int))(au:n<=30)(h:bR q e.up ad X (λst=>st) (λ_ _ _=>True) y)(M:ad<:+r)(ay:ad.length<r.length)(f:r<:+e.S)(g:e.S.length<=1000000):bR true e r X (λst=>st) (λ_ _ _=>True) (aw y rU):=by
 obtain⟨b,rfl,h⟩:=h;rw[aR rfl];cases X with
 |ok a r' k=>obtain⟨i,ak,⟨ai,a3,j⟩,_⟩:=h;dsimp only at a3;subst a3;rw[abQ bf au];exact⟨_,rfl,i.trans M,ak.uq,⟨ai,rfl,j⟩,trivial⟩
 |more op nd ds=>
  rcases h with h|⟨_,U,d⟩
  ·have c:oK e.up ad nd ds b:=h;exact apb c M ay f g (by have:=c.2.2.2.1.nd;rw[c.2.1,c.2.2.1] at this;exact this)
  ·dsimp only at d;subst U d;rw[apd bf au];exact⟨_,rfl,.inr ⟨rfl,rfl,rfl⟩⟩
 |bad u=>exact abP h M
 |deep u=>exact abP h M
theorem bR.named{q:Bool}{α β:Type}{e:cm}{r0 r:H}{F:ah}{m:ae α}{x:H}{pr:β->Z}{cv:α->H->β->Prop}{y:Option β}(h:bR q e r0 (m r F) pr cv y):bR q e r0 (m.named x r F) pr cv y:=by unfold ae.named;cases hm:m r F<;>rw[hm] at h<;>exact h
def Gs:H:=[41,32,123,32,120,10,125]
def zO:H:=[123,32,120,10,125]
def UM(l:ea):ae Unit:=N (bV zO) λt=>if t= .eof then cf zO else if gg t then N (l.cp t) λ_=>l.rd else bP
def UN(l:ea):ae Unit:=N (bV Gs) λt=>if t= .eof then cf Gs else if t= .op [41] then N (b6 1) λ_=>N (c2.aM zO) λ_=>UM l else bP
section
variable{R:bj}{n:Nat}(g9:∀m,n=m+1->k_ R m/\o5 R m)(hD:k_ R n)(au:n<=30){e:cm}(bf:e.ne=30- (n:Int))
include g9 hD au bf
theorem api{r:H}{F:ah}{st:Z}(h:cI e r F)(f:gA e r F st)(Y:bo r=some r):bR true e r (UM (aU true n) r F) (λst=>st) (λ_ _ _=>True) (Gr R st):=by
 unfold UM;rw[aS (cu Y)];have j:= @abN R n g9 hD au e bf r F st h f Y;obtain⟨ai,rfl,p⟩:=f;unfold Gr;rw[qZ,aR rfl];by_cases b:r=[]
 ·subst b;simp only[bA,aL];obtain⟨g,a,c⟩:=vv (ai:=ai) (x:=zO) h (by decide);rw[show([123,32,120,10,125]:H)=zO from rfl,a];exact⟨g,rfl,c.s⟩
 ·simp only[b,bG,aW];have k:aq r≠ .eof:=λl=>b (mA.1 l);rw[aO k,ss h,aR rfl,wR h];have m:=h.nl.iE h.sfx;have q:=aaZ m;by_cases i:bs r=[40]
  ·simp only[i,bA,cZ,uE,cA,aL];have az:gg (aq r)=true:=by grind
   rw[bc az];have o:(aU true n).rd=g7 (a9 true n):=by cases n<;>rfl
   grind
  ·simp only[i,bG];rw[gy,aaQ,gy];simp only[cK,aW];have d:oC (jw r)=gg (aq r):=by grind
   rw[d];by_cases az:gg (aq r)=true
   ·rw[az,bc rfl];have o:(aU true n).rd=g7 (a9 true n):=by cases n<;>rfl
    grind
   ·rw[aO az,GR.2 az];simp only[aW];obtain⟨g,a,c⟩:=qi (ai:=ai) (e.st r F ai).2.1 h fq;rw[a,aR rfl];exact⟨_,rfl,by cases a;exact c⟩
theorem apk{u:H}{F:ah}{x:Z}(h:cI e u F)(z:Ds e u F x):bR true e u (UN (aU true n) u F) (λst=>st) (λ_ _ _=>True) (N9 R x):=by
 unfold UN N9;rcases z with⟨r,ai,p,rfl,M,i,s,N⟩|⟨p,rfl⟩
 ·rw[aS (cu p),qZ,aR rfl];by_cases t:r=[]
  ·subst t;simp only[bA,aL];obtain⟨d,f,g⟩:=vv (ai:=ai) (x:=Gs) i (by decide);rw[show([41,32,123,32,120,10,125]:H)=Gs from rfl,f];exact⟨d,rfl,(g.mono s).s⟩
  ·simp only[t,bG,aW];have A:aq r≠ .eof:=λj=>t (mA.1 j);rw[aO A,ss i,aR rfl];by_cases l:bs r=[41]
   ·have m:aq r= .op [41]:=(mB (by simp)).2 l;simp only[l,bA,hI,aW];rw[bc m];obtain⟨v,rfl⟩:=(h4 m).2.1;have y:v<:+[41]++v:=fO [41] v;have B:=i.uu (by simp) (by decide);have C:setAt (e.st ([41]++v) F ai) (W ((e.st ([41]++v) F ai).2.1+1))=e.st v F ai:=tl i 1 rfl;rw[C,aS (show b6 1 ([41]++v) F= .ok () v F from rfl)];have o:=i.mono y;obtain⟨O,D,b⟩:=F7 o (st:=e.st v F ai) ⟨ai,rfl,λj=>absurd j B⟩;rw[D,aR rfl];have E:=aJ.low (aJ.lines (c:=0)) o;have k:v<:+u:=y.trans s;cases hm:c2 v F with
    |ok a ad P=>rw[hm] at b;obtain⟨G,ak,a3,I,Q⟩:=b;rw[aS (qj hm),a3.eta.2.2.2.2.1];simp only[bA,hI,aW];exact(api g9 hD au bf ak a3 I).mono (G.trans k)
    |more op nd ds=>
     rw[hm] at b;rw[dt (tk hm)];have S:=E _ _ _ hm;rcases b with b|⟨_,rfl,rfl⟩
     ·rw[b.1];simp only[show¬((1:Int)=0) by decide,bG,fo,aL];obtain⟨d,J,K⟩:=Gm (q:=true) (x:=zO) o (.inl b) k (by omega) (by decide);rw[show([123,32,120,10,125]:H)=zO from rfl,J];exact⟨d,rfl,K⟩
     ·have L:(e.tt ds).2.2.2.2.1=0:=rfl;rw[L];simp only[bA,hI,aW];unfold Gr;rw[pB,aR rfl];simp only[aL];obtain⟨d,f,g⟩:=Gq (F:=ds) (x:=zO) o (by omega) (by decide);rw[show([123,32,120,10,125]:H)=zO from rfl,f];exact⟨d,rfl,(g.mono k).s⟩
    |bad w=>rw[hm] at b;rw[hq (vw hm),b.1];simp only[show¬((2:Int)=0) by decide,bG,fo,aL];rw[su b];exact⟨_,rfl,b.mono k⟩
    |deep w=>rw[hm] at b;rw[ki (vx hm),b.1];simp only[show¬((2:Int)=0) by decide,bG,fo,aL];rw[su b];exact⟨_,rfl,b.mono k⟩
   ·have m:aq r≠ .op [41]:=λj=>l ((mB (by simp)).1 j);simp only[l,bG,fo,aL];rw[aO m];obtain⟨d,f,g⟩:=qi (ai:=ai) (e.st r F ai).2.1 i s;rw[f,aR rfl];exact⟨_,rfl,by cases f;exact g⟩
 ·rw[dt (op:=[]) (by rw[iY p];rfl),pB,aR rfl];simp only[aL];obtain⟨d,f,g⟩:=Dp (x:=Gs) h.Be (by decide);rw[show([41,32,123,32,120,10,125]:H)=Gs from rfl,f];exact⟨d,rfl,(g.mono nP).s⟩
omit g9 hD in
theorem apl(a:n<2)(r:H)(F:ah):lk true (jU true n) r F= .deep r:=by
 match n,a with
 |0,_=>rfl
 |1,_=>rfl
end
section
variable{R:bj}{n:Nat}(g9:∀k m,n=m+1+k->k_ R m/\o5 R m)(au:n<=30){e:cm}(bf:e.ne=30- (n:Int))
include g9 au bf
theorem apm{u:H}{F:ah}{ai:Bool}(h:cI e (40::u) F):bR true e (40::u) (lk true (jU true n) (40::u) F) (λst=>st) (λ_ _ _=>True) (IC R (e.st (40::u) F ai)):=by
 rw[ape];by_cases i:n<2
 ·have b:decide (28<(e.st (40::u) F ai).2.2.1)=true:=by show decide (28<e.ne)=true;grind
  rw[b,apl au bf i];simp only[aL];obtain⟨y,c,j⟩:=qi (ai:=ai) (e.st (40::u) F ai).2.1 h fq;rw[c,aR rfl];exact⟨_,rfl,by cases c;exact j⟩
 ·have b:decide (28<(e.st (40::u) F ai).2.2.1)=false:=by show decide (28<e.ne)=false;grind
  rw[b];simp only[aW]
  obtain⟨m,rfl⟩:∃m,n=m+2:=⟨n-2,by omega⟩
  have l:W ((e.st (40::u) F ai).2.2.1+1)=e.ne+1:=dJ (by show-_<=e.ne+1;omega) (by grind);rw[l];have d:u<:+40::u:=dL _ u;have o:u≠[]:=h.zC (by decide);have f:=(h.mono d).x3;obtain⟨a,p,g⟩:=x_ f (st:=e.up.st u F ai) ⟨ai,rfl,λr=>absurd r o⟩;have s:hR ((e.st (40::u) F ai).1,W ((e.st (40::u) F ai).2.1+1),e.ne+1,(e.st (40::u) F ai).2.2.2.1,(e.st (40::u) F ai).2.2.2.2.1,(e.st (40::u) F ai).2.2.2.2.2.1,(e.st (40::u) F ai).2.2.2.2.2.2.1,(e.st (40::u) F ai).2.2.2.2.2.2.2.1,(e.st (40::u) F ai).2.2.2.2.2.2.2.2)=some a:=by rw[<-p];exact mC hR (tl (w:=[40]) (q:=u) h.x3 1 rfl)
  rw[s,aR rfl];have t:(a.1,a.2.1,a.2.2.1,(e.st (40::u) F ai).2.2.2.1,a.2.2.2.2.1,a.2.2.2.2.2.1,a.2.2.2.2.2.2.1,(e.st (40::u) F ai).2.2.2.2.2.2.2.1,a.2.2.2.2.2.2.2.2)=a:=by rcases g with⟨z,A, -,rfl, -⟩|⟨-,rfl⟩<;>rfl
  rw[t,apg];have v:lk true (jU true (m+2)) (40::u) F=((UN (aU true (m+1))).named [102,40,41]) u F:=rfl;rw[v]
  have x:∀k,m+1=k+1->k_ R k/\o5 R k:=λk av=>g9 1 k (by omega)
  have:=apk x (g9 0 (m+1) (by omega)).1 (by omega) (e:=e.up) (by show e.ne+1=_;omega) f g;exact(aph bf au this d (by simp) h.sfx h.b7).named
end
def wV{X:Type}(D:ae Unit)(a:ae X)(B:H->Bool->ae X)(E:ae X):ae X:=N (dz D) λb=>if b then a else N (bV []) λt=>match t with
 | .word w p=>N (cX D) λ_=>B w p
 | .op o=>if o=[40] then bP else E
 |_=>E
noncomputable def Gt(R:bj)(k:(Int×Int×Bool×Z)->Option Z)(a b:Int)(f:Bool):Z->Option Z:=λx=>
 (aw (gY x) λ(e:Bool)=>(cZ (e=false) (iW x) (0:UInt8) λ(h:UInt8)=>(bif(bif e then true else(decide ((h.toNat:Int)=(10:Int)))) then some x else(aw (ir x) λ(d:H)=>(bif(decide (d=([40]:H))) then(bif(bif(bif(decide (a=1)) then(decide (b=0)) else false) then f else false) then(aw (IC R x) λ(i:Z)=>some i) else(aw (h9 x x.2.1) λ(c:Z)=>some (c.1,c.2.1,c.2.2.1,x.2.2.2.1,c.2.2.2.2.1,c.2.2.2.2.2.1,c.2.2.2.2.2.2.1,x.2.2.2.2.2.2.2.1,c.2.2.2.2.2.2.2.2))) else(aw (xD d) λ(g:Bool)=>(cZ (g=false) (CA x) false λ(j:Bool)=>(bif(bif g then true else j) then(aw (Fb R x) λ(l:Z)=>k (a,(W (b+1)),f,l)) else(bif(!(decide (d=[]))) then some x else(aw (rr R x) λ(z:H×Bool×Z)=>(cZ (z.2.1=true) (CE z.1) false λ(m:Bool)=>k ((W (a+1)),b,(bif z.2.1 then m else false),z.2.2))))))))))))
theorem abS(R:bj)(j:Z->Option Z)(k:(Int×Int×Bool×Z)->Option Z)(a b:Int)(f:Bool)(x:Z):MH R j k (a,b,f,x)=(bif(decide (x.2.2.2.2.1=0)) then
 (aw (hR x) λ(c:Z)=>Gt R k a b f (c.1,c.2.1,c.2.2.1,x.2.2.2.1,c.2.2.2.2.1,c.2.2.2.2.2.1,c.2.2.2.2.2.2.1,x.2.2.2.2.2.2.2.1,c.2.2.2.2.2.2.2.2)) else j x):=rfl
section
variable{R:bj}{n:Nat}(hD:k_ R n){e:cm}(bf:e.ne=30- (n:Int))
include hD bf
theorem UP{X:Type}{C:dp X->dp Unit}(y:c_ C){z:ae X}{B:H->Bool->ae X}{E:ae X}(vm:∀r F,C (E r F)= .ok () r F)
  {k:(Int×Int×Bool×Z)->Option Z} {a b:Int} {f:Bool} {r:H} {F:ah} {x:Z} (h:cI e r F) (ag:Ds e r F x)
  (A:∀a b f (x:Z),x.2.2.2.2.1≠0->k (a,b,f,x)=some x)
  (hA:∀r' D L,r'<:+r->cI e r' D->r'.length<r.length->gA e r' D L->bR true e r (C (z r' D)) (λst=>st) (λ_ _ _=>True) (k (a,W (b+1),f,L)))
  (cV:∀j w p r' D L,bo r=some j->aq j= .word w p->r'<:+r->cI e r' D->r'.length<r.length->gA e r' D L->bR true e r (C (B w p r' D)) (λst=>st) (λ_ _ _=>True) (k (W (a+1),b,p&&my w,L)))
  (bu:∀j,bo r=some j->bs j=[40]->(bif(bif(decide (a=1)) then(decide (b=0)) else false) then f else false)=false):
  bR true e r (C (wV (a9 true n) z B E r F)) (λst=>st) (λ_ _ _=>True) (Gt R k a b f x):=by
 unfold wV Gt;rcases ag with⟨j,ai,M,rfl,hG,d,l,O⟩|⟨M,rfl⟩
 ·rw[qZ,aR rfl,Ge d];by_cases aa:j=[]
  ·subst aa;simp only[bA,aL,cZ,uE,cA];rw[aS (td M (by decide))];simp only[eQ,cA];rw[aS (cu O)];show bR true e r (C (E [] F)) _ _ _;rw[vm];exact⟨_,rfl,l,d,⟨ai,rfl,hG⟩,trivial⟩
  ·rw[eE aa,gy];simp only[cK,aW];have qf:aq j≠ .eof:=λhh=>aa (mA.1 hh);cases j with
   |nil=>grind
   |cons c t=>
    simp only[zY,qd];have U:=NH (c::t);have V:ff (bs ((c::t).dropWhile ch))=false->N (dz (a9 true n)) (λb=>if b then z else N (bV []) λt=>match t with
      | .word w p=>N (cX (a9 true n)) λ_=>B w p
      | .op o=>if o=[40] then bP else E
      |_=>E) r F=(match aq (c::t) with
      | .word w p=>N (cX (a9 true n)) λ_=>B w p
      | .op o=>if o=[40] then bP else E
      |_=>E) (c::t) F:=by
     intro hh;rw[aS (td M hh)];simp only[eQ,cA];rw[aS (cu O)]
    have fM:ir (e.st (c::t) F ai)=some (bs (c::t)):=ss d;rcases JE (b:=c) (t:=t) with⟨P,Q⟩|⟨P,Q,S⟩|⟨P,Q,S⟩
    ·subst P;have aD:ff (bs ((10::t).dropWhile ch))=false:=by rfl
     rw[V aD,Q];simp only[bA,aL];rw[vm];exact⟨_,rfl,l,d,⟨ai,rfl,hG⟩,trivial⟩
    ·simp only[P,bG,aW];rw[fM,aR rfl];by_cases J:bs (c::t)=[40]
     ·have aD:ff (bs ((c::t).dropWhile ch))=false:=by
       have az:c=40:=by
        have g_:aq (c::t)= .op [40]:=by grind
        obtain⟨v,aB⟩:=(h4 g_).2.1;grind
       subst az;rfl
      rw[V aD,S,J,bu (c::t) M J];simp only[bA,aL,aW,cK];show bR true e r (C (.bad (c::t))) _ _ _;rw[y.bad];obtain⟨aK,aY,ba⟩:=qi (ai:=ai) (e.st (c::t) F ai).2.1 d l;rw[aY,aR rfl];exact⟨_,rfl,by cases aY;exact ba⟩
     ·simp only[J,bG,aW];rw[F4,aR rfl,T6 d,gy];cases m:ff (bs ((c::t).dropWhile ch)) with
      |true=>
       rw[m] at U;have G:(bif ff (bs (c::t)) then true else if ff (bs (c::t))=false then(decide ((c::t).dropWhile ch≠c::t)&&true) else false)=true:=by grind
       rw[G];simp only[aL];have Nx:dz (a9 true n) r F=dz (a9 true n) (c::t) F:=by simp_all[dz,N,fL]
       have c4:N (dz (a9 true n)) (λb=>if b then z else N (bV []) λt=>match t with
         | .word w p=>N (cX (a9 true n)) λ_=>B w p
         | .op o=>if o=[40] then bP else E
         |_=>E) r F=N (dz (a9 true n)) (λb=>if b then z else N (bV []) λt=>match t with
         | .word w p=>N (cX (a9 true n)) λ_=>B w p
         | .op o=>if o=[40] then bP else E
         |_=>E) (c::t) F:=by
        grind[N]
       rw[c4];refine bR.iZ y ((Uh hD bf (ai:=ai) d O m).mono l) (λvK ad aH s Jw s1 v1 ho rP=>?_) (λop nd ds s _ T=>?_) (λs g=>?_)
       ·subst rP;rw[bc rfl];grind[s9,mL]
       ·exact⟨s,A _ _ _ _ (by rw[T.z.1];decide),T.up⟩
       ·exact⟨s,A _ _ _ _ (by rw[g.1];decide),g⟩
      |false=>
       rw[m] at U;have G:(bif ff (bs (c::t)) then true else if ff (bs (c::t))=false then(decide ((c::t).dropWhile ch≠c::t)&&false) else false)=false:=by grind
       rw[G,V m,S];simp only[Q,J,aW,bG,fo,aL,cA];rw[vm];exact⟨_,rfl,l,d,⟨ai,rfl,hG⟩,trivial⟩
    ·simp only[P,bG,aW];rw[fM,aR rfl];have J:¬bs (c::t)=[40]:=by grind
     simp only[J,bG,aW];rw[F4,aR rfl,T6 d,gy];cases m:ff (bs ((c::t).dropWhile ch)) with
     |true=>
      rw[m] at U;have G:(bif ff (bs (c::t)) then true else if ff (bs (c::t))=false then(decide ((c::t).dropWhile ch≠c::t)&&true) else false)=true:=by grind
      rw[G];simp only[aL];have Nx:dz (a9 true n) r F=dz (a9 true n) (c::t) F:=by simp_all[dz,N,fL]
      have c4:N (dz (a9 true n)) (λb=>if b then z else N (bV []) λt=>match t with
        | .word w p=>N (cX (a9 true n)) λ_=>B w p
        | .op o=>if o=[40] then bP else E
        |_=>E) r F=N (dz (a9 true n)) (λb=>if b then z else N (bV []) λt=>match t with
        | .word w p=>N (cX (a9 true n)) λ_=>B w p
        | .op o=>if o=[40] then bP else E
        |_=>E) (c::t) F:=by
       grind[N]
      rw[c4];refine bR.iZ y ((Uh hD bf (ai:=ai) d O m).mono l) (λvK ad aH s Jw s1 v1 ho rP=>?_) (λop nd ds s _ T=>?_) (λs g=>?_)
      ·subst rP;rw[bc rfl];grind[s9,mL]
      ·exact⟨s,A _ _ _ _ (by rw[T.z.1];decide),T.up⟩
      ·exact⟨s,A _ _ _ _ (by rw[g.1];decide),g⟩
     |false=>
      rw[m] at U;have G:(bif ff (bs (c::t)) then true else if ff (bs (c::t))=false then(decide ((c::t).dropWhile ch≠c::t)&&false) else false)=false:=by grind
      rw[G,V m,S];simp only[Q,aW,bA,hI];have hs:c1 (c::t)=false:=(zz O S).2;obtain⟨⟨g,fB,I⟩,hb,u⟩:=Gb hD bf (tr0:=ai) d;have Bk:I.1=e.S->g.length<=1000000:=λY=>kB (Uf d Y hb).1 h.b7;rw[hb,aR rfl];dsimp only at u⊢;cases hm:cX (a9 true n) (c::t) F with
      |ok apn ad aH=>rw[hm] at u;obtain⟨cx,ak,a3, -,bO,fj⟩:=u;rw[aS hm];have K:=(zy g (Bk a3.eta.1)).2;grind[wy,mL,gy]
      |more op nd ds=>rw[hm] at u;have i:jb false e (c::t) nd ds I:=u;have K:=(zy g (Bk i.z.2.2.2.1.s)).2;rw[dt hm,y.more,K,gy,A _ _ _ _ (by rw[i.z.1];decide)];exact⟨I,rfl,(i.mono l).up⟩
      |bad q=>rw[hm] at u;have i:jk e (c::t) I:=u;have K:=(zy g (Bk i.2.s)).2;rw[hq hm,y.bad,K,gy,A _ _ _ _ (by rw[i.1];decide)];exact⟨I,rfl,i.mono l⟩
      |deep q=>rw[hm] at u;have i:jk e (c::t) I:=u;have K:=(zy g (Bk i.2.s)).2;rw[ki hm,y.deep,K,gy,A _ _ _ _ (by rw[i.1];decide)];exact⟨I,rfl,i.mono l⟩
 ·have Fy:dz (a9 true n) r F= .more [] [] F:=by
   unfold dz;have:fL r F= .more [] [] F:=by unfold fL;rw[M];rfl
   grind[dt]
  rw[dt Fy,y.more,pB,aR rfl];simp only[cZ,uE,cA,aL];exact⟨_,rfl,.inr ⟨rfl,rfl,rfl⟩⟩
end
def zQ(D:ae Unit):Unit->ae (Unit⊕Unit):=λ_=>wV D (a1 (.inl ())) (λ_ _=>a1 (.inl ())) (a1 (.inr ()))
theorem JR(D:ae Unit):g8 true D=b8 (zQ D) ():=by unfold g8 zQ wV;grind
structure Gu(a b:Int)(f:Bool)(r:H):Prop where
 g:1<=b\/2<=a\/(a=1/\f=false)
 a0:0<=a
 abT:0<=b
 apo:a+r.length<=1000001
 apq:b+r.length<=1000001
theorem Gu.no{a b:Int}{f:Bool}{r:H}(h:Gu a b f r):(bif(bif(decide (a=1)) then(decide (b=0)) else false) then f else false)=false:=by obtain⟨g,a0,abT,_,_⟩:=h;grind
theorem Gv{a:Int}(h0:0<=a)(h:a<=1000001):W (a+1)=a+1:=dJ (by omega) (by omega)
noncomputable abbrev vy(R:bj):((Int×Int×Bool×Z)->Option Z)->(Int×Int×Bool×Z)->Option Z:=MH R (λx=>some x)
section
variable{R:bj}{n:Nat}(hD:k_ R n){e:cm}(bf:e.ne=30- (n:Int))
theorem Gw{r:H}{F:ah}{x y:Z}(a:Ds e r F y)(b:gA e r F x):(y.1,y.2.1,y.2.2.1,x.2.2.2.1,y.2.2.2.2.1,y.2.2.2.2.2.1,y.2.2.2.2.2.2.1,x.2.2.2.2.2.2.2.1,y.2.2.2.2.2.2.2.2)=y:=by obtain⟨ai,rfl,_⟩:=b;rcases a with⟨c,d, -,rfl, -⟩|⟨-,rfl⟩<;>rfl
theorem UQ{k:(Int×Int×Bool×Z)->Option Z}{a b:Int}{f:Bool}{r:H}{F:ah}{x:Z}(h:cI e r F)(c:gA e r F x):∃y,Ds e r F y/\vy R k (a,b,f,x)=Gt R k a b f y:=by obtain⟨y,M,U⟩:=x_ h c;refine⟨y,U,?_⟩;show MH R (λx=>some x) k (a,b,f,x)=_;rw[abS,c.eta.2.2.2.2.1];simp only[bA,aL];rw[M,aR rfl,Gw U c]
theorem abU{k:(Int×Int×Bool×Z)->Option Z}{a b:Int}{f:Bool}{x:Z}(h:x.2.2.2.2.1≠0):vy R k (a,b,f,x)=some x:=by simp_all[abS]
include hD bf
theorem abV{bw:Nat}{a b:Int}{f:Bool}{r:H}{F:ah}{x:Z}(u:r.length+1<bw)(h:cI e r F)(c:gA e r F x)(bu:Gu a b f r):bR true e r (g8 true (a9 true n) r F) (λst=>st) (λ_ _ _=>True) (fixF (vy R) bw (a,b,f,x)):=by
 rw[JR];refine bR.rep (en:=λ_ r F (y:Int×Int×Bool×Z)=>gA e r F y.2.2.2/\Gu y.1 y.2.1 y.2.2.1 r) (λk s r F y q j v av=>?_) bw () r F _ u h ⟨c,bu⟩;obtain⟨a,b,f,x⟩:=y;obtain⟨c,bu⟩:=j;dsimp only at c bu
 have z:∀a b f (x:Z),x.2.2.2.2.1≠0->k (a,b,f,x)=some x:=by intro a b f x c;obtain⟨k',M⟩:=v (a,b,f,x);grind[abU]
 obtain⟨y,j,he⟩:=UQ (R:=R) (k:=k) (a:=a) (b:=b) (f:=f) q c;rw[he];have E:=bu.apq;have A:=bu.apo;have t:=bu.a0;have d:=bu.abT;refine UP hD bf (C:=cR (zQ (a9 true n)) r) c_.k (λ_ _=>rfl) q j z (λr' l B s1 m i o=>?_) (λD w p r' l B G I s1 m i o=>?_) (λD _ _=>bu.no)
 ·refine bR.inl i (av () r' l _ s1 m i ⟨o,?_⟩);dsimp only;rw[Gv d (by omega)];exact⟨.inl (by omega),t,by omega,by omega,by omega⟩
 ·refine bR.inl i (av () r' l _ s1 m i ⟨o,?_⟩);dsimp only;rw[Gv t (by omega)];refine⟨?_,by omega,d,by omega,by omega⟩;rcases bu.g with g|g|g
  ·omega
  ·omega
  omega
end
def DB(lo:Option ea)(D:ae Unit):ae Unit:=N (bV []) λt=>if t= .op [40] then N (lk true lo) λ_=>a1 () else g8 true D
theorem JS{D:ae Unit}{r:H}{F:ah}(Y:bo r=some r)(d:ff (bs (r.dropWhile ch))=true){b:Bool}{ad:H}{a:ah}(h:dz D r F= .ok b ad a):b=true:=by
 have c:fL r F= .ok (some (bs (r.dropWhile ch))) ((r.dropWhile ch).drop (bs (r.dropWhile ch)).length) F:=by simp_all[fL]
 unfold dz at h;rw[aS c] at h;obtain⟨_,e,f,_,h⟩:=bY h;cases h;rfl
theorem apr{D:ae Unit}{r d:H}{F:ah}(Y:bo r=some d)(f:bo d=some d)(ay:d.length<=r.length)(hD:iw D):g8 true D r F=g8 true D d F:=by
 have n:dz D r F=dz D d F:=by simp_all[dz,N,fL]
 have h:zQ D () r F=zQ D () d F:=by simp_all[zQ,wV,N]
 rw[JR,cz,cz,h];unfold cR;cases hm:zQ D () d F with
 |ok x r' s=>
  cases x with
  |inr a=>rfl
  |inl u=>
   have t:r'.length<d.length:=by
    have bu:=hm;unfold zQ wV at bu;obtain⟨b,i,j,k,c⟩:=bY bu;cases b with
    |true=>simp only[cK] at c;cases c;exact s9 hD k
    |false=>
     simp only[eQ,cA] at c;have g:i=d/\j=F:=by
      cases v:ff (bs (d.dropWhile ch)) with
      |true=>grind[JS]
      |false=>simp_all[td]
     rw[g.1,g.2,aS (cu f)] at c;cases e:aq d with
     |eof=>rw[e] at c;cases c
     |line=>rw[e] at c;cases c
     |op o=>rw[e] at c;simp only at c;split at c<;>cases c
     |word w p=>rw[e] at c;simp only at c;obtain⟨_,y,z,l,m⟩:=bY c;cases m;exact wy hD (zz f e).1 (zz f e).2 l
   grind
 |more op nd ds=>rfl
 |bad q=>rfl
 |deep q=>rfl
section
variable{R:bj}{n:Nat}(g9:∀k m,n=m+1+k->k_ R m/\o5 R m)(hD:k_ R n)(au:n<=30){e:cm}(bf:e.ne=30- (n:Int))
theorem abX{gP:Nat}(c:0<gP):∀a b f (x:Z),x.2.2.2.2.1≠0->fixF (vy R) gP (a,b,f,x)=some x:=by
 intro a b f x d
 obtain⟨m,rfl⟩:∃m,gP=m+1:=⟨gP-1,by omega⟩
 grind[fl,abU]
include g9 hD au bf
theorem aps{bw:Nat}{r:H}{F:ah}{x:Z}(W:r.length+1<bw)(h:cI e r F)(G:gA e r F x):bR true e r (DB (jU true n) (a9 true n) r F) (λst=>st) (λ_ _ _=>True) (fixF (vy R) bw (1,0,true,x)):=by
 obtain⟨gP,rfl⟩:∃m,bw=m+1:=⟨bw-1,by omega⟩
 rw[fl];have D:=abX (R:=R) (gP:=gP) (by omega)
 have l:∀{a b:Int}{f:Bool}{r':H}{c:ah}{i:Z},r'.length<r.length->cI e r' c->gA e r' c i->Gu a b f r'->bR true e r' (g8 true (a9 true n) r' c) (λst=>st) (λ_ _ _=>True) (fixF (vy R) gP (a,b,f,i)):=λM U I J=>abV hD bf (by omega) U I J
 generalize fixF (vy R) gP=k at D l;obtain⟨y,K,he⟩:=UQ (R:=R) (k:=k) (a:=1) (b:=0) (f:=true) h G;rw[he];have X:=h.b7;have hle:=h.sfx.length_le;rcases K with⟨d,ai,o,rfl,L,g,q,E⟩|⟨o,rfl⟩
 ·unfold DB;rw[aS (cu o)];by_cases s:bs d=[40]
  ·have j:aq d= .op [40]:=(mB (by simp)).2 s;rw[bc j];obtain⟨u,rfl⟩:=(h4 j).2.1;have O:=apm g9 au bf (ai:=ai) (u:=u) g;unfold Gt;rw[qZ,aR rfl,Ge g,eE (by simp),gy];have P:(decide ((((40:UInt8)).toNat:Int)=(10:Int)))=false:=by decide
   have t:(([40]++u:H)).headD 0=40:=rfl;simp only[cK,aW,t,P];rw[ss g,aR rfl,s];simp only[bA,aL];have v:N (lk true (jU true n)) (λ_=>a1 ()) ([40]++u) F=lk true (jU true n) ([40]++u) F:=FT _ _ _;rw[v];exact bR.ei (O.mono q) (Dy _)
  ·have j:aq d≠ .op [40]:=λQ=>s ((mB (by simp)).1 Q);rw[aO j,JR,cz];have Y:=q.length_le;refine bR.mono ?_ q;refine UP hD bf (C:=cR (zQ (a9 true n)) d) c_.k (λ_ _=>rfl) g (.inl ⟨d,ai,E,rfl,L,g,fq,E⟩) D (λr' c i s1 z A B=>?_) (λS w p r' c i T V s1 z A B=>?_) (λS T V=>?_)
   ·refine bR.inl A ?_;rw[<-JR];refine(l (by omega) z B ?_).mono s1;rw[Gv (by omega) (by omega)];exact⟨.inl (by omega),by omega,by omega,by omega,by omega⟩
   ·refine bR.inl A ?_;rw[<-JR];refine(l (by omega) z B ?_).mono s1;rw[Gv (by omega) (by omega)];exact⟨.inr (.inl (by omega)),by omega,by omega,by omega,by omega⟩
   grind
 ·unfold DB;rw[dt (op:=[]) (nd:=[]) (ds:=F) (by rw[iY o];rfl)];unfold Gt;rw[pB,aR rfl];simp only[cZ,uE,cA,aL];exact⟨_,rfl,.inr ⟨rfl,rfl,rfl⟩⟩
end
noncomputable def Ob(R:bj):Z->Option Z:=λx=>
 (aw (gY x) λ(e:Bool)=>(bif e then(aw (hS x ([120]:H)) λ(f:Z)=>some f) else(aw (ir x) λ(b:H)=>(aw (mx x) λ(y23:H)=>(cZ ((decide (b=([40]:H)))=false) (AK y23) false λ(g:Bool)=>(bif(bif(decide (b=([40]:H))) then true else g) then(aw (AT R x) λ(h:Z)=>some h) else(aw (iW x) λ(c:UInt8)=>(cZ ((!(decide (b=[])))=true/\(decide ((c.toNat:Int)=(10:Int)))=false) (xD b) false λ(d:Bool)=>(cZ ((bif(decide ((c.toNat:Int)=(10:Int))) then true else(bif(!(decide (b=[]))) then(!d) else false))=false) (Ii y23) false λ(i:Bool)=>(bif(bif(bif(decide ((c.toNat:Int)=(10:Int))) then true else(bif(!(decide (b=[]))) then(!d) else false)) then true else i) then(aw (h9 x x.2.1) λ(a:Z)=>some (a.1,a.2.1,a.2.2.1,x.2.2.2.1,a.2.2.2.2.1,a.2.2.2.2.2.1,a.2.2.2.2.2.2.1,x.2.2.2.2.2.2.2.1,a.2.2.2.2.2.2.2.2)) else(aw (fixF (vy R) bD (0,0,false,x)) λ(j:Z)=>some j)))))))))))
theorem abY(R:bj)(I:Z):tX R I=aw (hR I) λa=>Ob R (a.1,a.2.1,a.2.2.1,I.2.2.2.1,a.2.2.2.2.1,a.2.2.2.2.2.1,a.2.2.2.2.2.2.1,I.2.2.2.2.2.2.2.1,a.2.2.2.2.2.2.2.2):=rfl
theorem UR{R:bj}{e:cm}{r:H}{b F:ah}(h:cI e r b)(c:eC F<=100*e.S.length+800):∃a,tX R (e.tt F)=some a/\oK e r (cW [] F [120]).1 (cW [] F [120]).2 a:=by rw[abY,Dj,aR rfl];obtain⟨a,f,g⟩:=Gq (F:=F) (x:=[120]) h c (by simp);have d:((e.tt F).1,(e.tt F).2.1,(e.tt F).2.2.1,(e.tt F).2.2.2.1,(e.tt F).2.2.2.2.1,(e.tt F).2.2.2.2.2.1,(e.tt F).2.2.2.2.2.2.1,(e.tt F).2.2.2.2.2.2.2.1,(e.tt F).2.2.2.2.2.2.2.2)=e.tt F:=rfl;rw[d];simp_all[Ob,pB,aR]
section
variable{R:bj}{n:Nat}(g9:∀k m,n=m+1+k->k_ R m/\o5 R m)(hD:k_ R n)(au:n<=30){e:cm}(bf:e.ne=30- (n:Int))
include g9 hD au bf
theorem apv{r:H}{F:ah}{ai:Bool}(h:cI e r F)(u:gA e r F (e.st r F ai))(Y:bo r=some r)(G:bs r≠[40]):bR true e r (wV (a9 true n) (g8 true (a9 true n)) (λw p=>if p&&my w then DB (jU true n) (a9 true n) else g8 true (a9 true n)) (a1 ()) r F) (λst=>st) (λ_ _ _=>True) (fixF (vy R) bD (0,0,false,e.st r F ai)):=by
 have v:r.length+1<bD:=wQ h
 obtain⟨gP,o⟩:∃m,bD=m+1:=⟨bD-1,by omega⟩
 rw[o,fl];rw[o] at v;clear o;have t:=abX (R:=R) (gP:=gP) (by omega)
 have q:∀{a b:Int}{f:Bool}{r':H}{c:ah}{d:Z},r'.length<r.length->cI e r' c->gA e r' c d->Gu a b f r'->bR true e r' (g8 true (a9 true n) r' c) (λst=>st) (λ_ _ _=>True) (fixF (vy R) gP (a,b,f,d)):=λM U s z=>abV hD bf (by omega) U s z
 have g:∀{r':H}{c:ah}{d:Z},r'.length<r.length->cI e r' c->gA e r' c d->bR true e r' (DB (jU true n) (a9 true n) r' c) (λst=>st) (λ_ _ _=>True) (fixF (vy R) gP (1,0,true,d)):=λM U s=>aps g9 hD au bf (by omega) U s
 generalize fixF (vy R) gP=k at t q g;obtain⟨y,A,he⟩:=UQ (R:=R) (k:=k) (a:=0) (b:=0) (f:=false) h u;rw[he];have I:=h.b7;have hle:=h.sfx.length_le;refine UP hD bf (C:=λx=>x) c_.id (λ_ _=>rfl) h A t (λr' c d s1 i j l=>?_) (λB w p r' c d D E s1 i j l=>?_) (λB D E=>?_)
 ·refine(q j i l ?_).mono s1;rw[Gv (by omega) (by omega)];exact⟨.inl (by omega),by omega,by omega,by omega,by omega⟩
 ·rw[Gv (by omega) (by omega)];cases aE:(p&&my w) with
  |true=>rw[bc rfl];exact(g j i l).mono s1
  |false=>rw[aO (by simp)];exact(q j i l ⟨.inr (.inr ⟨rfl,rfl⟩),by omega,by omega,by omega,by omega⟩).mono s1
 ·rfl
theorem ab0{r:H}{F:ah}{st:Z}(h:cI e r F)(K:gA e r F st):bR true e r (fG true (jU true n) (a9 true n) r F) (λst=>st) (λ_ _ _=>True) (tX R st):=by
 rw[abY];obtain⟨y,S,L⟩:=x_ h K;rw[S,aR rfl,Gw L K];rcases L with⟨a,ai,v,rfl,M,d,i,o⟩|⟨v,rfl⟩
 ·unfold fG;rw[aS (cu v)];unfold Ob;rw[qZ,aR rfl];by_cases z:a=[]
  ·subst z;simp only[bA,aL];obtain⟨s,g,j⟩:=vv (ai:=ai) (x:=[120]) d (by decide);rw[g];exact⟨s,rfl,(j.mono i).s⟩
  ·simp only[z,bG,aW];have T:aq a≠ .eof:=λA=>z (mA.1 A);rw[aO T,ss d,aR rfl,wR d,aR rfl,aaQ,gy];have O:=h.nl.iE d.sfx;have A4:=aaZ O;have B:(bif decide (bs a=[40]) then true else if decide (bs a=[40])=false then oC (jw a) else false)=gg (aq a):=by grind
   rw[B];cases az:gg (aq a) with
   |true=>
    simp only[aL,cK]
    have U:∀m,n=m+1->k_ R m/\o5 R m:=λm hm=>g9 0 m (by omega)
    have C:=abN U hD au bf d ⟨ai,rfl,M⟩ o az;have V:s4 (jU true n) (aq a)=(aU true n).cp (aq a):=by rw[aaw]
    rw[V];exact bR.ei (C.mono i) (Dy _)
   |false=>
    simp only[aW,eQ,cA];rw[Ge d,aR rfl];have D:aq a≠ .op [40]:=by grind[gg]
    have W:bs a≠[40]:=λA=>D ((mB (by simp)).2 A);have Y:=apv g9 hD au bf d ⟨ai,rfl,M⟩ o W;have zx:=anK O;have E:∀X:dp Unit,X= .bad a->bR true e r X (λst=>st) (λ_ _ _=>True) (aw (h9 (e.st a F ai) (e.st a F ai).2.1) λ(f:Z)=>
      some (f.1,f.2.1,f.2.2.1,(e.st a F ai).2.2.2.1,f.2.2.2.2.1,f.2.2.2.2.2.1,f.2.2.2.2.2.2.1,(e.st a F ai).2.2.2.2.2.2.2.1,f.2.2.2.2.2.2.2.2)):=by
     rintro X rfl;obtain⟨s,g,j⟩:=qi (ai:=ai) (e.st a F ai).2.1 d i;rw[g,aR rfl];exact⟨_,rfl,by cases g;exact j⟩
    cases a with
    |nil=>grind
    |cons c t=>
     simp only[zY,qd];rcases JE (b:=c) (t:=t) with⟨k,l⟩|⟨k,l,u⟩|⟨k,l,u⟩
     ·subst k;rw[l];simp only[bA,cZ,uE,and_false,cA,aL];exact E _ rfl
     ·rw[u];have G:rB (jw (c::t))=false:=by grind
      rw[F4,gy,aaR,gy,G];have ni:decide (bs (c::t)=[])=false:=eE l;simp only[k,ni,bG,fo,oc,cK,aL,aW];have I:(if(!ff (bs (c::t)))=false then false else false)=false:=by simp
      rw[I];cases iM:ff (bs (c::t)) with
      |false=>simp only[fo,aL,eQ,cA];exact E _ rfl
      |true=>
       simp only[hI,aW,cK];refine bR.ei (bR.mono ?_ i) (Dy _);have J:ff (bs ((c::t).dropWhile ch))=true:=by grind[NH]
       have c4:N (dz (a9 true n)) (λ_=>g8 true (a9 true n)) (c::t) F=wV (a9 true n) (g8 true (a9 true n)) (λw p=>if p&&my w then DB (jU true n) (a9 true n) else g8 true (a9 true n)) (a1 ()) (c::t) F:=by
        unfold wV;cases hm:dz (a9 true n) (c::t) F with
        |ok b ad P=>have:=JS o J hm;subst this;rw[aS hm,aS hm,bc rfl]
        |more op nd ds=>grind[dt]
        |bad q=>grind[hq]
        |deep q=>grind[ki]
       grind
     ·rw[u];have G:rB (jw (c::t))=((dc (c::t)).2&&rB (dc (c::t)).1):=by grind
      rw[F4,gy,aaR,gy,G];simp only[k,l,bA,bG,hI,aW,eQ,false_and,cK];cases Nx:((dc (c::t)).2&&rB (dc (c::t)).1) with
      |true=>simp only[aL,cK];exact E _ rfl
      |false=>
       simp only[aW,eQ,cA];refine bR.ei (bR.mono ?_ i) (Dy _);have c4:N (dz (a9 true n)) (λb=>if b then g8 true (a9 true n) else N (cX (a9 true n)) λ_=>
         if(dc (c::t)).2&&my (dc (c::t)).1 then N (bV []) λt=>if t= .op [40] then N (lk true (jU true n)) λ_=>a1 () else g8 true (a9 true n) else g8 true (a9 true n)) (c::t) F=wV (a9 true n) (g8 true (a9 true n)) (λw p=>if p&&my w then DB (jU true n) (a9 true n) else g8 true (a9 true n)) (a1 ()) (c::t) F:=by
        unfold wV;cases hm:dz (a9 true n) (c::t) F with
        |ok b ad P=>
         rw[aS hm,aS hm];cases b with
         |true=>rfl
         |false=>
          simp only[eQ,cA,cK];have Q:ad=c::t/\P=F:=by
           cases iM:ff (bs ((c::t).dropWhile ch)) with
           |true=>grind[JS]
           |false=>simp_all[td]
          rw[Q.1,Q.2,aS (cu o),u];rfl
        |more op nd ds=>grind[dt]
        |bad q=>grind[hq]
        |deep q=>grind[ki]
       grind
 ·unfold fG;rw[dt (op:=[]) (by rw[iY v];rfl)];unfold Ob;rw[pB,aR rfl];simp only[aL];obtain⟨s,g,j⟩:=Dp (x:=[120]) h.Be (by decide);rw[g];exact⟨s,rfl,(j.mono nP).s⟩
end
structure US(e:cm)(dm:ae Unit)(gQ:Z->Option Z):Prop where
 im:∀{r:H}{F:ah}{st:Z},cI e r F->gA e r F st->bR true e r (dm r F) (λst=>st) (λ_ _ _=>True) (gQ st)
 tt:∀{r:H}{gL F:ah},cI e r gL->eC F<=100*e.S.length+800->∃aK,gQ (e.tt F)=some aK/\oK e r (cW [] F [120]).1 (cW [] F [120]).2 aK
 sfx:∀{r:H}{F:ah}{a:Unit}{r':H}{aG:ah},dm r F= .ok a r' aG->r'<:+r
 pb:aJ 50 dm
noncomputable def Oc(tst:H->Bool)(w:Int)(gQ k:Z->Option Z):Z->Option Z:=λx=>
 (aw (ir x) λ(b:H)=>(bif tst b then some x else(aw (pt (setAt x (W (x.2.1+w)))) λ(a:Z)=>(bif(!(decide (a.2.2.2.2.1=0))) then(aw (gZ a ([]) ([120]:H)) λ(c:Z)=>some c) else(aw (gQ a) λ(d:Z)=>k d)))))
noncomputable def yc(tst:H->Bool)(w:Int)(gQ:Z->Option Z)(k:Z->Option Z):Z->Option Z:=λx=>
 (bif(decide (x.2.2.2.2.1=0)) then(aw (hR x) λ(a:Z)=>Oc tst w gQ k (a.1,a.2.1,a.2.2.1,x.2.2.2.1,a.2.2.2.2.1,a.2.2.2.2.2.1,a.2.2.2.2.2.2.1,x.2.2.2.2.2.2.2.1,a.2.2.2.2.2.2.2.2)) else some x)
def q1(p:Tok->Bool)(w:Nat)(dm:ae Unit):ae Unit:=b8 (λ_=>N (bV []) λt=>if p t=true then N (b6 w) λ_=>N (c2.aM [120]) λ_=>N dm λ_=>a1 (.inl ()) else a1 (.inr ())) ()
section
variable{e:cm}{dm:ae Unit}{gQ:Z->Option Z}(du:US e dm gQ){p:Tok->Bool}{tst:H->Bool}{w:Nat}
 (aE:∀t,p t=true->∃o,t= .op o/\o.length=w/\0<w/\tst o=false) (xV:∀r,tst (bs r)=false->p (aq r)=true) (UT:tst []=true)
include du aE xV UT
theorem ab1{r:H}{F:ah}{st:Z}(h:cI e r F)(T:gA e r F st):bR true e r (q1 p w dm r F) (λst=>st) (λ_ _ _=>True) (fixF (yc tst w gQ) bD st):=by
 unfold q1;refine bR.rep (en:=λ_ r F x=>gA e r F x) (λk s r F x m f E av=>?_) bD () r F _ (wQ h) h T
 have n:∀x:Z,x.2.2.2.2.1≠0->k x=some x:=by intro x f;obtain⟨k',M⟩:=E x;simp_all[yc]
 have vM:∀ds,k (e.tt ds)=some (e.tt ds):=by intro ds;obtain⟨k',M⟩:=E (e.tt ds);rw[M];unfold yc;have t:(e.tt ds).2.2.2.2.1=0:=rfl;rw[t,Dj,aR rfl];have V:((e.tt ds).1,(e.tt ds).2.1,(e.tt ds).2.2.1,(e.tt ds).2.2.2.1,(e.tt ds).2.2.2.2.1,(e.tt ds).2.2.2.2.2.1,(e.tt ds).2.2.2.2.2.2.1,(e.tt ds).2.2.2.2.2.2.2.1,(e.tt ds).2.2.2.2.2.2.2.2)=e.tt ds:=rfl;rw[V];unfold Oc;rw[Gf ds m.b7,aR rfl,UT];rfl
 unfold yc;rw[f.eta.2.2.2.2.1];simp only[bA,aL];obtain⟨y,X,G⟩:=x_ m f;have I:=Gw G f;rw[f.eta.2.2.2.1] at I;rw[X,aR rfl,f.eta.2.2.2.1,I];unfold Oc;rcases G with⟨J,ai,z,rfl,Y,g,K,iK⟩|⟨z,rfl⟩
 ·rw[aS (cu z),ss g,aR rfl];cases an:tst (bs J) with
  |true=>
   have j:¬p (aq J)=true:=by intro A;obtain⟨o,M,U,_,al⟩:=aE _ A;have:=(h4 M).1;grind
   rw[aO j];simp only[aL];exact⟨_,rfl,K,g,⟨ai,rfl,Y⟩,trivial⟩
  |false=>
   have j:=xV _ an;rw[bc j];simp only[aW];obtain⟨o,M,U,al,_⟩:=aE _ j;obtain⟨aV,bn,b2,c9⟩:=h4 M;obtain⟨v,rfl⟩:=bn;have L:v<:+o++v:=fO o v;have tf:=g.uu c9 b2;have lq:setAt (e.st (o++v) F ai) (W ((e.st (o++v) F ai).2.1+(w:Int)))=e.st v F ai:=tl g w U;have UU:b6 w (o++v) F= .ok () v F:=by grind[b6]
   rw[lq,aS UU];have l:=g.mono L;have i:v<:+r:=L.trans K;have e_:v.length<r.length:=by grind
   obtain⟨bN,bt,d⟩:=F7 l (st:=e.st v F ai) ⟨ai,rfl,λA=>absurd A tf⟩;rw[bt,aR rfl];have h6:=aJ.low (aJ.lines (c:=0)) l;cases hm:c2 v F with
   |ok a ad aH=>
    rw[hm] at d;obtain⟨N,ak,a3,bO,fj⟩:=d;rw[aS (qj hm),a3.eta.2.2.2.2.1];simp only[bA,hI,aW];refine bR.iZ (C:=cR _ r) c_.k ((du.im ak a3).mono (N.trans i)) (λapn O b9 b bM i_ fe zH _=>?_) (λop nd ds b _ B=>?_) (λb P=>?_)
    ·have l9:=(du.sfx bM).length_le;have ln:=N.length_le;have Q:O.length<r.length:=by omega
     exact bR.inl Q (av () O b9 b i_ fe Q zH)
    ·rcases B with B|⟨_,rfl,R⟩
     ·exact⟨b,n b (by omega),.inl B⟩
     ·subst R;exact⟨_,vM ds,.inr ⟨rfl,rfl,rfl⟩⟩
    ·exact⟨b,n b (by rw[P.1];decide),P⟩
   |more op nd ds=>
    rw[hm] at d;rw[dt (tk hm)];have R:=h6 _ _ _ hm;rcases d with d|⟨_,rfl,rfl⟩
    ·rw[d.1];simp only[show¬((1:Int)=0) by decide,bG,fo,aL];obtain⟨D,af,bg⟩:=Gm (q:=true) (x:=[120]) l (.inl d) i (by omega) (by decide);rw[af];exact⟨D,rfl,bg⟩
    ·have t:(e.tt ds).2.2.2.2.1=0:=rfl;rw[t];simp only[bA,hI,aW];obtain⟨D,aY,S⟩:=du.tt l (F:=ds) (by omega);rw[aY,aR rfl,n _ (by rw[S.1];decide)];exact⟨D,rfl,(S.mono i).s⟩
   |bad u=>rw[hm] at d;rw[hq (vw hm),d.1];simp only[show¬((2:Int)=0) by decide,bG,fo,aL];rw[su d];exact⟨_,rfl,d.mono i⟩
   |deep u=>rw[hm] at d;rw[ki (vx hm),d.1];simp only[show¬((2:Int)=0) by decide,bG,fo,aL];rw[su d];exact⟨_,rfl,d.mono i⟩
 ·rw[dt (op:=[]) (nd:=[]) (ds:=F) (by rw[iY z];rfl),Gf F m.b7,aR rfl,UT];exact⟨_,rfl,.inr ⟨rfl,rfl,rfl⟩⟩
end
def ql(t:Tok):Bool:=decide (t= .op [124])
def q2(t:Tok):Bool:=decide (t= .op [38,38])||decide (t= .op [124,124])
theorem UW(dm:ae Unit):fu dm=N (bV [120]) λt=>N (if cG t [33] then b6 1 else a1 ()) λ_=>N dm λ_=>q1 ql 1 dm:=by simp[fu,q1,ql]
theorem UX(a:ae Unit):h2 a=N a λ_=>q1 q2 2 a:=by simp[h2,q1,q2]
noncomputable def Oe(R:bj):Z->Option Z:=λa=>fixF (yc (λo=> !(decide (o=([124]:H)))) 1 (tX R)) bD a
noncomputable def JU(R:bj):Z->Option Z:=λx=>
 (aw (mx x) λ(b:H)=>(bif(decide (b=([33]:H))) then(aw (tX R (setAt x (W (x.2.1+1)))) λa=>Oe R a) else(aw (tX R x) λa=>Oe R a)))
theorem ab2(R:bj)(I:Z):zg R I=aw (hR I) λa=>JU R (a.1,a.2.1,a.2.2.1,I.2.2.2.1,a.2.2.2.2.1,a.2.2.2.2.2.1,a.2.2.2.2.2.2.1,I.2.2.2.2.2.2.2.1,a.2.2.2.2.2.2.2.2):=rfl
theorem apA(R:bj)(I:Z):IF R I=aw (zg R I) λa=>fixF (yc (λo=>bif(!(decide (o=([38,38]:H)))) then(!(decide (o=([124,124]:H)))) else false) 2 (zg R)) bD a:=rfl
theorem Gx{tst:H->Bool}{w:Int}{gQ:Z->Option Z}{x:Z}(h:x.2.2.2.2.1≠0):fixF (yc tst w gQ) bD x=some x:=by
 obtain⟨m,hm⟩:∃m,bD=m+1:=⟨bD-1,by rw[gD]⟩
 simp_all[fl,yc]
theorem ab3{tst:H->Bool}{w:Int}{gQ:Z->Option Z}{e:cm}(ds:ah)(b:e.S.length<=1000000)(c:tst []=true):fixF (yc tst w gQ) bD (e.tt ds)=some (e.tt ds):=by
 obtain⟨m,hm⟩:∃m,bD=m+1:=⟨bD-1,by rw[gD]⟩
 rw[hm,fl];unfold yc;have a:(e.tt ds).2.2.2.2.1=0:=rfl;rw[a,Dj,aR rfl];have d:((e.tt ds).1,(e.tt ds).2.1,(e.tt ds).2.2.1,(e.tt ds).2.2.2.1,(e.tt ds).2.2.2.2.1,(e.tt ds).2.2.2.2.2.1,(e.tt ds).2.2.2.2.2.2.1,(e.tt ds).2.2.2.2.2.2.2.1,(e.tt ds).2.2.2.2.2.2.2.2)=e.tt ds:=rfl;simp_all[Oc,Gf,aR]
theorem UY:([33]:H)≠[]/\([33]:H).all gN=true:=by decide
theorem JV(n:Nat):∀l,jU true n=some l->vn l:=by
 intro l h;cases n with
 |zero=>cases h
 |succ m=>cases h;simp[rF]
theorem apB(n:Nat):∀l,jU true n=some l->zB l:=by
 intro l h;cases n with
 |zero=>cases h
 |succ m=>cases h;simp[um]
section
variable{R:bj}{n:Nat}(g9:∀k m,n=m+1+k->k_ R m/\o5 R m)(hD:k_ R n)(au:n<=30){e:cm}(bf:e.ne=30- (n:Int))
include g9 hD au bf
theorem ab4:US e (fG true (jU true n) (a9 true n)) (tX R) where
 im:=λh b=>ab0 g9 hD au bf h b
 tt:=λh c=>UR h c
 sfx:=by intro r F a r' d hm;exact(ar.command (λl ay=>JV n l ay) (mL true n)).sfx hm
 pb:=by grind[F1,aJ.command,apB]
theorem apC{r:H}{F:ah}{st:Z}(h:cI e r F)(b:gA e r F st):bR true e r (q1 ql 1 (fG true (jU true n) (a9 true n)) r F) (λst=>st) (λ_ _ _=>True) (Oe R st):=by
 refine ab1 (ab4 g9 hD au bf) (λt a=>?_) (λr a=>?_) rfl h b
 ·exact⟨[124],OZ a,rfl,by decide,rfl⟩
 ·have:bs r=[124]:=by grind
  exact decide_eq_true ((mB (by simp)).2 this)
theorem apD{r c:H}{F:ah}{ai:Bool}(d:cI e c F)(g:c=[]->ai=false)(k:c<:+r)(z:bo c=some c):bR true e r (N (if cG (aq c) [33] then b6 1 else a1 ()) (λ_=>N (fG true (jU true n) (a9 true n)) λ_=>q1 ql 1 (fG true (jU true n) (a9 true n))) c F) (λst=>st) (λ_ _ _=>True) (JU R (e.st c F ai)):=by
 unfold JU;rw[wR d,aR rfl];have l:=d.nl.iE d.sfx
 have m:∀{v:H}{ai:Bool},cI e v F->(v=[]->ai=false)->v<:+r->bR true e r (N (fG true (jU true n) (a9 true n)) (λ_=>q1 ql 1 (fG true (jU true n) (a9 true n))) v F) (λst=>st) (λ_ _ _=>True) (aw (tX R (e.st v F ai)) λo=>Oe R o):=by
  intro v ai h g p;refine bR.iZ (C:=λx=>x) c_.id ((ab0 g9 hD au bf h ⟨ai,rfl,g⟩).mono p) (λa ad A b B s1 q s _=>?_) (λop nd ds b _ f=>?_) (λb i=>?_)
  ·exact(apC g9 hD au bf q s).mono s1
  ·rcases f with f|⟨_,rfl,t⟩
   ·exact⟨b,Gx (by omega),.inl f⟩
   ·subst t;exact⟨_,ab3 ds h.b7 rfl,.inr ⟨rfl,rfl,rfl⟩⟩
  ·exact⟨b,Gx (by rw[i.1];decide),i⟩
 by_cases aD:jw c=[33]
 ·have u:=(sq l UY.1 UY.2).1 aD;simp only[aD,bA,aL];rw[bc (by grind[cG])];obtain⟨v,rfl⟩:=(qQ u).1;have j:v<:+[33]++v:=fO _ v;rw[aS (show b6 1 ([33]++v) F= .ok () v F from rfl)];have w:setAt (e.st ([33]++v) F ai) (W ((e.st ([33]++v) F ai).2.1+1))=e.st v F ai:=tl d 1 rfl;rw[w];exact m (d.mono j) (λy=>absurd y (d.uu (by simp) (by decide))) (j.trans k)
 ·have bh:cG (aq c) [33]=false:=by grind[Jy,UY]
  simp only[aD,bG,aW];rw[aO (by grind),JG];grind
theorem ab5{r:H}{F:ah}{st:Z}(h:cI e r F)(b:gA e r F st):bR true e r (fu (fG true (jU true n) (a9 true n)) r F) (λst=>st) (λ_ _ _=>True) (zg R st):=by
 rw[UW,ab2];obtain⟨y,g,c⟩:=x_ h b;rw[g,aR rfl,Gw c b];rcases c with⟨j,ai,a,rfl,k,l,m,p⟩|⟨a,rfl⟩
 ·rw[aS (cu a)];grind[apD]
 ·rw[dt (op:=[]) (by rw[iY a];rfl)];unfold JU;rw[Us h,aR rfl];simp only[reduceCtorEq,bG,aW];have q:=h.kf;obtain⟨d,i,f⟩:=UR (R:=R) (F:=F) h (by omega);rw[i,aR rfl];have:=Gx (tst:=λo=> !(decide (o=([124]:H)))) (w:=1) (gQ:=tX R) (x:=d) (by rw[f.1];decide);exact⟨d,this,f.s⟩
theorem apE{r:H}{c F:ah}(h:cI e r c)(d:eC F<=100*e.S.length+800):∃a,zg R (e.tt F)=some a/\oK e r (cW [] F [120]).1 (cW [] F [120]).2 a:=by rw[ab2,Dj,aR rfl];have f:((e.tt F).1,(e.tt F).2.1,(e.tt F).2.2.1,(e.tt F).2.2.2.1,(e.tt F).2.2.2.2.1,(e.tt F).2.2.2.2.2.1,(e.tt F).2.2.2.2.2.2.1,(e.tt F).2.2.2.2.2.2.2.1,(e.tt F).2.2.2.2.2.2.2.2)=e.tt F:=rfl;rw[f];unfold JU;rw[Us h,aR rfl];simp only[reduceCtorEq,bG,aW];obtain⟨a,g,b⟩:=UR (R:=R) (F:=F) h d;rw[g,aR rfl];have:=Gx (tst:=λo=> !(decide (o=([124]:H)))) (w:=1) (gQ:=tX R) (x:=a) (by rw[b.1];decide);exact⟨a,this,b⟩
theorem ab6:US e (fu (fG true (jU true n) (a9 true n))) (zg R) where
 im:=λh b=>ab5 g9 hD au bf h b
 tt:=λh c=>apE g9 hD au bf h c
 sfx:=by intro r F a r' d hm;exact(ar.pipe (ar.command (λl ay=>JV n l ay) (mL true n))).sfx hm
 pb:=aJ.pipe (ab4 g9 hD au bf).pb
theorem apF{r:H}{F:ah}{st:Z}(h:cI e r F)(g:gA e r F st):bR true e r (h2 (fu (fG true (jU true n) (a9 true n))) r F) (λst=>st) (λ_ _ _=>True) (IF R st):=by
 rw[UX,apA];refine bR.iZ (C:=λx=>x) c_.id (ab5 g9 hD au bf h g) (λa ad l b m s1 i j _=>?_) (λop nd ds b _ c=>?_) (λb d=>?_)
 ·refine(ab1 (ab6 g9 hD au bf) (λt f=>?_) (λr f=>?_) rfl i j).mono s1
  ·unfold q2 at f;grind
  ·unfold q2;rw[yl];grind[mB]
 ·rcases c with c|⟨_,rfl,k⟩
  ·exact⟨b,Gx (by omega),.inl c⟩
  ·subst k;exact⟨_,ab3 ds h.b7 rfl,.inr ⟨rfl,rfl,rfl⟩⟩
 ·exact⟨b,Gx (by rw[d.1];decide),d⟩
end
noncomputable def wX(a:Bool):Int×Z->Option (Int×Z):=λy=>
 (bif(bif a then(decide (y.1=0)) else false) then(aw (gZ y.2 ([]) ([120]:H)) λ(b:Z)=>some (y.1,b)) else some y)
noncomputable def UZ(a:H)(k:Int×Z->Option (Int×Z))(j3:Int):Z->Option (Int×Z):=λx=>
 (aw (ir x) λ(c:H)=>(aw (gY x) λ(d:Bool)=>(cZ (d=false) (iW x) (0:UInt8) λ(e:UInt8)=>(bif(bif(bif d then true else(decide ((e.toNat:Int)=(10:Int)))) then true else(bif(decide (c=a)) then(!(decide (a=[]))) else false)) then k ((W (j3+1)),x) else(bif(bif(!(decide (c=([59]:H)))) then(!(decide (c=([38]:H)))) else false) then(aw (h9 x x.2.1) λ(b:Z)=>some ((W (j3+1)),(b.1,b.2.1,b.2.2.1,x.2.2.2.1,b.2.2.2.2.1,b.2.2.2.2.2.1,b.2.2.2.2.2.2.1,x.2.2.2.2.2.2.2.1,b.2.2.2.2.2.2.2.2))) else k ((W (j3+1)),setAt x (W (x.2.1+1))))))))
noncomputable def ab7(R:bj)(b:H)(k:Int×Z->Option (Int×Z))(j3:Int):Z->Option (Int×Z):=λx=>
 (aw (IF R x) λ(c:Z)=>(bif(!(decide (c.2.2.2.2.1=0))) then some ((W (j3+1)),c) else(aw (hR c) λ(a:Z)=>UZ b k j3 (a.1,a.2.1,a.2.2.1,c.2.2.2.1,a.2.2.2.2.1,a.2.2.2.2.2.1,a.2.2.2.2.2.2.1,c.2.2.2.2.2.2.2.1,a.2.2.2.2.2.2.2.2))))
noncomputable def Of(R:bj)(a:H)(b:bx)(c:Bool)(j k:Int×Z->Option (Int×Z))(j3:Int):Z->Option (Int×Z):=λx=>
 (aw (gY x) λ(f:Bool)=>(bif f then(bif(!(decide (a=[]))) then(aw (hS x ([])) λ(g:Z)=>j (j3,g)) else j (j3,x)) else(aw (iW x) λ(h:UInt8)=>(bif(decide ((h.toNat:Int)=(10:Int))) then(aw (Cz x) λ(i:Z)=>k (j3,i)) else(aw (ir x) λ(d:H)=>(aw (mx x) λ(e:H)=>(cZ ((decide (0<j3))=true/\(bif(bif(decide (d=a)) then(!(decide (a=[]))) else false) then(bif(decide (0<j3)) then true else(!c)) else false)=false) (AJ e b) false λ(l:Bool)=>(bif(bif(bif(bif(bif(decide (d=a)) then(!(decide (a=[]))) else false) then(bif(decide (0<j3)) then true else(!c)) else false) then true else(bif(decide (0<j3)) then l else false)) then true else(bif(decide (a=([59,59]:H))) then(decide (e=([101,115,97,99]:H))) else false)) then some (j3,x) else ab7 R a k j3 x))))))))
theorem U0(R:bj)(b:H)(a:bx)(d:Bool)(j k:Int×Z->Option (Int×Z))(j3:Int)(x:Z):AU R b a d j k (j3,x)=(bif(decide (x.2.2.2.2.1=0)) then
 (aw (hR x) λ(c:Z)=>Of R b a d j k j3 (c.1,c.2.1,c.2.2.1,x.2.2.2.1,c.2.2.2.2.1,c.2.2.2.2.2.1,c.2.2.2.2.2.2.1,x.2.2.2.2.2.2.2.1,c.2.2.2.2.2.2.2.2)) else j (j3,x)):=rfl
theorem apG(R:bj)(I:Z)(b:H)(a:bx)(c:Bool):Fg R I b a c=fixF (AU R b a c (wX c)) bD (0,I):=rfl
def uw(c:Ctx)(no:Bool):Bool:=x2 c no||(decide (c= .text)&&no)
theorem ab8(r:H):bs r≠[119]:=by
 intro h;have M:(kd.find? λo=>o.isPrefixOf r)=some [119]\/¬(kd.find? λo=>o.isPrefixOf r)=some [119]:=Classical.em _;rcases M with M|M
 ·have:=List.mem_of_find?_eq_some M;revert this;decide
 ·unfold bs at h;cases U:(kd.find? λo=>o.isPrefixOf r) with
  |none=>grind
  |some o=>grind
theorem apH{c:Ctx}{no:Bool}(az:uw c no=true){r:H}(g:dK r)(j:r≠[])(n:Nat)(a:Bool)(h:a=(if((decide (0<(n:Int)))=true/\(bif(bif(decide (bs r=jV c)) then(!(decide (jV c=[]))) else false) then(bif(decide (0<(n:Int))) then true else(!(!no))) else false)=false) then(pA c).contains (jw r) else false)):
  (bif(bif(bif(bif(decide (bs r=jV c)) then(!(decide (jV c=[]))) else false) then(bif(decide (0<(n:Int))) then true else(!(!no))) else false) then true else(bif(decide (0<(n:Int))) then a else false)) then true else(bif(decide (jV c=([59,59]:H))) then(decide (jw r=([101,115,97,99]:H))) else false))=((no||decide (n>0))&&d_ c (aq r)):=by
 have au:decide (0<(n:Int))=decide (n>0):=by simp
 rw[au] at h⊢;subst h
 have e:∀i,jV i=[119]->decide (bs r=jV i)=false:=by grind[ab8]
 have k:decide (([119]:H)=[59,59])=false:=by decide
 have l:∀{w:H},w≠[]->w.all gN=true->(jw r=w↔aq r= .word w true):=λM U=>sq g M U
 have d:∀{w:H},w≠[]->w.all gN=true->cG (aq r) w=decide (jw r=w):=λM U=>(Jy g M U).symm
 have f:∀{o:H},o≠[]->(aq r== .op o)=decide (bs r=o):=by grind[mB]
 cases c with
 |text=>grind[d_,mA,jV,pA]
 |paren=>have:d_ .paren (aq r)=decide (bs r=[41]):=f (by simp);grind[jV,pA]
 |item=>
  have b:no=true:=by grind[uw,x2]
  subst b;have:d_ .item (aq r)=(decide (bs r=[59,59])||decide (jw r=eH)):=by show(aq r== .op [59,59]||cG (aq r) eH)=_;grind[JK]
  grind[jV,pA,eH]
 |p9=>
  have b:no=false:=by grind[uw,x2]
  subst b;have:d_ .p9 (aq r)=decide (jw r=[125]):=d N3.1 N3.2;rw[this,e _ rfl];grind[jV,pA]
 |sg=>
  have b:no=false:=by grind[uw,x2]
  subst b;have:d_ .sg (aq r)=decide (jw r=hT):=d N2.1 N2.2;rw[this,e _ rfl];grind[jV,pA]
 |qL=>
  have b:no=false:=by grind[uw,x2]
  subst b;have:d_ .qL (aq r)=(decide (jw r=iv)||decide (jw r=gf)||decide (jw r=eh)):=by show(cG (aq r) iv||cG (aq r) gf||cG (aq r) eh)=_;grind[UD,UC,Dw]
  rw[this,e _ rfl];grind[jV,pA]
 |kE=>
  have b:no=false:=by grind[uw,x2]
  subst b;have:d_ .kE (aq r)=decide (jw r=eh):=d Dw.1 Dw.2;rw[this,e _ rfl];grind[jV,pA]
 |p_=>
  have b:no=false:=by grind[uw,x2]
  subst b;have:d_ .p_ (aq r)=decide (jw r=hp):=d wU.1 wU.2;rw[this,e _ rfl];grind[jV,pA]
 |done=>
  have b:no=false:=by grind[uw,x2]
  subst b;have:d_ .done (aq r)=decide (jw r=jh):=d Gl.1 Gl.2;rw[this,e _ rfl];grind[jV,pA]
theorem apJ{c:Ctx}{no:Bool}(az:uw c no=true){r:H}(d:dK r){o:H}(a:aq r= .op o):(bif(decide (bs r=jV c)) then(!(decide (jV c=[]))) else false)=d_ c (.op o):=by
 have b:=(h4 a).1;have bf:=(h4 a).2.2.2;subst b;cases c with
 |text=>simp[jV,d_]
 |paren=>grind[jV,d_]
 |item=>grind[jV,d_,cG]
 |_=>simp[jV,d_,cG,ab8]
theorem apK{c:Ctx}{r:H}(h:bs r=[]):(bif(decide (bs r=jV c)) then(!(decide (jV c=[]))) else false)=false:=by grind
def ux(ao:ae Unit)(c:Ctx)(no:Bool)(n:Nat):ae Nat:=N (c2.aM (if no||n>0 then [] else [120])) λ_=>b8 (dS ao c no) n
theorem Oh{ao:ae Unit}{c:Ctx}{no:Bool}{n:Nat}{r ad:H}{F:ah}(Y:bo r=some ad)(a:aq ad≠ .line):ux ao c no n r F=b8 (dS ao c no) n ad F:=by unfold ux;rw[aS (qj (pw Y a))]
theorem apL{ao:ae Unit}{c:Ctx}{no:Bool}{n:Nat}{r:H}{F:ah}(Y:bo r=none):ux ao c no n r F= .more [] (cW [] F (if no||n>0 then [] else [120])).1 (cW [] F (if no||n>0 then [] else [120])).2:=by
 unfold ux;have:c2 r F= .more [] [] F:=by rw[rG,cz];have:hX false r F= .more [] (cW [] F []).1 (cW [] F []).2:=dt (iY Y);rw[this];rfl
 grind[dt,tk]
theorem apM{r t:H}{F:ah}(Y:bo r=some (10::t)):(∃a b r' d,c2 r F= .ok a r' d/\N jt (λ_=>c2) (10::t) F= .ok b r' d)\/c2 r F=N jt (λ_=>c2) (10::t) F:=by
 have M:c2 r F=cR hX r (N jt (λ_=>a1 (.inl true)) (10::t) F):=by rw[rG,cz,ub Y]
 have f:=(ef Y).length_le;cases hm:jt (10::t) F with
 |ok a ad c=>
  obtain⟨U,_⟩:=T3 hm;have ay:ad.length<r.length:=by grind
  rw[M,aS hm,aS hm];have e:cR hX r (a1 (.inl true) ad c)=b8 hX true ad c:=by show(if ad.length<r.length then b8 hX true ad c else _)=_;grind
  rw[e,rG];rcases Zq ad.length true ad c (cF _) with⟨r',d,⟨x,g⟩,y,i⟩|h
  ·grind
  grind
 |more op nd ds=>right;rw[M,dt hm,dt hm];rfl
 |bad q=>right;rw[M,hq hm,hq hm];rfl
 |deep q=>right;rw[M,ki hm,ki hm];rfl
theorem apN{ao:ae Unit}{c:Ctx}{no:Bool}{n:Nat}{r t:H}{F:ah}(Y:bo r=some (10::t)):ux ao c no n r F=N (jt.aM (if no||n>0 then [] else [120])) (λ_=>ux ao c no n) (10::t) F:=by
 have av:N (jt.aM (if no||n>0 then [] else [120])) (λ_=>ux ao c no n)=N ((N jt (λ_=>c2)).aM (if no||n>0 then [] else [120])) (λ_=>b8 (dS ao c no) n):=by rw[JF,k6];rfl
 rw[av];unfold ux;grind[apM,N,ae.aM]
theorem apO(ao:ae Unit)(c:Ctx)(no:Bool):oZ ao c no=ux ao c no 0:=by simp[o0,ux]
theorem ab9{r ad:H}{k:Nat}{F b:ah}{a:Unit}(av:0<k)(c:r≠[])(h:b6 k r F= .ok a ad b):ad.length<r.length:=by cases h;grind[List.length_pos_iff]
theorem apP{l:ea}(ay:vn l){r:H}{F:ah}{a:Unit}{r':H}{b:ah}(az:gg (aq r)=true)(h:gK l (aq r) r F= .ok a r' b):r'.length<r.length:=by
 have f:r≠[]:=by rintro rfl;grind[aq,gg]
 cases c:aq r with
 |eof=>rw[c] at h;cases h
 |line=>rw[c] at h;cases h
 |op o=>rw[c] at h;have d:N (b6 1) (λ_=>N ((l.ls .paren false).aM [41]) λ_=>j1 [41]) r F= .ok a r' b:=h;obtain⟨_,ad,g,M,U⟩:=bY d;have e:ar (N ((l.ls .paren false).aM [41]) λ_=>j1 [41]):=((ay.ls _ _).aM _).N λ_=>ar.op _;have:=(e.sfx U).length_le;have:=ab9 (by decide) f M;omega
 |word w p=>
  rw[c] at h az;have i:w≠[]:=by rintro rfl;cases p<;>simp[gg] at az;revert az;decide
  have d:N (b6 w.length) (λ_=>zN l w) r F= .ok a r' b:=h;obtain⟨_,ad,g,M,U⟩:=bY d;have e:ar (zN l w):=by unfold zN;refine ar.ite (((ay.ls _ _).aM _).N λ_=>ar.res _) (ar.ite (ar.cond ay) (ar.ite (ar.for_ ay ay.dl) (ar.ite (ar.xL ay ay.dl) (((ay.ls _ _).aM _).N λ_=>ar.body ay _))))
  have j:zN l w ad g= .ok a r' b:=U;have:=(e.sfx j).length_le;have:=ab9 (OR.2 i) f M;omega
theorem apQ{n:Nat}{r:H}{F:ah}{a:Unit}{r':H}{v:ah}(h:fG true (jU true n) (a9 true n) r F= .ok a r' v):r'.length<r.length:=by
 have hD:=mL true n;have ku:=JV n;unfold fG at h;obtain⟨t,ad,j,M,U⟩:=bY h;obtain⟨q,rfl,rfl⟩:=n5 M;have G:=(ef q).length_le;split at U
 ·cases U
 ·rename_i bf;split at U
  ·rename_i az;obtain⟨_,f,g,d,c⟩:=bY U;have ak:=((ar.nc hD).sfx c).length_le;cases n with
   |zero=>cases d
   |succ m=>
    have s:((gK (aU true m) (aq ad)).named (lX (aq ad))) ad j= .ok () f g:=d;have i:gK (aU true m) (aq ad) ad j= .ok () f g:=by grind[ae.named]
    have:=apP (rF true m) az i;omega
  ·have I:ad≠[]:=λx=>bf (mA.2 x);have k:bo ad=some ad:=l1 _ _ _ (cF _) q;cases e:aq ad with
   |eof=>grind
   |line=>rw[e] at U;cases U
   |op o=>
    rw[e] at U;simp only at U;split at U
    ·rename_i y;obtain⟨b,f,g,d,c⟩:=bY U;have ak:=((ar.simple hD true).sfx c).length_le;have z:=(h4 e).1;subst z;have A:=JS k (by grind[NH]) d;subst A;have:=s9 hD d;omega
    ·cases U
   |word w p=>
    rw[e] at U;simp only at U;split at U
    ·cases U
    ·obtain⟨b,f,g,d,c⟩:=bY U;cases b with
     |true=>simp only[cK] at c;have ak:=((ar.simple hD true).sfx c).length_le;have:=s9 hD d;omega
     |false=>
      simp only[eQ,cA] at c;have B:f=ad/\g=j:=by
       cases y:ff (bs (ad.dropWhile ch)) with
       |true=>grind[JS]
       |false=>simp_all[td]
      obtain⟨rfl,rfl⟩:=B;obtain⟨_,J,K,s,i⟩:=bY c;have a3:=wy hD (zz k e).1 (zz k e).2 s;split at i
      ·obtain⟨t,L,N,C,l⟩:=bY i;obtain⟨D,rfl,rfl⟩:=n5 C;have O:=(ef D).length_le;split at l
       ·rename_i P;obtain⟨_,Q,R,E,u⟩:=bY l;have S:=((ek.function (fr:=true) ku).sfx E).length_le;simp only[cK] at u;cases u;omega
       ·have:=((ar.simple hD true).sfx l).length_le;omega
      ·have:=((ar.simple hD true).sfx i).length_le;omega
theorem apR{σ α:Type}{f:σ->ae (σ⊕α)}(hf:∀s r F x r' c,f s r F= .ok x r' c->r'.length<=r.length):∀(bw:Nat)(s:σ)(r:H)(F:ah)(a:α)(r':H)(c:ah),r.length<=bw->b8 f s r F= .ok a r' c->r'.length<=r.length:=by
 intro bw;induction bw with
 |zero=>
  intro s r F a r' c au h;rw[cz] at h;cases hm:f s r F with
  |ok x ad d=>
   rw[hm] at h;have:=hf _ _ _ _ _ _ hm;cases x with
   |inl s'=>simp_all[cR]
   |inr b=>cases h;omega
  |more op nd ds=>rw[hm] at h;cases h
  |bad q=>rw[hm] at h;cases h
  |deep q=>rw[hm] at h;cases h
 |succ bw e=>
  intro s r F a r' c au h;rw[cz] at h;cases hm:f s r F with
  |ok x ad d=>
   rw[hm] at h;have:=hf _ _ _ _ _ _ hm;cases x with
   |inl s'=>unfold cR at h;grind
   |inr b=>cases h;omega
  |more op nd ds=>rw[hm] at h;cases h
  |bad q=>rw[hm] at h;cases h
  |deep q=>rw[hm] at h;cases h
theorem ab_{p:Tok->Bool}{w:Nat}{dm:ae Unit}(c:ar dm){r:H}{F:ah}{a:Unit}{r':H}{b:ah}(h:q1 p w dm r F= .ok a r' b):r'.length<=r.length:=by unfold q1 at h;refine apR (λs r F x r' b h=>?_) _ _ _ _ _ _ _ (cF _) h;have M:ar (N (bV []) λt=>if p t=true then N (b6 w) λ_=>N (c2.aM [120]) λ_=>N dm λ_=>(a1 (.inl ()):ae (Unit⊕Unit)) else a1 (.inr ())):=(ar.dR _).N λt=>ar.ite ((ar.dA _).N λ_=>(ar.lines.aM _).N λ_=>c.N λ_=>ar.ret _) (ar.ret _);exact(M.sfx h).length_le
theorem apS{n:Nat}{r:H}{F:ah}{a:Unit}{r':H}{c:ah}(h:fu (fG true (jU true n) (a9 true n)) r F= .ok a r' c):r'.length<r.length:=by
 rw[UW] at h;have d:ar (fG true (jU true n) (a9 true n)):=ar.command (λl ay=>JV n l ay) (mL true n);obtain⟨t,ad,k,M,U⟩:=bY h;obtain⟨e,rfl,rfl⟩:=n5 M;have m:=(ef e).length_le;obtain⟨_,f,o,b,g⟩:=bY U;have ak:f.length<=ad.length:=by
  split at b
  ·cases b;simp
  ·cases b;omega
 obtain⟨_,p,q,i,j⟩:=bY g;have a3:=apQ i;have s:=ab_ d j;omega
theorem apT{n:Nat}{r:H}{F:ah}{a:Unit}{r':H}{b:ah}(h:h2 (fu (fG true (jU true n) (a9 true n))) r F= .ok a r' b):r'.length<r.length:=by rw[UX] at h;have c:ar (fu (fG true (jU true n) (a9 true n))):=ar.pipe (ar.command (λl ay=>JV n l ay) (mL true n));obtain⟨_,f,g,d,e⟩:=bY h;have a3:=apS d;have i:=ab_ c e;omega
def uy(no:Bool)(k:Nat):H:=if no||k>0 then [] else [120]
theorem Oi{no:Bool}{k:Nat}(st:Z):wX (!no) ((k:Int),st)=if no||k>0 then some ((k:Int),st) else aw (gZ st [] [120]) λy=>some ((k:Int),y):=by unfold wX;grind
theorem U1{e:cm}{r r0:H}{nd:H}{ds:ah}{st:Z}{a:ah}{no:Bool}{k:Nat}{q:Bool}(h0:cI e r a)(hm:jb false e r nd ds st)(h:r<:+r0)(c:nd.length+eC ds<=100*e.S.length+500):∃b,wX (!no) ((k:Int),st)=some b/\jb q e r0 (cW nd ds (uy no k)).1 (cW nd ds (uy no k)).2 b.2:=by
 rw[Oi];unfold uy;split
 ·exact⟨_,rfl,(hm.mono h).up⟩
 ·obtain⟨d,f,g⟩:=Gm (q:=q) (x:=[120]) h0 hm h c (by decide);simp_all[aR]
theorem aca{e:cm}{r:H}{st:Z}{no:Bool}{k:Nat}(hm:jk e r st):wX (!no) ((k:Int),st)=some ((k:Int),st):=by
 rw[Oi];split
 ·rfl
 ·rw[su hm];rfl
section
variable{R:bj}{n:Nat}(g9:∀k m,n=m+1+k->k_ R m/\o5 R m)(hD:k_ R n)(au:n<=30){e:cm}(bf:e.ne=30- (n:Int)){c:Ctx}{no:Bool}(az:uw c no=true)
noncomputable abbrev Oj(R:bj)(c:Ctx)(no:Bool):(Int×Z->Option (Int×Z))->Int×Z->Option (Int×Z):=AU R (jV c) (pA c) (!no) (wX (!no))
abbrev vz(n:Nat):ae Unit:=h2 (fu (fG true (jU true n) (a9 true n)))
include az
theorem acb(h:c= .text):no=true:=by grind[uw,x2]
theorem acd{k:Int×Z->Option (Int×Z)}{m:Nat}{r:H}{d F:ah}(h:cI e r d)(j:eC F<=100*e.S.length+400):∃b,Of R (jV c) (pA c) (!no) (wX (!no)) k (m:Int) (e.tt F)=some b/\jb (decide (c= .text)) e r (cW [] F (uy no m)).1 (cW [] F (uy no m)).2 b.2:=by
 unfold Of;rw[pB,aR rfl];simp only[aL];by_cases a:c= .text
 ·have f:=acb az a;subst a f;have av:decide (jV .text=[])=true:=rfl;rw[av,Oi];exact⟨((m:Int),e.tt F),rfl,.inr ⟨rfl,rfl,rfl⟩⟩
 ·have av:decide (jV c=[])=false:=by cases c<;>first|rfl|grind
  rw[av,eE a];simp only[fo,aL];obtain⟨l,g,i⟩:=Gq (F:=F) (x:=[]) h (by omega) (by simp);rw[g,aR rfl];exact U1 h i.s fq (by grind)
theorem apU{bw m:Nat}{r:H}{a F:ah}(i:0<bw)(h:cI e r a)(d:eC F<=100*e.S.length+400):∃b,fixF (Oj R c no) bw ((m:Int),e.tt F)=some b/\jb (decide (c= .text)) e r (cW [] F (uy no m)).1 (cW [] F (uy no m)).2 b.2:=by
 obtain⟨f,rfl⟩:∃m,bw=m+1:=⟨bw-1,by omega⟩
 rw[fl];show∃b,AU R (jV c) (pA c) (!no) (wX (!no)) _ ((m:Int),e.tt F)=some b/\_
 rw[U0];have g:(e.tt F).2.2.2.2.1=0:=rfl;rw[g,Dj,aR rfl];simp only[bA,aL];exact acd az h d
theorem apW{bw:Nat}{m:Int}{st:Z}(b:0<bw)(h:st.2.2.2.2.1≠0):fixF (Oj R c no) bw (m,st)=wX (!no) (m,st):=by
 obtain⟨a,rfl⟩:∃m,bw=m+1:=⟨bw-1,by omega⟩
 rw[fl];show AU R (jV c) (pA c) (!no) (wX (!no)) _ (m,st)=_;simp_all[U0]
include g9 hD au bf
theorem apX:∀(bw m:Nat)(r:H)(F:ah)(st:Z),r.length+1<bw->m+r.length<=1000001->cI e r F->gA e r F st->bR (decide (c= .text)) e r (ux (vz n) c no m r F) (λb=>b.2) (λa _ b=>b.1=(a:Int)) (fixF (Oj R c no) bw ((m:Int),st)):=by
 intro bw;induction bw with
 |zero=>omega
 |succ bw V=>
  intro m r F st fx hm D E;have M:0<bw:=by omega
  rw[fl];have DC:∀(m:Nat)(r:H)(gL F:ah),cI e r gL->eC F<=100*e.S.length+400->_:=λm r gL F h Y=>apU (R:=R) (bw:=bw) (m:=m) az M h Y
  have bZ:∀(m:Int)(st:Z),st.2.2.2.2.1≠0->_:=λm st h=>apW (R:=R) (bw:=bw) (m:=m) az M h
  generalize fixF (Oj R c no) bw=k at V DC bZ;show bR _ e r _ _ _ (AU R (jV c) (pA c) (!no) (wX (!no)) k ((m:Int),st));rw[U0,E.eta.2.2.2.2.1];simp only[bA,aL];obtain⟨y,uP,bl⟩:=x_ D E;rw[uP,aR rfl,Gw bl E];rcases bl with⟨aC,ai,O,rfl,hG,i,z,iK⟩|⟨O,rfl⟩
  ·have Bb:=z.length_le;unfold Of;rw[qZ,aR rfl,Ge i];by_cases aa:aC=[]
   ·subst aa;simp only[bA,aL];rw[Oh O (by decide)];rw[cz];by_cases an:c= .text
    ·have km:=acb az an;subst an km;have av:decide (jV .text=[])=true:=rfl;have P:dS (vz n) .text true m [] F= .ok (.inr m) [] F:=by unfold dS;rw[aS (cu iK)];rfl
     rw[av,Oi,P];exact⟨_,rfl,z,i,⟨ai,rfl,hG⟩,rfl⟩
    ·have av:decide (jV c=[])=false:=by cases c<;>first|rfl|grind
     have P:dS (vz n) c no m [] F= .more [] (cW [] F (uy no m)).1 (cW [] F (uy no m)).2:=by unfold dS;rw[aS (cu iK),bc (by decide),aO an];rfl
     rw[av,P];simp only[fo,aL];obtain⟨aK,aY,ba⟩:=vv (ai:=ai) (x:=[]) i (by decide);rw[aY,aR rfl];have:=i.kf;obtain⟨b,A,p⟩:=U1 (no:=no) (k:=m) (q:=decide (c= .text)) i ba.s z (by show([]:H).length+eC F<=_;omega);exact⟨b,A,p⟩
   ·rw[eE aa];simp only[aW];rw[aR rfl];have qf:aq aC≠ .eof:=λhh=>aa (mA.1 hh);have dI:=i.nl.iE i.sfx;cases aC with
    |nil=>grind
    |cons b t=>
     simp only[zY,qd];by_cases JT:b=10
     ·
      subst JT;simp only[bA,aL];rw[apN O];obtain⟨bN,bt,j⟩:=aaU (q:=false) (ai:=ai) i;rw[bt,aR rfl];have h6:=aJ.low (aJ.nl (c:=0)) i;cases s:jt (10::t) F with
      |ok a ad aH=>rw[s] at j;obtain⟨cx,ak,a3,_⟩:=j;rw[aS (qj s)];have kA:=(T3 s).1.length_le;simp only[j5] at Bb;exact(V m ad aH bN (by omega) (by omega) ak a3).mono (cx.trans z)
      |more op nd ds=>rw[s] at j;rw[dt (tk s),bZ _ _ (by rw[j.z.1];decide)];have Y:=h6 _ _ _ s;obtain⟨G,A,p⟩:=U1 (no:=no) (k:=m) (q:=decide (c= .text)) i j z (by omega);exact⟨G,A,p⟩
      |bad u=>rw[s] at j;rw[hq (vw s),bZ _ _ (by rw[j.1];decide),aca j];exact⟨_,rfl,j.mono z⟩
      |deep u=>rw[s] at j;rw[ki (vx s),bZ _ _ (by rw[j.1];decide),aca j];exact⟨_,rfl,j.mono z⟩
     ·simp only[JT,bG,aW];have apY:aq (b::t)≠ .line:=by rw[x1,aO JT];grind
      rw[Oh O apY,ss i,aR rfl,wR i,aR rfl,NB _ _ (by cases c<;>decide),gy,apH az dI aa m _ rfl];rw[cz]
      have U2:∀X,(X=dS (vz n) c no m (b::t) F)->X=(if((no||decide (m>0))&&d_ c (aq (b::t)))=true then a1 (.inr m) else N (vz n) λ_=>N (bV []) (hU c m)) (b::t) F:=by rintro X rfl;unfold dS;rw[aS (cu iK),aO qf]
      rw[U2 _ rfl];cases auv:((no||decide (m>0))&&d_ c (aq (b::t))) with
      |true=>simp only[aL,cK];exact⟨_,rfl,z,i,⟨ai,rfl,hG⟩,rfl⟩
      |false=>
       simp only[aW,eQ,cA];unfold ab7;have Q:W ((m:Int)+1)=((m+1:Nat):Int):=by grind[dJ]
       refine bR.iZ (C:=cR _ (b::t)) c_.k ((apF g9 hD au bf i ⟨ai,rfl,hG⟩).mono z) (λa cB d ja bM i_ fe zH _=>?_) (λop nd ds ja Dr n2=>?_) (λja jL=>?_)
       ·have e_:=apT bM;rw[zH.eta.2.2.2.2.1];simp only[bA,hI,aW];obtain⟨lB,apZ,Lo⟩:=x_ fe zH;rw[apZ,aR rfl,Gw Lo zH];unfold UZ;rw[Q];rcases Lo with⟨S,l,ft,rfl,NY,w,vu,zJ⟩|⟨ft,rfl⟩
        ·have auw:=vu.length_le;have K:S<:+r:=vu.trans i_;have n_:S.length<(b::t).length:=by omega
         have L:=V (m+1) S d (e.st S d l) (by omega) (by omega) w ⟨l,rfl,NY⟩;rw[aS (cu ft),ss w,aR rfl,qZ,aR rfl,Ge w];have auy:(no||decide (m+1>0))=true:=by simp
         cases S with
         |nil=>
          simp only[bA,cZ,uE,cA,aL];rw[Oh (ad:=[]) zJ (by decide)] at L;have:cR (dS (vz n) c no) (b::t) (hU c m (aq []) [] d)=b8 (dS (vz n) c no) (m+1) [] d:=by rfl
          rw[this];exact L.mono K
         |cons g f=>
          rw[eE (show¬(g::f=[]) by simp),gy];simp only[cK,aW,zY,qd]
          have te:∀(x:H)(Ok:ah),x.length<(b::t).length->cR (dS (vz n) c no) (b::t) (N c2 (λ_=>a1 (.inl (m+1))) x Ok)=ux (vz n) c no (m+1) x Ok:=by
           intro x Ok E;unfold ux;rw[bc (by simp)];cases B:c2 x Ok with
           |ok fj eY lK=>rw[aS B,aS (qj B)];have bn:=(ar.lines.sfx B).length_le;show(if eY.length<(b::t).length then b8 (dS (vz n) c no) (m+1) eY lK else .bad eY)=_;grind
           |more op nd ds=>rw[dt B,dt (tk B)];rfl
           |bad q=>rw[hq B,hq (vw B)];rfl
           |deep q=>rw[ki B,ki (vx B)];rfl
          have rT:∀X:dp Nat,X= .bad (g::f)->bR (decide (c= .text)) e r X (λb=>b.2) (λa _ b=>b.1=(a:Int)) (aw (h9 (e.st (g::f) d l) (e.st (g::f) d l).2.1) λ(I:Z)=>
            some (((m+1:Nat):Int),(I.1,I.2.1,I.2.2.1,(e.st (g::f) d l).2.2.2.1,I.2.2.2.2.1,I.2.2.2.2.2.1,I.2.2.2.2.2.2.1,(e.st (g::f) d l).2.2.2.2.2.2.2.1,I.2.2.2.2.2.2.2.2))):=by
           rintro X rfl;obtain⟨aK,aY,ba⟩:=qi (ai:=l) (e.st (g::f) d l).2.1 w K;rw[aY,aR rfl];exact⟨_,rfl,by cases aY;exact ba⟩
          rcases JE (b:=g) (t:=f) with⟨T,U⟩|⟨T,U,J⟩|⟨T,U,J⟩
          ·subst T;simp only[bA,aL];rw[U];show bR _ e r (cR _ (b::t) (N c2 (λ_=>a1 (.inl (m+1))) (10::f) d)) _ _ _;rw[te _ _ n_];exact L.mono K
          ·simp only[T,bG,aW];rw[apJ az (w.nl.iE w.sfx) J,J];unfold hU;dsimp only;by_cases lN:bs (g::f)=[59]\/bs (g::f)=[38]
           ·have ky:d_ c (.op (bs (g::f)))=false:=by rcases lN with lN|lN<;>rw[lN]<;>cases c<;>rfl
            rw[ky,bc lN];have yG:(bif !decide (bs (g::f)=[59]) then !decide (bs (g::f)=[38]) else false)=false:=by grind
            rw[yG];simp only[aW];have S7:(bs (g::f)).length=1:=by grind
            obtain⟨v,D⟩:=(h4 J).2.1;have ap0:=(h4 J).2.2.1;have ap1:=(h4 J).2.2.2;generalize bs (g::f)=o at*;rw[<-D] at w n_ K⊢;have g3:v<:+o++v:=fO o v;have lq:setAt (e.st (o++v) d l) (W ((e.st (o++v) d l).2.1+1))=e.st v d l:=tl w 1 S7;have UU:b6 1 (o++v) d= .ok () v d:=by grind[b6]
            have To:=g3.length_le;rw[lq,aS UU,te _ _ (by omega)];have tf:=w.uu ap1 ap0;exact(V (m+1) v d (e.st v d l) (by omega) (by omega) (w.mono g3) ⟨l,rfl,λhh=>absurd hh tf⟩).mono (g3.trans K)
           ·rw[aO lN];have yG:(bif !decide (bs (g::f)=[59]) then !decide (bs (g::f)=[38]) else false)=true:=by grind
            rw[yG];cases ky:d_ c (.op (bs (g::f))) with
            |true=>
             simp only[aL,cK];rw[Oh zJ (by grind),cz] at L;have P:dS (vz n) c no (m+1) (g::f) d= .ok (.inr (m+1)) (g::f) d:=by unfold dS;rw[aS (cu zJ),if_neg (by grind),if_pos (by grind)];rfl
             rw[P] at L;exact L.mono K
            |false=>simp only[cond_false,cond_true,Bool.false_eq_true,if_false];exact rT _ rfl
          ·simp only[T,decide_false,cond_false];rw[apK U,J,U];simp only[cond_false];exact rT _ rfl
        ·rw[dt (op:=[]) (nd:=[]) (ds:=d) (by rw[iY ft];rfl),Gf d D.b7,aR rfl,pB,aR rfl];simp only[cZ,uE,cA,aL];have:=fe.kf;obtain⟨G,A,p⟩:=DC (m+1) cB d d fe (by omega);have E:uy no (m+1)=[]:=by simp[uy]
         rw[E] at p;exact⟨G,A,p.mono i_⟩
       ·rcases n2 with n2|⟨_,rfl,Y⟩
        ·rw[n2.1];simp only[show¬((1:Int)=0) by decide,bG,fo,aL];exact⟨_,rfl,.inl n2⟩
        ·subst Y;have jv:(e.tt ds).2.2.2.2.1=0:=rfl;rw[jv,Dj,aR rfl];simp only[bA,hI,aW];have Jm:((e.tt ds).1,(e.tt ds).2.1,(e.tt ds).2.2.1,(e.tt ds).2.2.2.1,(e.tt ds).2.2.2.2.1,(e.tt ds).2.2.2.2.2.1,(e.tt ds).2.2.2.2.2.2.1,(e.tt ds).2.2.2.2.2.2.2.1,(e.tt ds).2.2.2.2.2.2.2.2)=e.tt ds:=rfl;rw[Jm];unfold UZ;rw[Gf ds D.b7,aR rfl,pB,aR rfl,Q];simp only[cZ,uE,cA,aL];have ue:=aJ.low (aJ.qc (ab6 g9 hD au bf).pb) i _ _ _ Dr;obtain⟨G,A,p⟩:=DC (m+1) r F ds D (by omega);have E:uy no (m+1)=[]:=by simp[uy]
         rw[E] at p;exact⟨G,A,p⟩
       ·rw[jL.1];grind
  ·rw[apL O];have:=D.kf;obtain⟨G,A,p⟩:=acd (R:=R) (m:=m) (k:=k) az D (F:=F) (by omega);exact⟨G,A,p⟩
end
theorem ap2(n:Nat)(c:Ctx)(no:Bool):(aU true n).ls c no=oZ (vz n) c no:=by cases n<;>rfl
theorem acg{R:bj}{n:Nat}(g9:∀k m,n=m+1+k->k_ R m/\o5 R m)(hD:k_ R n)(au:n<=30){e:cm}(bf:e.ne=30- (n:Int)){c:Ctx}{no:Bool}(az:uw c no=true){r:H}{F:ah}{st:Z}(h:cI e r F)(d:gA e r F st):bR (decide (c= .text)) e r ((aU true n).ls c no r F) (λb=>b.2) (λa _ b=>b.1=(a:Int)) (Fg R st (jV c) (pA c) (!no)):=by rw[ap2,apO,apG];have M:=h.b7;have U:=h.sfx.length_le;grind[apX,wQ]
theorem U3:∀(k n:Nat),n<=30->(2*n+1<=k->k_ (lj k) n)/\(2*n+2<=k->o5 (lj k) n):=by
 intro k;induction k with
 |zero=>omega
 |succ k a=>
  intro n au;refine⟨λh=>⟨λe bf t F ai b=>?_⟩,λh=>⟨λe c no az bf r F st b d=>?_⟩⟩
  ·exact anU (R:=lj k) (λm hm=>⟨(a m (by omega)).1 (by omega),(a m (by omega)).2 (by omega)⟩) au bf b
  ·have f:decide (c= .text)=false:=eE (by rintro rfl;cases az);have:=acg (R:=lj k) (λj m hm=>⟨(a m (by omega)).1 (by omega),(a m (by omega)).2 (by omega)⟩) ((a n au).1 (by omega)) au bf (c:=c) (no:=no) (by grind[uw]) b d;rw[f] at this;exact this
theorem U4(s:H):dK (c8 s):=by
 unfold c8;split
 ·rename_i h;right;rcases List.eq_nil_or_concat s with rfl|⟨t,b,rfl⟩
  ·grind
  grind
 ·exact .inr ⟨s,rfl⟩
theorem Ol(s:H):c8 s≠[]:=by
 unfold c8;split
 ·grind
 ·simp
theorem ap3(s:H)(Y:s.length<=1000000)(b:Bool):(bif b then some s else(a4 (((s.length+([10]:H).length:Nat):Int)<=9223372036854775807)<|some (s++([10]:H))))=some (bif b then s else s++[10]):=by
 cases b with
 |true=>rfl
 |false=>exact(aW _ _).trans (aaL s Y)
theorem ap4(s:H)(Y:s.length<=1000000):IQ s=some (c8 s):=by
 unfold IQ;rw[ap3 s Y];unfold c8;rcases List.eq_nil_or_concat s with rfl|⟨t,b,rfl⟩
 ·decide
 ·rw[List.concat_eq_append] at*;have ay:(t++[b]).length=t.length+1:=by simp
  have a:W (((t++[b]).length:Int)-1)=(t.length:Int):=by grind[dJ]
  have c:at' (t++[b]) (t.length:Int)=b:=by simp[at']
  simp only[a,c,qd];rw[b1 (by omega)];simp
def e0(S:H):cm:=⟨S,0⟩
theorem ap5{s:H}(Y:(c8 s).length<=1000000):bR true (e0 (c8 s)) (c8 s) (f_ true 30 (c8 s)) (λb=>b.2) (λa _ b=>b.1=(a:Int)) (rz.ot (c8 s,0,0,([]:ah),0,0,[],([]:bx),false) ([]) ([]:bx) false):=by
 have av:∃k,bD=k+1/\62<=k:=by
  refine⟨bD-1,?_,?_⟩
  ·rw[gD]
  simp[gD]
 obtain⟨k,av,d⟩:=av;have f:cI (e0 (c8 s)) (c8 s) []:=⟨Y,U4 s,Ol s,fq,by simp[e0,eC,mh]⟩;have:=acg (R:=lj k) (n:=30) (e:=e0 (c8 s)) (λj m hm=>⟨(U3 k m (by omega)).1 (by omega),(U3 k m (by omega)).2 (by omega)⟩) ((U3 k 30 (by omega)).1 (by omega)) (cF _) (show(0:Int)=30- ((30:Nat):Int) by decide) (c:= .text) (no:=true) rfl f (st:=(e0 (c8 s)).st (c8 s) [] false) ⟨false,rfl,λh=>absurd h (Ol s)⟩;have g:(e0 (c8 s)).st (c8 s) [] false=(c8 s,0,0,([]:ah),0,0,[],([]:bx),false):=by show(c8 s,ax (c8 s) (c8 s),(0:Int),([]:ah),(0:Int),(0:Int),([]:H),([]:bx),false)=_;rw[Ja]
 rw[g] at this;have i:rz.ot (c8 s,0,0,([]:ah),0,0,[],([]:bx),false) [] [] false=Fg (lj k) (c8 s,0,0,([]:ah),0,0,[],([]:bx),false) [] [] false:=by unfold rz;rw[av];rfl
 rw[i];exact this
theorem ap6{fr:Bool}{m:Nat}{u:H}{k:Nat}{r:H}{F:ah}(hu:dK u)(d:u≠[])(h:f_ fr m u= .ok k r F):r=[]/\F=[]:=by
 have e:=Zo h;subst e;refine⟨rfl,?_⟩;unfold f_ at h;rw[s_,o0] at h;obtain⟨b,ad,g,M,U⟩:=bY h;have a:=h3.1 M;by_cases c:ad=[]
 ·subst c;rw[rG] at a;obtain⟨i,_,_⟩:=Zd _ _ _ _ _ _ (cF _) hu d a;grind[cz,I5,cR]
 ·have f:dK ad:=hu.iE (ar.lines.sfx a);exact(Zf fr m .text true _ _ _ _ _ _ (cF _) f c U).1
noncomputable def Om(c:Int):Z->Option (Z×Int):=λx=>
 (bif(!(decide (x.2.2.2.2.1=2))) then some ((x.1,x.2.1,x.2.2.1,x.2.2.2.1,x.2.2.2.2.1,(x.1.length:Int),x.2.2.2.2.2.2.1,x.2.2.2.2.2.2.2.1,x.2.2.2.2.2.2.2.2),c) else some ((x.1,x.2.1,x.2.2.1,x.2.2.2.1,x.2.2.2.2.1,x.2.2.2.2.2.1,x.2.2.2.2.2.2.1,x.2.2.2.2.2.2.2.1,x.2.2.2.2.2.2.2.2),c))
noncomputable def GA(c:Int):Z->Option (Z×Int):=λx=>
 (bif(decide (x.2.2.2.2.1=1)) then(aw (xA x ([10]:H)) λ(a:Z)=>Om c a) else Om c x)
theorem ap7(s:H):CY s=(aw (IQ s) λ(a:H)=>
 (aw (rz.ot (a,0,0,([]:ah),0,0,[],([]:bx),false) ([]) ([]:bx) false) λy=>
 (bif(bif(decide (y.2.2.2.2.2.1=0)) then(bif y.2.2.2.2.2.2.2.2.2 then true else(decide (0<(y.2.2.2.2.1.length:Int)))) else false) then
 (aw (hS y.2 ([])) λ(b:Z)=>GA y.1 b) else GA y.1 y.2))):=rfl
theorem ach{e:cm}{r:H}{nd:H}{ds:ah}{st:Z}{c:Int}(m:e.S.length<=1000000)(hm:oK e r nd ds st):∃y,GA c st=some y/\y.1.2.2.2.2.1=1/\y.1.2.2.2.2.2.2.1=(cW nd ds [10]).1/\y.1.2.2.2.2.2.1=(e.S.length:Int):=by obtain⟨a,b,i,d,T0,f,g,op,ai⟩:=st;obtain⟨M,U,j,k,n⟩:=hm;have h:=k.nd;have Y:=k.s;simp only at M U j h Y;subst M U j Y;have o:=uo d;have l:xA (e.S,b,i,d,1,f,g,op,ai) [10]=some (e.S,b,i,(cW g d [10]).2,1,f,(cW g d [10]).1,op,ai):=Dk _ _ _ _ _ _ _ _ _ _ (by simp) (by grind) (by omega);unfold GA;simp only[bA,aL];rw[l,aR rfl];exact⟨_,rfl,rfl,rfl,rfl⟩
theorem ap8{s:H}(Y:(c8 s).length<=1000000):match f_ true 30 (c8 s) with
  | .ok a _ _=>∃st,CY s=some (st,(a:Int))/\st.2.2.2.2.1=0/\st.2.2.2.2.2.1=((c8 s).length:Int)
  | .more _ nd ds=>∃st c,CY s=some (st,c)/\st.2.2.2.2.1=1/\st.2.2.2.2.2.2.1=(cW nd ds [10]).1/\st.2.2.2.2.2.1=((c8 s).length:Int)
  |_=>∃st c,CY s=some (st,c)/\st.2.2.2.2.1=2:=by
 have ay:s.length<=(c8 s).length:=by grind[c8]
 have h:=ap5 Y;rw[ap7,ap4 s (by omega),aR rfl];have f:=(um true 30).ls .text true (c8 s) [];obtain⟨b,o,h⟩:=h;obtain⟨c,st⟩:=b;rw[o,aR rfl];have p:(aU true 30).ls .text true (c8 s) []=f_ true 30 (c8 s):=rfl;rw[p] at f;cases aE:f_ true 30 (c8 s) with
 |ok a r F=>rw[aE] at h;obtain⟨M,U,⟨ai,g,t⟩,n⟩:=h;obtain⟨rfl,rfl⟩:=ap6 (U4 s) (Ol s) aE;dsimp only at g n;have:=t rfl;subst this g n;exact⟨_,rfl,rfl,rfl⟩
 |more op nd ds=>
  rw[aE] at h f;simp only[ep] at f;dsimp only at h⊢;have u:eC ([]:ah)=0:=rfl;rw[u] at f;rcases h with h|⟨_,rfl,g⟩
  ·have d:oK (e0 (c8 s)) (c8 s) nd ds st:=h;rw[d.1];simp only[show¬((1:Int)=0) by decide,bG,aW];obtain⟨y,i,j,k,l⟩:=ach (c:=c) (e:=e0 (c8 s)) Y d;exact⟨y.1,y.2,i,j,k,l⟩
  ·subst g;have v:((e0 (c8 s)).tt ds).2.2.2.2.1=0:=rfl;have m:((e0 (c8 s)).tt ds).2.2.2.2.2.2.2.2=true:=rfl;rw[v,m];simp only[bA,aL];have w:cI (e0 (c8 s)) (c8 s) []:=⟨Y,U4 s,Ol s,fq,by simp[e0,eC,mh]⟩;obtain⟨B,z,A⟩:=Gq (F:=ds) (x:=[]) w (by show _<=100*(c8 s).length+800;omega) (by simp);rw[z,aR rfl];obtain⟨y,i,j,k,l⟩:=ach (c:=c) (e:=e0 (c8 s)) Y A;exact⟨y.1,y.2,i,j,k,l⟩
 |bad q=>rw[aE] at h;have d:jk (e0 (c8 s)) (c8 s) st:=h;dsimp only;rw[d.1];simp only[show¬((2:Int)=0) by decide,bG,aW];unfold GA;rw[d.1];simp only[show¬((2:Int)=1) by decide,bG,aW];unfold Om;rw[d.1];simp
 |deep q=>rw[aE] at h;have d:jk (e0 (c8 s)) (c8 s) st:=h;dsimp only;rw[d.1];simp only[show¬((2:Int)=0) by decide,bG,aW];unfold GA;rw[d.1];simp only[show¬((2:Int)=1) by decide,bG,aW];unfold Om;rw[d.1];simp
abbrev dH:=H×Int×Int
structure eJ(I:H)(st:dH):Prop where
 c:st.1=I
 lo:0<=st.2.1
 bh:st.2.1<=I.length
 b7:I.length<=1048576
theorem On(a:Int):0<=W (((BitVec.ofInt (IntKind.bits .i64) a&&&BitVec.ofInt (IntKind.bits .i64) 255).toNat:Int))/\W (((BitVec.ofInt (IntKind.bits .i64) a&&&BitVec.ofInt (IntKind.bits .i64) 255).toNat:Int))<256:=by
 have h:(BitVec.ofInt (IntKind.bits .i64) a&&&BitVec.ofInt (IntKind.bits .i64) 255).toNat<256:=by grind[BitVec.ofInt,IntKind.bits,Nat.and_le_right]
 grind[dJ]
theorem JX{I:H}{st:dH}(h:eJ I st):∃v e,zi st=some (v,e)/\0<=v/\v<256/\eJ I e:=by
 obtain⟨a,b,c⟩:=st;obtain⟨rfl,M,U,d⟩:=h;simp only at M U d;unfold zi a7;dsimp only;by_cases ay:b<(a.length:Int)
 ·rw[decide_eq_true ay];simp only[aL];rw[b1 ⟨M,ay⟩];have f:W (b+1)=b+1:=dJ (by omega) (by omega);rw[f];exact⟨_,_,rfl,(On _).1,(On _).2,rfl,by grind,by grind,d⟩
 ·rw[eE ay];simp only[aW];exact⟨_,_,rfl,(On _).1,(On _).2,rfl,M,U,d⟩
theorem sv{I:H}{st:dH}(h:eJ I st){n:Int}(M:1<=n)(U:n<=256):∃v d,h_ st n=some (v,d)/\0<=v/\v<n/\eJ I d:=by unfold h_;obtain⟨v,d,f,g,i,e⟩:=JX h;rw[eE (show¬n<=0 by omega),decide_eq_true U];simp only[aW,aL];rw[f,aR rfl];dsimp only;rw[b1 (show n≠0 by omega)];refine⟨_,_,rfl,Int.tmod_nonneg _ g,Int.tmod_lt_of_pos _ (by omega),?_⟩;obtain⟨a,b,c⟩:=d;exact⟨h.c,e.lo,e.bh,e.b7⟩
theorem aci(I:H)(e:I.length<=1048576):∃st,Fl I=some st/\eJ I (I,st.2.1,st.2.2):=by
 have ay:∀(bw:Nat)(a b:Int),0<=b->b<=4000->(4000-b)<bw->∃c,fixF (St I (λf=>some (I,0,f))) bw (a,b)=some (I,0,c):=by
  intro bw;induction bw with
  |zero=>omega
  |succ bw g=>
   intro a b h0 M h;rw[fl];unfold St;dsimp only;by_cases d:b<(I.length:Int)/\b<4000
   ·rw[decide_eq_true d.1,decide_eq_true d.2];simp only[aL];rw[b1 ⟨h0,d.1⟩];have i:W (b+1)=b+1:=dJ (by omega) (by omega);rw[i];exact g _ _ (by omega) (by omega) (by omega)
   ·have:(bif decide (b<(I.length:Int)) then decide (b<4000) else false)=false:=by grind
    rw[this];simp
 unfold Fl a7;obtain⟨c,az⟩:=ay bD (W (600128+(I.length:Int))) 0 (by omega) (by omega) (by simp[gD]);exact⟨_,az,rfl,sz 0,by simp,e⟩
def GB:bx:=[([97]:H),([98,49]:H),([120,61,49]:H),([102,105,108,101]:H),([195,169]:H),([105,110]:H),([97,35,98]:H)]
def nn:bx:=[[39,113,32,114,39],[34,97,32,98,34],[97,92,32,98],[36,120],[36,40,40,49,43,40,50,41,41,41],[96,99,32,100,96],[45,108],[97,92,10,98]]++GB
def q3:bx:=[([108,115]:H),([101,99,104,111]:H),([99,97,116]:H),([120,61,49]:H)]
def jl:bx:=[([32,38,38,32]:H),([32,124,124,32]:H),([32,124,32]:H),([59,32]:H),([32,38,32]:H),([10]:H),([32,124,10]:H),([59,32,35,32,114,10]:H)]
def acj(L W:H->Prop)(w:H):Prop:=w∈nn\/(∃t,L t/\(w=[36,40]++t++[41]\/w=[34,120,36,40]++t++[41,34]))\/∃v,W v/\w=[36,123,120,58,45]++v++[125]
def jc(ws:bx):H:=ws.flatMap (λw=>32::w)
def qm(W a:H->Prop)(s:H):Prop:=∃h ws r,h∈q3/\(∀w∈ws,W w)/\s=h++jc ws++r/\(r=[]\/r=[32,50,62,38,49]\/∃w,a w/\r=[32,62]++w)
def tm(L W:H->Prop)(c:H):Prop:=
 (∃t,L t/\c=[40]++t++[41])\/
 (∃t,L t/\c=[123,32]++(t++[10])++[125])\/
 (∃t u,L t/\L u/\c=[105,102,32]++(t++[59])++[32,116,104,101,110,32]++(u++[10])++[102,105])\/
 (∃t u,L t/\L u/\c=[105,102,32,97,59,32,116,104,101,110,10]++(t++[10])++[101,108,105,102,32,98,10,116,104,101,110,32,99,10,101,108,115,101,32]++(u++[59])++[102,105,32,50,62,102])\/
 (∃t u,L t/\L u/\c=[119,104,105,108,101,32]++(t++[10])++[100,111,32]++(u++[59])++[32,100,111,110,101])\/
 (∃w u,W w/\L u/\c=[102,111,114,32,120,32,105,110,32,97,32]++w++[59,32,100,111,32]++(u++[59])++[100,111,110,101])\/
 c=[102,111,114,32,120,10,100,111,32,97,10,100,111,110,101]\/
 (∃w u,W w/\L u/\c=[99,97,115,101,32]++w++[32,105,110,32,97,124,98,41,32]++(u++[])++[59,59,10,40,99,41,32,59,59,32,100,41,32,101,115,97,99])\/
 (∃t,L t/\c=[102,40,41,32,123,10]++(t++[10])++[125,32,62,102])
def cN(l:List (H×H)):H:=l.flatMap (λp=>p.1++p.2)
def rV(C:H->Prop)(t:H):Prop:=∃c rest,C c/\(∀p∈rest,p.1∈jl/\C p.2)/\t=c++cN rest
def Bp:Nat->(H->Prop)×(H->Prop)
 |0=>(λw=>w∈nn,rV (qm (λw=>w∈nn) (λw=>w∈nn)))
 |d+1=>(acj (Bp d).2 (Bp d).1,rV λc=>qm (acj (Bp d).2 (Bp d).1) (λw=>w∈nn) c\/tm (Bp d).2 (Bp d).1 c)
def fU(d:Nat):H->Prop:=(Bp d).1
def gi(d:Nat):H->Prop:=(Bp d).2
def zR:Nat->H->Prop
 |0=>qm (fU 0) (fU 0)
 |d+1=>λc=>qm (fU (d+1)) (fU 0) c\/tm (gi d) (fU d) c
theorem Oo(d:Nat):gi d=rV (zR d):=by cases d<;>rfl
theorem ack{d:Nat}{w:H}(h:w∈nn):fU d w:=by
 cases d with
 |zero=>exact h
 |succ d=>exact .inl h
def lens:Nat->Nat×Nat
 |0=>(10,200)
 |d+1=>let w:=(lens d).2+(lens d).1+10;(w,3*(2*(lens d).2+(lens d).1+2*w+80)+20)
def lw(d:Nat):Nat:=(lens d).1
def o6(d:Nat):Nat:=(lens d).2
def lc:Nat->Nat
 |0=>60
 |d+1=>2*o6 d+lw d+2*lw (d+1)+80
theorem U5(d:Nat):lw (d+1)=o6 d+lw d+10:=rfl
theorem ap_(d:Nat):o6 d=3*lc d+20:=by cases d<;>rfl
theorem qn{d:Nat}(h:d<=3):lw d<=40000/\o6 d<=460000/\lc d<=160000/\10<=lw d:=by
 match d,h with
 |0,_=>decide
 |1,_=>decide
 |2,_=>decide
 |3,_=>decide
def pE(R:bj)(d:Nat):Prop:=∀(I:H)(st:dH),eJ I st->∃t a,R.ou st (d:Int)=some (t,a)/\fU d t/\t.length<=lw d/\eJ I a
def DD(R:bj)(d:Nat):Prop:=∀(I:H)(st:dH)(sfx:H),sfx.length<=1->eJ I st->∃t a,R.hv st (d:Int) sfx=some (t++sfx,a)/\gi d t/\t.length<=o6 d/\eJ I a
theorem kS{n:Nat}(h:n<=100000000):((n:Nat):Int)<=9223372036854775807:=by omega
theorem wZ{d:Nat}(h:d<=3):W (((d+1:Nat):Int)-1)=(d:Int):=by grind[dJ]
theorem at_mem{l:bx}{v:Int}(h0:0<=v)(M:v<(l.length:Int)):at' l v∈l:=by grind[at']
theorem acm:∀w∈nn,w.length<=10:=by decide
theorem eJ.st{I:H}{st:dH}(h:eJ I st):(I,st.2.1,st.2.2)=st:=by rw[<-h.c]
noncomputable def Oq(R:bj)(b:Int)(st:dH)(a:Int):Option (H×dH):=
 (bif(decide (a=1)) then some (([39,113,32,114,39]:H),st) else(bif(decide (a=2)) then some (([34,97,32,98,34]:H),st) else(bif(decide (a=3)) then some (([97,92,32,98]:H),st) else(bif(decide (a=4)) then some (([36,120]:H),st) else(bif(decide (a=5)) then some (([36,40,40,49,43,40,50,41,41,41]:H),st) else(bif(decide (a=6)) then some (([96,99,32,100,96]:H),st) else(bif(decide (a=7)) then some (([45,108]:H),st) else(bif(decide (a=8)) then(aw (R.hv st (W (b-1)) ([])) λ(c,g)=>(a4 (((([36,40]:H).length+c.length:Nat):Int)<=9223372036854775807)<|(a4 ((((([36,40]:H)++c).length+([41]:H).length:Nat):Int)<=9223372036854775807)<|some (((([36,40]:H)++c)++([41]:H)),(st.1,g.2.1,g.2.2))))) else(bif(decide (a=9)) then(aw (R.hv st (W (b-1)) ([])) λ(d,h)=>(a4 (((([34,120,36,40]:H).length+d.length:Nat):Int)<=9223372036854775807)<|(a4 ((((([34,120,36,40]:H)++d).length+([41,34]:H).length:Nat):Int)<=9223372036854775807)<|some (((([34,120,36,40]:H)++d)++([41,34]:H)),(st.1,h.2.1,h.2.2))))) else(bif(decide (a=10)) then(aw (R.ou st (W (b-1))) λ(e,i)=>(a4 (((([36,123,120,58,45]:H).length+e.length:Nat):Int)<=9223372036854775807)<|(a4 ((((([36,123,120,58,45]:H)++e).length+([125]:H).length:Nat):Int)<=9223372036854775807)<|some (((([36,123,120,58,45]:H)++e)++([125]:H)),(st.1,i.2.1,i.2.2))))) else(bif(decide (a=11)) then some (([97,92,10,98]:H),st) else(aw (h_ st 7) λ(f,j)=>(a4 (0<=f/\f<(([([97]:H),([98,49]:H),([120,61,49]:H),([102,105,108,101]:H),([195,169]:H),([105,110]:H),([97,35,98]:H)]:bx).length:Int))<|some ((at' ([([97]:H),([98,49]:H),([120,61,49]:H),([102,105,108,101]:H),([195,169]:H),([105,110]:H),([97,35,98]:H)]:bx) f),(st.1,j.2.1,j.2.2)))))))))))))))
theorem aqa(R:bj)(I:dH)(a:Int):ML R I a=aw (h_ I 14) λz=>(bif(bif(decide (a<=0)) then(decide (8<=z.1)) else false) then Oq R a (I.1,z.2.2.1,z.2.2.2) 0 else Oq R a (I.1,z.2.2.1,z.2.2.2) z.1):=rfl
theorem aqb{R:bj}{d:Nat}(aD:d<=3)(bk:∀a,d=a+1->DD R a/\pE R a){I:H}{st:dH}(h:eJ I st){y:Int}(J:d=0->y<8):∃t c,Oq R (d:Int) st y=some (t,c)/\fU d t/\t.length<=lw d/\eJ I c:=by
 obtain⟨K,L,M,F⟩:=qn aD
 have e:∀{w:H},w∈nn->∃t c,(some (w,st):Option (H×dH))=some (t,c)/\fU d t/\t.length<=lw d/\eJ I c:=λ{w} G=>⟨w,st,rfl,ack G,by grind[acm],h⟩
 unfold Oq;by_cases f:y=1
 ·simp only[f,bA,aL];exact e (by decide)
 by_cases i:y=2
 ·rw[eE f];simp only[i,bA,aL,aW];exact e (by decide)
 by_cases k:y=3
 ·rw[eE f,eE i];simp only[k,bA,aL,aW];exact e (by decide)
 by_cases m:y=4
 ·rw[eE f,eE i,eE k];simp only[m,bA,aL,aW];exact e (by decide)
 by_cases s:y=5
 ·rw[eE f,eE i,eE k,eE m];simp only[s,bA,aL,aW];exact e (by decide)
 by_cases z:y=6
 ·rw[eE f,eE i,eE k,eE m,eE s];simp only[z,bA,aL,aW];exact e (by decide)
 by_cases B:y=7
 ·rw[eE f,eE i,eE k,eE m,eE s,eE z];simp only[B,bA,aL,aW];exact e (by decide)
 rw[eE f,eE i,eE k,eE m,eE s,eE z,eE B];simp only[aW];by_cases o:y=8
 ·obtain⟨a,rfl⟩:∃a,d=a+1:=⟨d-1,by omega⟩
  obtain⟨t,c,j,g,u,b⟩:=(bk a rfl).1 I st [] (by simp) h;obtain⟨C,p,q,r⟩:=qn (d:=a) (by omega);simp only[o,bA,aL];rw[wZ (by omega),j,aR rfl];dsimp only;rw[kj,b1 (kS (by grind)),b1 (kS (by grind)),h.c,b.st];refine⟨_,_,rfl,.inr (.inl ⟨t,g,.inl rfl⟩),?_,b⟩;grind[U5]
 by_cases x:y=9
 ·obtain⟨a,rfl⟩:∃a,d=a+1:=⟨d-1,by omega⟩
  obtain⟨t,c,j,g,u,b⟩:=(bk a rfl).1 I st [] (by simp) h;obtain⟨C,p,q,r⟩:=qn (d:=a) (by omega);rw[eE o];simp only[x,bA,aL,aW];rw[wZ (by omega),j,aR rfl];dsimp only;rw[kj,b1 (kS (by grind)),b1 (kS (by grind)),h.c,b.st];refine⟨_,_,rfl,.inr (.inl ⟨t,g,.inr rfl⟩),?_,b⟩;grind[U5]
 by_cases A:y=10
 ·obtain⟨a,rfl⟩:∃a,d=a+1:=⟨d-1,by omega⟩
  obtain⟨t,c,j,g,u,b⟩:=(bk a rfl).2 I st h;obtain⟨C,p,q,r⟩:=qn (d:=a) (by omega);rw[eE o,eE x];simp only[A,bA,aL,aW];rw[wZ (by omega),j,aR rfl];dsimp only;rw[b1 (kS (by grind)),b1 (kS (by grind)),h.c,b.st];refine⟨_,_,rfl,.inr (.inr ⟨t,g,rfl⟩),?_,b⟩;grind[U5]
 by_cases D:y=11
 ·rw[eE o,eE x,eE A];simp only[D,bA,aL,aW];exact e (by decide)
 rw[eE o,eE x,eE A,eE D];simp only[aW];obtain⟨v,c,j,g,u,b⟩:=sv h (n:=7) (by decide) (by decide);rw[j,aR rfl];dsimp only;have hm:=at_mem (l:=GB) g (by show v<((7:Nat):Int);omega);rw[b1 ⟨g,u⟩,h.c,b.st];have E:at' GB v∈nn:=yo _ hm;exact⟨_,_,rfl,ack E,by have:=acm _ E;exact kB this F,b⟩
theorem aqc{P:H->Prop}{nj:dH->Int->Option (H×dH)}{d:Nat}{I:H}{st:dH}(h:eJ I st)(c:∀st y,eJ I st->(d=0->y<8)->∃t a,nj st y=some (t,a)/\P t/\eJ I a):∃t a,(aw (h_ st 14) λz=>(bif(bif(decide ((d:Int)<=0)) then(decide (8<=z.1)) else false) then nj (st.1,z.2.2.1,z.2.2.2) 0 else nj (st.1,z.2.2.1,z.2.2.2) z.1))=some (t,a)/\P t/\eJ I a:=by
 obtain⟨y,e,b,f,g,M⟩:=sv h (n:=14) (by decide) (by decide);rw[b,aR rfl];dsimp only;rw[h.c,M.st];cases i:(bif(decide ((d:Int)<=0)) then(decide (8<=y)) else false) with
 |true=>simp_all
 |false=>simp_all
theorem aqd{R:bj}{d:Nat}(aD:d<=3)(bk:∀a,d=a+1->DD R a/\pE R a){I:H}{st:dH}(h:eJ I st):∃t b,ML R st (d:Int)=some (t,b)/\(fU d t/\t.length<=lw d)/\eJ I b:=by
 rw[aqa]
 exact aqc h (λst y M U=>by obtain⟨t,b,c,ak,a3,e⟩:=aqb aD bk M U;grind)
theorem acq(R:bj)(x:dH)(d:Int)(j:H×Int×Int->Option (H×dH))(k:H×Int×Int×Int->Option (H×dH))(s:H)(c a b:Int):CO R x d j k (s,c,a,b)=bif(decide (0<c)) then
 (a4 (((s.length+([32]:H).length:Nat):Int)<=9223372036854775807)<|(aw (R.ou (x.1,a,b) d) λv=>(a4 ((((s++([32]:H)).length+v.1.length:Nat):Int)<=9223372036854775807)<|k (((s++([32]:H))++v.1),(W (c-1)),v.2.2.1,v.2.2.2)))) else j (s,a,b):=rfl
theorem pF(a b:H)(c:a.length<=1000000)(d:b.length<=1000000):((a.length+b.length:Nat):Int)<=9223372036854775807:=kS (by omega)
theorem aqe{R:bj}{x:dH}{d:Int}{j:H×Int×Int->Option (H×dH)}{k:H×Int×Int×Int->Option (H×dH)}{s:H}{c:Nat}{I:H}{st a:dH}{t:H}(az:c<=10)(b:x.1=I)(h:eJ I st)(e:R.ou st d=some (t,a))(Y:s.length<=900000)(f:t.length<=1000000):
  CO R x d j k (s,((c+1:Nat):Int),st.2.1,st.2.2)=k (s++[32]++t,(c:Int),a.2.1,a.2.2):=by
 rw[acq,decide_eq_true (show(0:Int)<((c+1:Nat):Int) by omega),aL,b1 (pF s [32] (by omega) (by decide)),b,h.st,e,aR rfl,b1 (pF (s++[32]) t (by grind) f)];have g:W (((c+1:Nat):Int)-1)=(c:Int):=by grind[dJ]
 rw[g]
theorem aqf{R:bj}{d:Nat}(aD:d<=3)(hW:pE R d){I:H}{x:dH}(f:x.1=I){j:H×Int×Int->Option (H×dH)}:∀(bw c:Nat)(s:H)(st:dH),c<bw->c<=2->s.length<=100+(2-c) *40001->eJ I st->
  ∃ws a,fixF (CO R x (d:Int) j) bw (s,(c:Int),st.2.1,st.2.2)=j (s++jc ws,a.2.1,a.2.2)/\(∀w∈ws,fU d w)/\(jc ws).length<=c*(lw d+1)/\eJ I a:=by
 obtain⟨o,_,_,_⟩:=qn aD;intro bw;induction bw with
 |zero=>omega
 |succ bw e=>
  intro c s st az p Y h;rw[fl];generalize fixF (CO R x (d:Int) j) bw=k at e⊢;cases c with
  |zero=>rw[acq];refine⟨[],st,?_,by simp,by simp[jc],h⟩;simp[jc]
  |succ c=>
   obtain⟨t,g,i,q,r,l⟩:=hW I st h;have b:(s++[32]++t).length<=100+(2-c) *40001:=by grind
   rw[aqe (by omega) f h i (by omega) (by omega)];obtain⟨ws,a,m,ak,a3,n⟩:=e c (s++[32]++t) g (by omega) (by omega) b l;rw[m];refine⟨t::ws,a,?_,?_,?_,n⟩
   ·simp[jc]
   ·grind
   ·simp only[jc,List.flatMap_cons,m3,j5] at a3⊢;grind
noncomputable def Bq(c:H)(n:Int)(s:H)(st:dH):Option (H×dH):=
 bif(decide (n=1)) then
 (a4 (((s.length+([32,50,62,38,49]:H).length:Nat):Int)<=9223372036854775807)<|some ((s++([32,50,62,38,49]:H)),(c,st.2.1,st.2.2)))
 else some (s,(c,st.2.1,st.2.2))
noncomputable def DE(R:bj)(c:H)(s:H)(st:dH):Option (H×dH):=
 aw (h_ (c,st.2.1,st.2.2) 8) λz=>
 bif(decide (z.1=0)) then
 (a4 (((s.length+([32,62]:H).length:Nat):Int)<=9223372036854775807)<|(aw (R.ou (c,z.2.2.1,z.2.2.2) 0) λv=>(a4 ((((s++([32,62]:H)).length+v.1.length:Nat):Int)<=9223372036854775807)<|Bq c z.1 ((s++([32,62]:H))++v.1) v.2)))
 else Bq c z.1 s z.2
theorem aqg(R:bj)(I:dH)(a:Int):CP R I a=(aw (h_ I 4) λz=>
 (a4 (0<=z.1/\z.1<((q3).length:Int))<|
 (aw (h_ (I.1,z.2.2.1,z.2.2.2) 3) λv=>
 (fixF (CO R I a (λy=>DE R I.1 y.1 (I.1,y.2.1,y.2.2))) bD ((at' q3 z.1),v.1,v.2.2.1,v.2.2.2))))):=rfl
theorem aqh{c:H}{s:H}{st:dH}(Y:s.length<=1000000):Bq c 1 s st=some (s++[32,50,62,38,49],(c,st.2.1,st.2.2)):=by unfold Bq;rw[decide_eq_true rfl,aL,b1 (pF s [32,50,62,38,49] Y (by decide))]
theorem acr{c:H}{s:H}{st:dH}{n:Int}(au:¬n=1):Bq c n s st=some (s,(c,st.2.1,st.2.2)):=by simp_all[Bq]
theorem aqi{R:bj}{I:H}{s t:H}{st a b:dH}(h:eJ I st)(M:eJ I a)(c:h_ st 8=some (0,a))(d:R.ou a 0=some (t,b))(Y:s.length<=900000)(e:t.length<=1000000):DE R I s st=Bq I 0 (s++[32,62]++t) b:=by unfold DE;rw[h.st,c,aR rfl];show(bif decide ((0:Int)=0) then _ else _)=_;rw[decide_eq_true rfl,aL,b1 (pF s [32,62] (by omega) (by decide))];show aw (R.ou (I,a.2.1,a.2.2) 0) _=_;rw[M.st,d,aR rfl,b1 (pF (s++[32,62]) t (by grind) e)]
theorem aqj{R:bj}{I:H}{s:H}{st a:dH}{v:Int}(h:eJ I st)(b:h_ st 8=some (v,a))(c:¬v=0):DE R I s st=Bq I v s a:=by unfold DE;rw[h.st,b,aR rfl];grind
theorem aqk{R:bj}{I:H}(e:pE R 0){s:H}(Y:s.length<=900000){st:dH}(h:eJ I st):∃r b,DE R I s st=some (s++r,b)/\(r=[]\/r=[32,50,62,38,49]\/∃w,fU 0 w/\r=[32,62]++w)/\r.length<=12/\eJ I b:=by
 obtain⟨v,c,d,j,k,a⟩:=sv h (n:=8) (by decide) (by decide);by_cases h0:v=0
 ·subst h0;obtain⟨t,l,f,m,g,i⟩:=e I c a;have o:t.length<=10:=g;rw[aqi h a d f Y (by omega),acr (by decide),i.st];grind
 ·rw[aqj h d h0];by_cases M:v=1
  ·subst M;rw[aqh (by omega),a.st];grind
  ·rw[acr M,a.st];exact⟨[],c,by simp,.inl rfl,by simp,a⟩
theorem aql:∀h∈q3,h.length<=4:=by decide
theorem aqm{R:bj}{d:Nat}(aD:d<=3)(hW:pE R d)(i:pE R 0){I:H}{st:dH}(h:eJ I st):∃t a,CP R st (d:Int)=some (t,a)/\qm (fU d) (fU 0) t/\t.length<=2*lw d+20/\eJ I a:=by
 obtain⟨C,_,_,_⟩:=qn aD;obtain⟨v,D,m,b,e,f⟩:=sv h (n:=4) (by decide) (by decide);rw[aqg,m,aR rfl];dsimp only;rw[b1 ⟨b,e⟩,h.c,f.st];obtain⟨c,o,p,E,F,q⟩:=sv f (n:=3) (by decide) (by decide);rw[p,aR rfl];dsimp only;have hm:=at_mem (l:=q3) b e;have G:=aql _ hm
 obtain⟨k,rfl⟩:∃k:Nat,c=(k:Int):=⟨c.toNat,by omega⟩
 obtain⟨ws,J,u,ak,a3,g⟩:=aqf aD hW (x:=st) h.c (j:=λy=>DE R I y.1 (I,y.2.1,y.2.2)) bD k (at' q3 v) o (by grind[gD]) (by omega) (by omega) q;rw[u];dsimp only;have av:k*(lw d+1)<=2*(lw d+1):=tw _ (by omega);rw[g.st];obtain⟨r,w,z,A,K,B⟩:=aqk i (s:=at' q3 v++jc ws) (by grind) g;rw[z];exact⟨_,_,rfl,⟨_,ws,r,hm,ak,rfl,A⟩,by grind,B⟩
noncomputable def np(R:bj)(a:Int)(st:dH)(b:Int):Option (H×dH):=
 (bif(decide (b=1)) then(aw (R.hv st (W (a-1)) ([])) λ(h,p)=>(a4 (((([40]:H).length+h.length:Nat):Int)<=9223372036854775807)<|(a4 ((((([40]:H)++h).length+([41]:H).length:Nat):Int)<=9223372036854775807)<|some (((([40]:H)++h)++([41]:H)),(st.1,p.2.1,p.2.2))))) else(bif(decide (b=2)) then(aw (R.hv st (W (a-1)) ([10]:H)) λ(i,q)=>(a4 (((([123,32]:H).length+i.length:Nat):Int)<=9223372036854775807)<|(a4 ((((([123,32]:H)++i).length+([125]:H).length:Nat):Int)<=9223372036854775807)<|some (((([123,32]:H)++i)++([125]:H)),(st.1,q.2.1,q.2.2))))) else(bif(decide (b=3)) then(aw (R.hv st (W (a-1)) ([59]:H)) λ(c,r)=>(a4 (((([105,102,32]:H).length+c.length:Nat):Int)<=9223372036854775807)<|(a4 ((((([105,102,32]:H)++c).length+([32,116,104,101,110,32]:H).length:Nat):Int)<=9223372036854775807)<|(aw (R.hv (st.1,r.2.1,r.2.2) (W (a-1)) ([10]:H)) λ(j,s)=>(a4 (((((([105,102,32]:H)++c)++([32,116,104,101,110,32]:H)).length+j.length:Nat):Int)<=9223372036854775807)<|(a4 ((((((([105,102,32]:H)++c)++([32,116,104,101,110,32]:H))++j).length+([102,105]:H).length:Nat):Int)<=9223372036854775807)<|some (((((([105,102,32]:H)++c)++([32,116,104,101,110,32]:H))++j)++([102,105]:H)),(st.1,s.2.1,s.2.2)))))))) else(bif(decide (b=4)) then(aw (R.hv st (W (a-1)) ([10]:H)) λ(d,t)=>(a4 (((([105,102,32,97,59,32,116,104,101,110,10]:H).length+d.length:Nat):Int)<=9223372036854775807)<|(a4 ((((([105,102,32,97,59,32,116,104,101,110,10]:H)++d).length+([101,108,105,102,32,98,10,116,104,101,110,32,99,10,101,108,115,101,32]:H).length:Nat):Int)<=9223372036854775807)<|(aw (R.hv (st.1,t.2.1,t.2.2) (W (a-1)) ([59]:H)) λ(k,u)=>(a4 (((((([105,102,32,97,59,32,116,104,101,110,10]:H)++d)++([101,108,105,102,32,98,10,116,104,101,110,32,99,10,101,108,115,101,32]:H)).length+k.length:Nat):Int)<=9223372036854775807)<|(a4 ((((((([105,102,32,97,59,32,116,104,101,110,10]:H)++d)++([101,108,105,102,32,98,10,116,104,101,110,32,99,10,101,108,115,101,32]:H))++k).length+([102,105,32,50,62,102]:H).length:Nat):Int)<=9223372036854775807)<|some (((((([105,102,32,97,59,32,116,104,101,110,10]:H)++d)++([101,108,105,102,32,98,10,116,104,101,110,32,99,10,101,108,115,101,32]:H))++k)++([102,105,32,50,62,102]:H)),(st.1,u.2.1,u.2.2)))))))) else(bif(decide (b=5)) then(aw (R.hv st (W (a-1)) ([10]:H)) λ(e,v)=>(a4 (((([119,104,105,108,101,32]:H).length+e.length:Nat):Int)<=9223372036854775807)<|(a4 ((((([119,104,105,108,101,32]:H)++e).length+([100,111,32]:H).length:Nat):Int)<=9223372036854775807)<|(aw (R.hv (st.1,v.2.1,v.2.2) (W (a-1)) ([59]:H)) λ(l,w)=>(a4 (((((([119,104,105,108,101,32]:H)++e)++([100,111,32]:H)).length+l.length:Nat):Int)<=9223372036854775807)<|(a4 ((((((([119,104,105,108,101,32]:H)++e)++([100,111,32]:H))++l).length+([32,100,111,110,101]:H).length:Nat):Int)<=9223372036854775807)<|some (((((([119,104,105,108,101,32]:H)++e)++([100,111,32]:H))++l)++([32,100,111,110,101]:H)),(st.1,w.2.1,w.2.2)))))))) else(bif(decide (b=6)) then(aw (R.ou st (W (a-1))) λ(f,x)=>(a4 (((([102,111,114,32,120,32,105,110,32,97,32]:H).length+f.length:Nat):Int)<=9223372036854775807)<|(a4 ((((([102,111,114,32,120,32,105,110,32,97,32]:H)++f).length+([59,32,100,111,32]:H).length:Nat):Int)<=9223372036854775807)<|(aw (R.hv (st.1,x.2.1,x.2.2) (W (a-1)) ([59]:H)) λ(m,y)=>(a4 (((((([102,111,114,32,120,32,105,110,32,97,32]:H)++f)++([59,32,100,111,32]:H)).length+m.length:Nat):Int)<=9223372036854775807)<|(a4 ((((((([102,111,114,32,120,32,105,110,32,97,32]:H)++f)++([59,32,100,111,32]:H))++m).length+([100,111,110,101]:H).length:Nat):Int)<=9223372036854775807)<|some (((((([102,111,114,32,120,32,105,110,32,97,32]:H)++f)++([59,32,100,111,32]:H))++m)++([100,111,110,101]:H)),(st.1,y.2.1,y.2.2)))))))) else(bif(decide (b=7)) then some (([102,111,114,32,120,10,100,111,32,97,10,100,111,110,101]:H),st) else(bif(decide (b=8)) then(aw (R.ou st (W (a-1))) λ(g,z)=>(a4 (((([99,97,115,101,32]:H).length+g.length:Nat):Int)<=9223372036854775807)<|(a4 ((((([99,97,115,101,32]:H)++g).length+([32,105,110,32,97,124,98,41,32]:H).length:Nat):Int)<=9223372036854775807)<|(aw (R.hv (st.1,z.2.1,z.2.2) (W (a-1)) ([])) λ(n,A)=>(a4 (((((([99,97,115,101,32]:H)++g)++([32,105,110,32,97,124,98,41,32]:H)).length+n.length:Nat):Int)<=9223372036854775807)<|(a4 ((((((([99,97,115,101,32]:H)++g)++([32,105,110,32,97,124,98,41,32]:H))++n).length+([59,59,10,40,99,41,32,59,59,32,100,41,32,101,115,97,99]:H).length:Nat):Int)<=9223372036854775807)<|some (((((([99,97,115,101,32]:H)++g)++([32,105,110,32,97,124,98,41,32]:H))++n)++([59,59,10,40,99,41,32,59,59,32,100,41,32,101,115,97,99]:H)),(st.1,A.2.1,A.2.2)))))))) else(bif(decide (b=9)) then(aw (R.hv st (W (a-1)) ([10]:H)) λ(o,B)=>(a4 (((([102,40,41,32,123,10]:H).length+o.length:Nat):Int)<=9223372036854775807)<|(a4 ((((([102,40,41,32,123,10]:H)++o).length+([125,32,62,102]:H).length:Nat):Int)<=9223372036854775807)<|some (((([102,40,41,32,123,10]:H)++o)++([125,32,62,102]:H)),(st.1,B.2.1,B.2.2))))) else(aw (CP R st a) λ(D,C)=>some (D,(st.1,C.2.1,C.2.2))))))))))))
theorem aqn(R:bj)(I:dH)(a:Int):wx R I a=aw (h_ I 16) λz=>(bif(decide (a<=0)) then np R a (I.1,z.2.2.1,z.2.2.2) 0 else np R a (I.1,z.2.2.1,z.2.2.2) z.1):=rfl
section
variable{R:bj}{d:Nat}(aD:d+1<=3)(bk:DD R d)(hW:pE R d){I:H}{st:dH}(h:eJ I st)
include aD bk hW h
theorem aqo:∃t a,np R ((d+1:Nat):Int) st 1=some (t,a)/\tm (gi d) (fU d) t/\t.length<=2*o6 d+lw d+80/\eJ I a:=by obtain⟨g,i,j,k⟩:=qn (d:=d) (by omega);have b:=wZ (d:=d) (by omega);obtain⟨c,s1,e,f,l,ad⟩:=bk I st [] (by decide) h;unfold np;rw[show decide ((1:Int)=1)=true from rfl,aL,b,e,aR rfl];dsimp only;rw[b1 (kS (by grind)),b1 (kS (by grind)),h.c,ad.st];refine⟨_,_,rfl,.inl ⟨c,f,by simp⟩,by grind,ad⟩
theorem aqp:∃t a,np R ((d+1:Nat):Int) st 2=some (t,a)/\tm (gi d) (fU d) t/\t.length<=2*o6 d+lw d+80/\eJ I a:=by obtain⟨g,i,j,k⟩:=qn (d:=d) (by omega);have b:=wZ (d:=d) (by omega);obtain⟨c,s1,e,f,l,ad⟩:=bk I st [10] (by decide) h;unfold np;rw[show decide ((2:Int)=1)=false from rfl,aW];rw[show decide ((2:Int)=2)=true from rfl,aL,b,e,aR rfl];dsimp only;rw[b1 (kS (by grind)),b1 (kS (by grind)),h.c,ad.st];refine⟨_,_,rfl,.inr (.inl ⟨c,f,rfl⟩),by grind,ad⟩
theorem aqq:∃t a,np R ((d+1:Nat):Int) st 3=some (t,a)/\tm (gi d) (fU d) t/\t.length<=2*o6 d+lw d+80/\eJ I a:=by obtain⟨l,m,n,o⟩:=qn (d:=d) (by omega);have c:=wZ (d:=d) (by omega);obtain⟨e,s1,f,g,p,ad⟩:=bk I st [59] (by decide) h;obtain⟨i,s2,j,k,q,b⟩:=bk I s1 [10] (by decide) ad;unfold np;rw[show decide ((3:Int)=1)=false from rfl,aW];rw[show decide ((3:Int)=2)=false from rfl,aW];rw[show decide ((3:Int)=3)=true from rfl,aL,c,f,aR rfl];dsimp only;rw[b1 (kS (by grind)),b1 (kS (by grind)),h.c,ad.st];rw[j,aR rfl];dsimp only;rw[b1 (kS (by grind)),b1 (kS (by grind)),b.st];refine⟨_,_,rfl,.inr (.inr (.inl ⟨e,i,g,k,rfl⟩)),by grind,b⟩
theorem aqr:∃t a,np R ((d+1:Nat):Int) st 4=some (t,a)/\tm (gi d) (fU d) t/\t.length<=2*o6 d+lw d+80/\eJ I a:=by obtain⟨l,m,n,o⟩:=qn (d:=d) (by omega);have c:=wZ (d:=d) (by omega);obtain⟨e,s1,f,g,p,ad⟩:=bk I st [10] (by decide) h;obtain⟨i,s2,j,k,q,b⟩:=bk I s1 [59] (by decide) ad;unfold np;rw[show decide ((4:Int)=1)=false from rfl,aW];rw[show decide ((4:Int)=2)=false from rfl,aW];rw[show decide ((4:Int)=3)=false from rfl,aW];rw[show decide ((4:Int)=4)=true from rfl,aL,c,f,aR rfl];dsimp only;rw[b1 (kS (by grind[List.length_cons])),b1 (kS (by grind[List.length_cons])),h.c,ad.st];rw[j,aR rfl];dsimp only;rw[b1 (kS (by grind[List.length_cons])),b1 (kS (by grind[List.length_cons])),b.st];refine⟨_,_,rfl,.inr (.inr (.inr (.inl ⟨e,i,g,k,rfl⟩))),by grind[List.length_cons],b⟩
theorem aqs:∃t a,np R ((d+1:Nat):Int) st 5=some (t,a)/\tm (gi d) (fU d) t/\t.length<=2*o6 d+lw d+80/\eJ I a:=by obtain⟨l,m,n,o⟩:=qn (d:=d) (by omega);have c:=wZ (d:=d) (by omega);obtain⟨e,s1,f,g,p,ad⟩:=bk I st [10] (by decide) h;obtain⟨i,s2,j,k,q,b⟩:=bk I s1 [59] (by decide) ad;unfold np;rw[show decide ((5:Int)=1)=false from rfl,aW];rw[show decide ((5:Int)=2)=false from rfl,aW];rw[show decide ((5:Int)=3)=false from rfl,aW];rw[show decide ((5:Int)=4)=false from rfl,aW];rw[show decide ((5:Int)=5)=true from rfl,aL,c,f,aR rfl];dsimp only;rw[b1 (kS (by grind)),b1 (kS (by grind)),h.c,ad.st];rw[j,aR rfl];dsimp only;rw[b1 (kS (by grind)),b1 (kS (by grind)),b.st];refine⟨_,_,rfl,.inr (.inr (.inr (.inr (.inl ⟨e,i,g,k,rfl⟩)))),by grind,b⟩
theorem aqt:∃t a,np R ((d+1:Nat):Int) st 6=some (t,a)/\tm (gi d) (fU d) t/\t.length<=2*o6 d+lw d+80/\eJ I a:=by obtain⟨l,m,n,o⟩:=qn (d:=d) (by omega);have c:=wZ (d:=d) (by omega);obtain⟨e,s1,f,g,p,ad⟩:=hW I st h;obtain⟨i,s2,j,k,q,b⟩:=bk I s1 [59] (by decide) ad;unfold np;rw[show decide ((6:Int)=1)=false from rfl,aW];rw[show decide ((6:Int)=2)=false from rfl,aW];rw[show decide ((6:Int)=3)=false from rfl,aW];rw[show decide ((6:Int)=4)=false from rfl,aW];rw[show decide ((6:Int)=5)=false from rfl,aW];rw[show decide ((6:Int)=6)=true from rfl,aL,c,f,aR rfl];dsimp only;rw[b1 (kS (by grind[List.length_cons])),b1 (kS (by grind[List.length_cons])),h.c,ad.st];rw[j,aR rfl];dsimp only;rw[b1 (kS (by grind[List.length_cons])),b1 (kS (by grind[List.length_cons])),b.st];refine⟨_,_,rfl,.inr (.inr (.inr (.inr (.inr (.inl ⟨e,i,g,k,rfl⟩))))),by grind[List.length_cons],b⟩
theorem aqu:∃t a,np R ((d+1:Nat):Int) st 8=some (t,a)/\tm (gi d) (fU d) t/\t.length<=2*o6 d+lw d+80/\eJ I a:=by obtain⟨l,m,n,o⟩:=qn (d:=d) (by omega);have c:=wZ (d:=d) (by omega);obtain⟨e,s1,f,g,p,ad⟩:=hW I st h;obtain⟨i,s2,j,k,q,b⟩:=bk I s1 [] (by decide) ad;unfold np;rw[show decide ((8:Int)=1)=false from rfl,aW];rw[show decide ((8:Int)=2)=false from rfl,aW];rw[show decide ((8:Int)=3)=false from rfl,aW];rw[show decide ((8:Int)=4)=false from rfl,aW];rw[show decide ((8:Int)=5)=false from rfl,aW];rw[show decide ((8:Int)=6)=false from rfl,aW];rw[show decide ((8:Int)=7)=false from rfl,aW];rw[show decide ((8:Int)=8)=true from rfl,aL,c,f,aR rfl];dsimp only;rw[b1 (kS (by grind)),b1 (kS (by grind)),h.c,ad.st];rw[j,aR rfl];dsimp only;rw[b1 (kS (by grind[List.length_cons])),b1 (kS (by grind[List.length_cons])),b.st];refine⟨_,_,rfl,.inr (.inr (.inr (.inr (.inr (.inr (.inr (.inl ⟨e,i,g,k,rfl⟩))))))),by grind[List.length_cons],b⟩
theorem aqv:∃t a,np R ((d+1:Nat):Int) st 9=some (t,a)/\tm (gi d) (fU d) t/\t.length<=2*o6 d+lw d+80/\eJ I a:=by obtain⟨g,i,j,k⟩:=qn (d:=d) (by omega);have b:=wZ (d:=d) (by omega);obtain⟨c,s1,e,f,l,ad⟩:=bk I st [10] (by decide) h;unfold np;rw[show decide ((9:Int)=1)=false from rfl,aW];rw[show decide ((9:Int)=2)=false from rfl,aW];rw[show decide ((9:Int)=3)=false from rfl,aW];rw[show decide ((9:Int)=4)=false from rfl,aW];rw[show decide ((9:Int)=5)=false from rfl,aW];rw[show decide ((9:Int)=6)=false from rfl,aW];rw[show decide ((9:Int)=7)=false from rfl,aW];rw[show decide ((9:Int)=8)=false from rfl,aW];rw[show decide ((9:Int)=9)=true from rfl,aL,b,e,aR rfl];dsimp only;rw[b1 (kS (by grind)),b1 (kS (by grind)),h.c,ad.st];refine⟨_,_,rfl,.inr (.inr (.inr (.inr (.inr (.inr (.inr (.inr ⟨c,f,rfl⟩))))))),by grind,ad⟩
theorem aqw:∃t a,np R ((d+1:Nat):Int) st 7=some (t,a)/\tm (gi d) (fU d) t/\t.length<=2*o6 d+lw d+80/\eJ I a:=
 ⟨_,st,rfl,.inr (.inr (.inr (.inr (.inr (.inr (.inl rfl)))))),by simp,h⟩
end
theorem aqx{R:bj}{a:Int}{st:dH}{y:Int}(h:¬(1<=y/\y<=9)):np R a st y=aw (CP R st a) λz=>some (z.1,(st.1,z.2.2.1,z.2.2.2)):=by unfold np;rw[eE (show¬y=1 by omega),eE (show¬y=2 by omega),eE (show¬y=3 by omega),eE (show¬y=4 by omega),eE (show¬y=5 by omega),eE (show¬y=6 by omega),eE (show¬y=7 by omega),eE (show¬y=8 by omega),eE (show¬y=9 by omega)];simp
theorem acs{R:bj}{d:Nat}(aD:d<=3)(hW:pE R d)(b:pE R 0){I:H}{st:dH}(h:eJ I st){y:Int}(c:¬(1<=y/\y<=9)):∃t a,np R (d:Int) st y=some (t,a)/\qm (fU d) (fU 0) t/\t.length<=2*lw d+20/\eJ I a:=by rw[aqx c];obtain⟨t,a,e,g,i,f⟩:=aqm aD hW b h;rw[e,aR rfl];dsimp only;rw[h.c,f.st];grind
theorem aqy{R:bj}{d:Nat}(aD:d+1<=3)(bk:DD R d)(f:pE R d)(hW:pE R (d+1))(g:pE R 0){I:H}{st:dH}(h:eJ I st)(y:Int):∃t a,np R ((d+1:Nat):Int) st y=some (t,a)/\zR (d+1) t/\t.length<=lc (d+1)/\eJ I a:=by
 have k:lc (d+1)=2*o6 d+lw d+2*lw (d+1)+80:=rfl;by_cases i:1<=y/\y<=9
 ·have az:∃t a,np R ((d+1:Nat):Int) st y=some (t,a)/\tm (gi d) (fU d) t/\t.length<=2*o6 d+lw d+80/\eJ I a:=by
   have:y=1\/y=2\/y=3\/y=4\/y=5\/y=6\/y=7\/y=8\/y=9:=by omega
   rcases this with rfl|rfl|rfl|rfl|rfl|rfl|rfl|rfl|rfl
   ·grind[aqo]
   ·grind[aqp]
   ·grind[aqq]
   ·grind[aqr]
   ·grind[aqs]
   ·grind[aqt]
   ·grind[aqw]
   ·grind[aqu]
   grind[aqv]
  obtain⟨t,a,b,c,j,e⟩:=az;exact⟨t,a,b,.inr c,by omega,e⟩
 ·obtain⟨t,a,b,c,j,e⟩:=acs aD hW g h i;exact⟨t,a,b,.inl c,by omega,e⟩
theorem aqz{P:H->Prop}{nj:dH->Int->Option (H×dH)}{d:Nat}{I:H}{st:dH}(h:eJ I st)(c:∀st y,eJ I st->(d=0->y=0)->∃t a,nj st y=some (t,a)/\P t/\eJ I a):∃t a,(aw (h_ st 16) λz=>(bif(decide ((d:Int)<=0)) then nj (st.1,z.2.2.1,z.2.2.2) 0 else nj (st.1,z.2.2.1,z.2.2.2) z.1))=some (t,a)/\P t/\eJ I a:=by
 obtain⟨y,e,b,f,g,M⟩:=sv h (n:=16) (by decide) (by decide);rw[b,aR rfl];dsimp only;rw[h.c,M.st];by_cases aD:(d:Int)<=0
 ·simp_all
 simp_all
theorem acu{R:bj}{d:Nat}(aD:d<=3)(bk:∀b,d=b+1->DD R b/\pE R b)(hW:pE R d)(c:pE R 0){I:H}{st:dH}(h:eJ I st):∃t a,wx R st (d:Int)=some (t,a)/\(zR d t/\t.length<=lc d)/\eJ I a:=by
 rw[aqn];refine aqz h (λst y M U=>?_);cases d with
 |zero=>have:=U rfl;subst this;obtain⟨t,a,e,f,i,g⟩:=acs aD hW c M (y:=0) (by omega);have:lw 0=10:=rfl;exact⟨t,a,e,⟨f,by show _<=60;omega⟩,g⟩
 |succ d=>obtain⟨t,a,e,f,i,g⟩:=aqy aD (bk d rfl).1 (bk d rfl).2 hW c M y;grind
theorem acv(R:bj)(x:dH)(d:Int)(j:H×Int×Int->Option (H×dH))(k:H×Int×Int×Int->Option (H×dH))(s:H)(c a b:Int):CQ R x d j k (s,c,a,b)=bif(decide (0<c)) then
 (aw (h_ (x.1,a,b) 8) λz=>(a4 (0<=z.1/\z.1<(jl.length:Int))<|(a4 (((s.length+(at' jl z.1).length:Nat):Int)<=9223372036854775807)<|(aw (wx R (x.1,z.2.2.1,z.2.2.2) d) λv=>(a4 ((((s++(at' jl z.1)).length+v.1.length:Nat):Int)<=9223372036854775807)<|k (((s++(at' jl z.1))++v.1),(W (c-1)),v.2.2.1,v.2.2.2)))))) else j (s,a,b):=rfl
theorem aqA:∀h∈jl,h.length<=6:=by decide
theorem aqB{R:bj}{x:dH}{d:Int}{j:H×Int×Int->Option (H×dH)}{k:H×Int×Int×Int->Option (H×dH)}{s:H}{c:Nat}{I:H}{st a b:dH}{t:H}{v:Int}(az:c<=10)(e:x.1=I)(h:eJ I st)(M:eJ I a)(f:h_ st 8=some (v,a))(g:0<=v/\v<(jl.length:Int))(n:(at' jl v).length<=6)(i:wx R a d=some (t,b))(Y:s.length<=900000)(l:t.length<=1000000):
  CQ R x d j k (s,((c+1:Nat):Int),st.2.1,st.2.2)=k (s++at' jl v++t,(c:Int),b.2.1,b.2.2):=by
 rw[acv,decide_eq_true (show(0:Int)<((c+1:Nat):Int) by omega),aL,e,h.st,f,aR rfl];show a4 (0<=v/\v<(jl.length:Int)) _=_;rw[b1 g];show a4 (((s.length+(at' jl v).length:Nat):Int)<=9223372036854775807) (aw (wx R (I,a.2.1,a.2.2) d) _)=_;rw[b1 (pF s (at' jl v) (by omega) (by omega)),M.st,i,aR rfl,b1 (pF (s++at' jl v) t (by grind) l)];have m:W (((c+1:Nat):Int)-1)=(c:Int):=by grind[dJ]
 rw[m]
theorem aqC{R:bj}{d:Nat}(aD:d<=3)(m:∀{I:H}{st:dH},eJ I st->∃t a,wx R st (d:Int)=some (t,a)/\(zR d t/\t.length<=lc d)/\eJ I a){I:H}{x:dH}(o:x.1=I){j:H×Int×Int->Option (H×dH)}:∀(bw c:Nat)(s:H)(st:dH),c<bw->c<=2->s.length<=200000+(2-c) *160010->eJ I st->
  ∃l a,fixF (CQ R x (d:Int) j) bw (s,(c:Int),st.2.1,st.2.2)=j (s++cN l,a.2.1,a.2.2)/\(∀p∈l,p.1∈jl/\zR d p.2)/\(cN l).length<=c*(lc d+6)/\eJ I a:=by
 obtain⟨_,_,B,_⟩:=qn aD;intro bw;induction bw with
 |zero=>omega
 |succ bw e=>
  intro c s st az C Y h;rw[fl];generalize fixF (CQ R x (d:Int) j) bw=k at e⊢;cases c with
  |zero=>rw[acv];refine⟨[],st,?_,by simp,by simp[cN],h⟩;simp[cN]
  |succ c=>
   obtain⟨v,D,q,f,g,i⟩:=sv h (n:=8) (by decide) (by decide);have hm:=at_mem (l:=jl) f g;have r:=aqA _ hm;obtain⟨t,u,w,⟨E,F⟩,y⟩:=m i;have b:(s++at' jl v++t).length<=200000+(2-c) *160010:=by grind
   rw[aqB (by omega) o h i q ⟨f,g⟩ r w (by omega) (by omega)];obtain⟨l,a,z,ak,a3,A⟩:=e c (s++at' jl v++t) u (by omega) (by omega) b y;rw[z];refine⟨(at' jl v,t)::l,a,?_,?_,?_,A⟩
   ·simp[cN]
   ·grind
   grind[cN]
theorem aqD(R:bj)(I:dH)(a:Int)(sfx:H):IK R I a sfx=aw (wx R I a) λy=>aw (h_ (I.1,y.2.2.1,y.2.2.2) 3) λv=>
 fixF (CQ R I a (λz=>a4 (((z.1.length+sfx.length:Nat):Int)<=9223372036854775807)<|some ((z.1++sfx),(I.1,z.2.1,z.2.2)))) bD (y.1,v.1,v.2.2.1,v.2.2.2):=rfl
theorem aqE{R:bj}{d:Nat}(aD:d<=3)(bk:∀b,d=b+1->DD R b/\pE R b)(hW:pE R d)(f:pE R 0){I:H}{st:dH}{sfx:H}(w:sfx.length<=1)(h:eJ I st):∃t a,IK R st (d:Int) sfx=some (t++sfx,a)/\gi d t/\t.length<=o6 d/\eJ I a:=by
 obtain⟨_,_,y,_⟩:=qn aD;obtain⟨t,g,o,⟨p,A⟩,i⟩:=acu aD bk hW f h;obtain⟨v,q,r,B,C,s⟩:=sv i (n:=3) (by decide) (by decide)
 obtain⟨k,rfl⟩:∃k:Nat,v=(k:Int):=⟨v.toNat,by omega⟩
 obtain⟨l,c,u,ak,a3,m⟩:=aqC aD (λh=>acu aD bk hW f h) (x:=st) h.c (j:=λz=>a4 (((z.1.length+sfx.length:Nat):Int)<=9223372036854775807)<|some ((z.1++sfx),(I,z.2.1,z.2.2))) bD k t q (by grind[gD]) (by omega) (by omega) s;have av:k*(lc d+6)<=2*(lc d+6):=tw _ (by omega);rw[aqD,o,aR rfl,h.c];show∃e a,(aw (h_ (I,g.2.1,g.2.2) 3) _)=some (e++sfx,a)/\_
 rw[i.st,r,aR rfl,u];have D:=ap_ d;refine⟨t++cN l,c,?_,?_,by grind,m⟩
 ·show a4 ((((t++cN l).length+sfx.length:Nat):Int)<=9223372036854775807) (some ((t++cN l++sfx),(I,c.2.1,c.2.2)))=_;rw[b1 (pF _ _ (by grind) (by omega)),m.st]
 ·rw[Oo];exact⟨t,l,p,ak,rfl⟩
theorem aqF:∀(k d:Nat),d<=3->(2*d+1<=k->pE (lj k) d)/\(2*d+2<=k->DD (lj k) d):=by
 intro k;induction k with
 |zero=>omega
 |succ k a=>
  intro d aD;refine⟨λh I st c=>?_,λh I st sfx e c=>?_⟩
  ·obtain⟨t,f,g,⟨i,j⟩,l⟩:=aqd (R:=lj k) aD (λb m=>⟨(a b (by omega)).2 (by omega),(a b (by omega)).1 (by omega)⟩) c;exact⟨t,f,g,i,j,l⟩
  ·exact aqE (R:=lj k) aD (λb m=>⟨(a b (by omega)).2 (by omega),(a b (by omega)).1 (by omega)⟩) ((a d aD).1 (by omega)) ((a 0 (by omega)).1 (by omega)) e c
theorem acx{I:H}{st:dH}{sfx:H}(b:sfx.length<=1)(h:eJ I st):∃t a,rz.hv st 3 sfx=some (t++sfx,a)/\gi 3 t/\t.length<=o6 3/\eJ I a:=by
 have av:8<=bD:=by simp[gD]
 exact(aqF bD 3 (by omega)).2 av I st sfx b h
def sw:H:=[99,97,116,32,60,60,69,59,32]
def m0:H:=[10,98,111,100,121,10,69,10]
noncomputable def GC(c:H)(t:H):(Int×dH)->Option H:=λz=>
 (bif(decide (z.1=0)) then(a4 (((sw.length+t.length:Nat):Int)<=9223372036854775807)<|(a4 ((((sw++t).length+m0.length:Nat):Int)<=9223372036854775807)<|some ((sw++t)++m0))) else some t)
theorem mk_eq(I:H):IN I=aw (Fl I) λa=>aw (rz.hv (I,a.2.1,a.2.2) 3 []) λv=>aw (h_ (I,v.2.2.1,v.2.2.2) 4) λz=>GC I v.1 z:=rfl
theorem aqG{c t:H}{st:dH}(a:t.length<=900000):GC c t (0,st)=some (sw++t++m0):=by unfold GC;show(bif decide ((0:Int)=0) then _ else _)=_;rw[decide_eq_true rfl,aL,b1 (pF sw t (by decide) (by omega)),b1 (pF (sw++t) m0 (by simp only[m3];have:sw.length=9:=rfl;omega) (by decide))]
theorem aqH{c t:H}{v:Int}{st:dH}(a:¬v=0):GC c t (v,st)=some t:=by unfold GC;grind
theorem aqI(I:H)(f:I.length<=1048576):∃t T,IN I=some T/\gi 3 t/\t.length<=460000/\(T=t\/T=sw++t++m0):=by
 obtain⟨st,g,M⟩:=aci I f;obtain⟨t,a,b,j,k,c⟩:=acx (sfx:=[]) (by decide) M;rw[kj] at b;obtain⟨v,l,h,ak,a3,m⟩:=sv c (n:=4) (by decide) (by decide);have ay:o6 3<=460000:=(qn (d:=3) (by decide)).2.1;rw[mk_eq,g,aR rfl,b,aR rfl];show∃i T,(aw (h_ (I,a.2.1,a.2.2) 4) λz=>GC I t z)=some T/\_
 rw[c.st,h,aR rfl];by_cases e:v=0
 ·subst e;rw[aqG (by omega)];grind
 ·rw[aqH e];grind
end Go.Eng
namespace Go.Eng
structure fy where
 E:k7
 ok:E.mN
 c0:Nat
def bJ(X:fy)(P:H->Prop)(F:ah){α:Type}:dp α->Prop
 | .ok _ r' a=>(P r'/\a=F)\/X.E.g5 X.c0 r' a
 | .deep _=>False
 |_=>True
theorem k7.g5.Ot{E:k7}{n m:Nat}{r:H}{F:ah}(h:E.g5 n r F)(hm:n<=m):E.g5 m r F:=⟨h.sfx,by have:=h.le;omega,h.q⟩
theorem bJ.U6{X:fy}{P:H->Prop}{b:ah}{α:Type}{n:Nat}(au:X.c0<=n){f:ae α}(hf:ab X.E n f){r:H}{F:ah}(h:X.E.g5 X.c0 r F):bJ X P b (f r F):=by
 have:=hf r F (h.Ot au);cases hm:f r F with
 |ok a r' c=>rw[hm] at this;exact .inr (h.down X.ok this.1 this.2)
 |more _ _ _=>trivial
 |bad _=>trivial
 |deep _=>rw[hm] at this;exact this
theorem bJ.N{X:fy}{P c:H->Prop}{F b:ah}{α β:Type}{n:Nat}(au:X.c0<=n){m:ae α}{k:α->ae β}{r:H}(h:bJ X P F (m r b))(av:∀a r',m r b= .ok a r' F->P r'->bJ X c F (k a r' F))(he:∀a,ab X.E n (k a)):bJ X c F (Go.Eng.N m k r b):=by
 unfold Go.Eng.N;cases hm:m r b with
 |ok a r' d=>
  rw[hm] at h;rcases h with⟨M,rfl⟩|M
  ·grind
  grind[bJ.U6]
 |more _ _ _=>trivial
 |bad _=>trivial
 |deep _=>rw[hm] at h;exact h
theorem bJ.imp{X:fy}{P b:H->Prop}{F:ah}{α:Type}{x:dp α}(h:bJ X P F x)(aE:∀r,P r->b r):bJ X b F x:=by
 cases x with
 |ok a r' c=>
  rcases h with⟨M,U⟩|M
  ·exact .inl ⟨aE _ M,U⟩
  ·exact .inr M
 |more _ _ _=>trivial
 |bad _=>trivial
 |deep _=>exact h
theorem bJ.aM{X:fy}{P:H->Prop}{F a:ah}{α:Type}{m:ae α}{x r:H}(h:bJ X P F (m r a)):bJ X P F (m.aM x r a):=by unfold ae.aM;cases hm:m r a<;>rw[hm] at h<;>first|exact h|trivial
theorem bJ.named{X:fy}{P:H->Prop}{F a:ah}{α:Type}{m:ae α}{x r:H}(h:bJ X P F (m r a)):bJ X P F (m.named x r a):=by unfold ae.named;cases hm:m r a<;>rw[hm] at h<;>first|exact h|trivial
def o7(X:fy){α:Type}(x:dp α):Prop:=match x with
 | .ok _ r' a=>X.E.g5 X.c0 r' a
 | .deep _=>False
 |_=>True
def jI(X:fy){α:Type}(x y:dp α):Prop:=x=y\/o7 X x
theorem jI.refl{X:fy}{α:Type}(x:dp α):jI X x x:= .inl rfl
theorem jI.trans{X:fy}{α:Type}{x y z:dp α}(h:jI X x y)(U:jI X y z):jI X x z:=by
 rcases h with rfl|h
 ·exact U
 ·exact .inr h
theorem jI.DF{X:fy}{P:H->Prop}{F:ah}{α:Type}{x y:dp α}(h:jI X x y)(U:bJ X P F y):bJ X P F x:=by
 rcases h with rfl|h
 ·exact U
 ·cases x with
  |ok a r' b=>exact .inr h
  |more _ _ _=>trivial
  |bad _=>trivial
  |deep _=>exact h
theorem jI.rep{X:fy}{σ α:Type}{n:Nat}(au:X.c0<=n){f:σ->ae (σ⊕α)}(hf:∀s,ab X.E n (f s)){s s':σ}{r v:H}{F:ah}(ay:v.length<r.length)
  (h:f s r F= .ok (.inl s') v F\/o7 X (f s r F)):jI X (b8 f s r F) (b8 f s' v F):=by
 rw[cz f s r F];rcases h with h|h
 ·rw[h];left;show(if v.length<r.length then b8 f s' v F else .bad v)=_;grind
 ·right;cases hm:f s r F with
  |ok x r' b=>
   rw[hm] at h;cases x with
   |inl s2=>
    unfold cR;simp only;by_cases M:r'.length<r.length
    ·rw[bc M];have:=ab.rep X.ok hf s2 r' b (h.Ot au);cases c:b8 f s2 r' b with
     |ok a d e=>rw[c] at this;exact h.down X.ok this.1 this.2
     |more _ _ _=>trivial
     |bad _=>trivial
     |deep _=>rw[c] at this;exact this
    ·rw[aO M];trivial
   |inr a=>exact h
  |more _ _ _=>trivial
  |bad _=>trivial
  |deep _=>rw[hm] at h;exact h
def cU(X:fy)(F:ah)(u:H):Prop:=∀t r',10::t<:+u->ks F t= .inl r'->F=[]\/X.E.g5 X.c0 r' []
theorem cU.sfx{X:fy}{F:ah}{u v:H}(h:cU X F u)(a:v<:+u):cU X F v:=λt r' b c=>h t r' (b.trans a) c
theorem cU.nil{X:fy}{u:H}:cU X [] u:=λ_ _ _ _=> .inl rfl
theorem aqJ{X:fy}{t:H}{F:ah}(h:cU X F (10::t)):bJ X (λr=>r=t) F (jt (10::t) F):=by
 show bJ X _ F (match ks F t with| .inl r'=>dp.ok () r' []| .inr nd=> .more [[60,60]] nd []);cases a:ks F t with
 |inl r'=>
  rcases h t r' fq a with rfl|M
  ·cases a;exact .inl ⟨rfl,rfl⟩
  ·exact .inr M
 |inr nd=>trivial
abbrev w2(D:ae Unit):ae Unit:=cJ D (some (e2 D))
def JZ(D:ae Unit):Unit->ae (Unit⊕Unit):=λ_ r F=>match r with
 |[]=>cf [] r F
 |_::_=>if c1 r then .ok (.inr ()) r F else(N (w2 D) λ_=>a1 (.inl ())) r F
def GD(c:UInt8)(p:ae Unit):Unit->ae (Unit⊕Unit):=λ_ r F=>match r with
 |[]=>cf [] r F
 |b::t=>if b=c then .ok (.inr ()) t F else(N p λ_=>a1 (.inl ())) r F
theorem U7(D:ae Unit):cX D=b8 (JZ D) ():=rfl
theorem acy(c:UInt8)(p:ae Unit):jD c p=b8 (GD c p) ():=rfl
section
variable{X:fy}{m:Nat}(hm:X.c0<=m){D:ae Unit}(hD:ab X.E m D)
theorem aqK(hD:ab X.E m D)(s:Unit):ab X.E m (JZ D s):=by
 intro r F h;unfold JZ;cases r with
 |nil=>trivial
 |cons b t=>
  simp only;by_cases a:c1 (b::t)=true
  ·rw[bc a];exact⟨fq,h.q⟩
  ·rw[aO a];exact ab.N X.ok (ab.zp X.ok hD) (λ_=>ab.ret _) _ _ h
theorem aqL{p:ae Unit}(aE:ab X.E m p)(c:UInt8)(s:Unit):ab X.E m (GD c p s):=by
 intro r F h;unfold GD;cases r with
 |nil=>trivial
 |cons b t=>
  simp only;by_cases a:b=c
  ·rw[bc a];exact⟨dL _ _,(h.qS X.ok (dL b t)).q⟩
  ·rw[aO a];exact ab.N X.ok aE (λ_=>ab.ret _) _ _ h
theorem o7.inl{x:ae Unit}{r:H}{F:ah}(h:o7 X (x r F)):o7 X (N x (λ_=>(a1 (.inl ()):ae (Unit⊕Unit))) r F):=by
 unfold N;cases b:x r F with
 |ok a r' c=>rw[b] at h;exact h
 |more _ _ _=>trivial
 |bad _=>trivial
 |deep _=>rw[b] at h;exact h
include hm hD
theorem acz{p v:H}{F:ah}(a:c1 (p++v)=false)(aE:p≠[])(h:w2 D (p++v) F= .ok () v F\/o7 X (w2 D (p++v) F)):jI X (cX D (p++v) F) (cX D v F):=by
 rw[U7];have ay:v.length<(p++v).length:=by grind[List.length_pos_iff]
 refine jI.rep hm (aqK hD) ay ?_;have he:JZ D () (p++v) F=N (w2 D) (λ_=>a1 (.inl ())) (p++v) F:=by unfold JZ;grind
 rw[he];rcases h with h|h
 ·left;rw[aS h];rfl
 ·right;exact h.inl
theorem Ou{p v:H}{F:ah}{c:UInt8}{q:ae Unit}(a:ab X.E m q)(az:p.head?≠some c)(aE:p≠[])(h:q (p++v) F= .ok () v F\/o7 X (q (p++v) F)):jI X (jD c q (p++v) F) (jD c q v F):=by
 rw[acy];have ay:v.length<(p++v).length:=by grind[List.length_pos_iff]
 refine jI.rep hm (aqL a c) ay ?_;have he:GD c q () (p++v) F=N q (λ_=>a1 (.inl ())) (p++v) F:=by
  unfold GD;cases p with
  |nil=>grind
  |cons b t=>grind
 rw[he];rcases h with h|h
 ·left;rw[aS h];rfl
 ·right;exact h.inl
end
def e4(X:fy)(D:ae Unit)(w:H):Prop:=∀v F,v≠[]->cU X F (w++v)->jI X (cX D (w++v) F) (cX D v F)/\jI X (jD 125 (w2 D) (w++v) F) (jD 125 (w2 D) v F)
theorem zS{b:UInt8}{t:H}(M:fJ b=false)(U:b≠10)(a:o1 b=false):c1 (b::t)=false:=by show(fJ b||b==10||bs (b::t)!=[])=false;grind[mU]
section
variable{X:fy}{m:Nat}(hm:X.c0<=m){D:ae Unit}(hD:ab X.E m D)
theorem e4.app{d c:H}(M:e4 X D d)(U:e4 X D c):e4 X D (d++c):=by intro v F e au;rw[ob] at au⊢;have a:=M (c++v) F (by simp[e]) au;have b:=U v F e (au.sfx (fO _ _));exact⟨a.1.trans b.1,a.2.trans b.2⟩
include hm hD
theorem e4.part{p:H}(b:∀v,c1 (p++v)=false)(aE:p≠[])(az:p.head?≠some 125)(h:∀v F,v≠[]->cU X F (p++v)->w2 D (p++v) F= .ok () v F\/o7 X (w2 D (p++v) F)):e4 X D p:=by intro v F a au;exact⟨acz hm hD (b v) aE (h v F a au),Ou hm (hD:=hD) (ab.zp X.ok hD) az aE (h v F a au)⟩
theorem e4.byte{b:UInt8}(M:fJ b=false)(U:b≠10)(a:o1 b=false)(c:b≠92/\b≠39/\b≠34/\b≠96/\b≠36/\b≠125):e4 X D [b]:=by refine e4.part hm hD (λv=>zS M U a) (by simp) (by grind) (λv F d au=> .inl ?_);simp_all[cJ,tb]
theorem e4.bytes:∀{w:H},w≠[]->(w.all λb=> !fJ b&&b !=10&& !o1 b&&b !=92&&b !=39&&b !=34&&b !=96&&b !=36&&b !=125)=true->e4 X D w
 |[],h,_=>absurd rfl h
 |[b],_,h=>by grind[e4.byte]
 |b::c::t,_,h=>by rw[BA,hH] at h;have h0:=h.1;simp at h0;have a:e4 X D [b]:=e4.byte hm hD h0.1.1.1.1.1.1.1.1 h0.1.1.1.1.1.1.1.2 h0.1.1.1.1.1.1.2 ⟨h0.1.1.1.1.1.2,h0.1.1.1.1.2,h0.1.1.1.2,h0.1.1.2,h0.1.2,h0.2⟩;have d:=e4.bytes (w:=c::t) (by simp) h.2;have:=a.app d;exact this
theorem e4.single{x:H}(a:(39:UInt8)∉x):e4 X D (39::x++[39]):=by
 have Y:∀v,gw (x++39::v)=some v:=by
  intro v;induction x with
  |nil=>rfl
  |cons b t c=>simp only[kT,xa] at a;simp_all[gw,yr]
 refine e4.part hm hD (λv=>zS (by decide) (by decide) (by decide)) (by simp) (by simp) (λv F d au=> .inl ?_);simp_all[cJ,tb,jS]
theorem e4.tick{x:H}(a:∀v,hE (x++96::v)=some v):e4 X D (96::x++[96]):=by refine e4.part hm hD (λv=>zS (by decide) (by decide) (by decide)) (by simp) (by simp) (λv F b au=> .inl ?_);show cJ D (some (e2 D)) (96::(x++[96]++v)) F=_;simp_all[cJ,jS]
theorem e4.acA(b:UInt8):e4 X D [92,b]:=by refine e4.part hm hD (λv=>zS (by decide) (by decide) (by decide)) (by simp) (by simp) (λv F a au=> .inl ?_);rfl
end
def uz(X:fy)(D:ae Unit)(x:H):Prop:=∀v F,v≠[]->cU X F (x++v)->jI X (jD 34 (cJ D none) (x++v) F) (jD 34 (cJ D none) v F)
theorem acB{c:UInt8}{p:ae Unit}{v:H}{F:ah}:jD c p (c::v) F= .ok () v F:=by simp[acy,cz,GD,cR]
section
variable{X:fy}{m:Nat}(hm:X.c0<=m){D:ae Unit}(hD:ab X.E m D)
theorem uz.app{b a:H}(M:uz X D b)(U:uz X D a):uz X D (b++a):=by intro v F c au;rw[ob] at au⊢;exact(M (a++v) F (by simp[c]) au).trans (U v F c (au.sfx (fO _ _)))
theorem jI.named{x:H}{α:Type}{f g:ae α}{r r':H}{F a:ah}(h:jI X (f r F) (g r' a)):jI X (f.named x r F) (g.named x r' a):=by
 rcases h with h|h
 ·left;grind[ae.named]
 ·right;unfold ae.named;cases hf:f r F<;>rw[hf] at h<;>first|exact h|trivial
theorem jI.aM{x:H}{α:Type}{f g:ae α}{r r':H}{F a:ah}(h:jI X (f r F) (g r' a)):jI X (f.aM x r F) (g.aM x r' a):=by
 rcases h with h|h
 ·left;grind[ae.aM]
 ·right;unfold ae.aM;cases hf:f r F<;>rw[hf] at h<;>first|exact h|trivial
include hm hD
theorem e4.double{x:H}(a:uz X D x):e4 X D (34::x++[34]):=by
 refine e4.part hm hD (λv=>zS (by decide) (by decide) (by decide)) (by simp) (by simp) (λv F c au=>?_);have he:w2 D (34::x++[34]++v) F=e2 D (x++34::v) F:=by simp[cJ,tb]
 rw[he];have b:cU X F (x++34::v):=au.sfx ⟨[34],by simp⟩;have M:jI X (e2 D (x++34::v) F) (e2 D (34::v) F):=(a (34::v) F (by simp) b).aM.named;have U:e2 D (34::v) F= .ok () v F:=by simp[e2,ae.named,ae.aM,acB]
 rw[U] at M;exact M
theorem uz.byte{b:UInt8}(c:b≠92/\b≠34/\b≠96/\b≠36):uz X D [b]:=by intro v F d au;refine Ou hm (hD:=hD) (ab.part X.ok hD (λq a=>by cases a)) (by grind) (by simp) (.inl ?_);simp_all[cJ,tb]
theorem e4.U8:e4 X D [36,120]:=by
 intro v F d au;have M:w2 D (36::120::v) F= .ok () (120::v) F:=by rfl
 have a:=e4.byte hm hD (b:=120) (by decide) (by decide) (by decide) (by decide) v F d (au.sfx (dL _ _));have e:=acz hm hD (p:=[36]) (v:=120::v) (F:=F) (zS (by decide) (by decide) (by decide)) (by simp) (.inl M);have ak:=Ou hm (hD:=hD) (p:=[36]) (v:=120::v) (F:=F) (c:=125) (ab.zp X.ok hD) (by simp) (by simp) (.inl M);exact⟨e.trans a.1,ak.trans a.2⟩
theorem e4.arith{lo:Option ea}(ay:D=dG lo):e4 X D [36,40,40,49,43,40,50,41,41,41]:=by refine e4.part hm hD (λv=>zS (by decide) (by decide) (by decide)) (by simp) (by simp) (λv F a au=> .inl ?_);show cJ D (some (e2 D)) (36::40::40::49::43::40::50::41::41::41::v) F=_;unfold cJ;simp only;rw[aO (by decide),aO (by decide),bc (by rfl),ay];rfl
theorem e4.consts{lo:Option ea}(ay:D=dG lo):∀w∈nn,e4 X D w:=by
 have a:∀{w:H},w≠[]->(w.all λb=> !fJ b&&b !=10&& !o1 b&&b !=92&&b !=39&&b !=34&&b !=96&&b !=36&&b !=125)=true->e4 X D w:=λM U=>e4.bytes hm hD M U
 intro w c;simp only[nn,GB,fV,q6,kT,q7,uG] at c;rcases c with rfl|rfl|rfl|rfl|rfl|rfl|rfl|rfl|rfl|rfl|rfl|rfl|rfl|rfl|rfl
 ·exact e4.single hm hD (x:=[113,32,114]) (by decide)
 ·exact e4.double hm hD (x:=[97,32,98]) (((uz.byte hm hD (b:=97) (by decide)).app (uz.byte hm hD (b:=32) (by decide))).app (uz.byte hm hD (b:=98) (by decide)))
 ·exact((a (w:=[97]) (by simp) (by decide)).app (e4.acA hm hD 32)).app (a (w:=[98]) (by simp) (by decide))
 ·grind[e4.U8]
 ·grind[e4.arith]
 ·exact e4.tick hm hD (x:=[99,32,100]) (λv=>by simp[hE];unfold hE;simp)
 ·exact a (by simp) (by decide)
 ·exact((a (w:=[97]) (by simp) (by decide)).app (e4.acA hm hD 10)).app (a (w:=[98]) (by simp) (by decide))
 ·exact a (by simp) (by decide)
 ·exact a (by simp) (by decide)
 ·exact a (by simp) (by decide)
 ·exact a (by simp) (by decide)
 ·exact a (by simp) (by decide)
 ·exact a (by simp) (by decide)
 ·exact a (by simp) (by decide)
end
def o8(d:Nat)(x:H):Prop:=∀v,iu d (x++v)=iu d v\/∃q,iu d (x++v)= .bad q
def dT(x:H):Prop:=∀d,o8 d x
theorem o8.app{d:Nat}{x y:H}(M:o8 d x)(U:o8 d y):o8 d (x++y):=by
 intro v;rw[ob];rcases M (y++v) with h|h
 ·rw[h];exact U v
 grind
theorem dT.app{x y:H}(M:dT x)(U:dT y):dT (x++y):=λd=>(M d).app (U d)
theorem dT.nil:dT []:=λd v=> .inl rfl
theorem dT.bad{b:UInt8}{x:H}(h:b=39\/b=34\/b=92\/b=96):dT (b::x):=by intro d v;right;rw[fV,wC,bc (by grind)];simp
theorem dT.opens{c:UInt8}{x:H}(h:c=40\/c=123):dT (36::c::x):=by intro d v;right;rw[List.cons_append,wC,if_pos (by grind[gG])];simp
theorem dT.byte{b:UInt8}(h:b≠39/\b≠34/\b≠92/\b≠96/\b≠36/\b≠40/\b≠41):dT [b]:=by intro d v;simp_all[wC,tb]
theorem dT.bytes:∀{w:H},(w.all λb=>b !=39&&b !=34&&b !=92&&b !=96&&b !=36&&b !=40&&b !=41)=true->dT w
 |[],_=>dT.nil
 |b::t,h=>by rw[BA,hH] at h;have h0:=h.1;simp at h0;have:=(dT.byte (b:=b) ⟨h0.1.1.1.1.1.1,h0.1.1.1.1.1.2,h0.1.1.1.1.2,h0.1.1.1.2,h0.1.1.2,h0.1.2,h0.2⟩).app (dT.bytes h.2);exact this
theorem dT.paren{x:H}(h:dT x):dT ([40]++x++[41]):=by
 intro d v;have M:iu d ([40]++x++[41]++v)=iu (d+1) (x++41::v):=by show iu d (40::(x++[41]++v))=_;simp[wC,gG]
 rw[M];rcases h (d+1) (41::v) with U|U
 ·simp_all[wC,gG]
 grind
theorem dT.U8:dT [36,120]:=by intro d v;simp[wC,gG]
theorem dT.consts:∀w∈nn,dT w:=by
 intro w a;simp only[nn,GB,fV,q6,kT,q7,uG] at a;rcases a with rfl|rfl|rfl|rfl|rfl|rfl|rfl|rfl|rfl|rfl|rfl|rfl|rfl|rfl|rfl
 ·simp[dT.bad]
 ·simp[dT.bad]
 ·exact(dT.bytes (w:=[97]) (by decide)).app (dT.bad (b:=92) (x:=[32,98]) (by simp))
 ·exact dT.U8
 ·simp[dT.opens]
 ·simp[dT.bad]
 ·simp[dT.bytes]
 ·exact(dT.bytes (w:=[97]) (by decide)).app (dT.bad (b:=92) (x:=[10,98]) (by simp))
 ·simp[dT.bytes]
 ·simp[dT.bytes]
 ·simp[dT.bytes]
 ·simp[dT.bytes]
 ·simp[dT.bytes]
 ·simp[dT.bytes]
 simp[dT.bytes]
theorem dT.word{d:Nat}{w:H}(h:fU d w):dT w:=by
 cases d with
 |zero=>exact dT.consts w h
 |succ d=>
  rcases h with h|⟨t,_,h|h⟩|⟨v,_,h⟩
  ·grind[dT.consts]
  ·simp_all[dT.opens]
  ·grind[dT.bad]
  simp_all[dT.opens]
theorem dT.args{W:H->Prop}(hW:∀w,W w->dT w):∀{ws:bx},(∀w∈ws,W w)->dT (jc ws)
 |[],_=>dT.nil
 |w::t,h=>by have:=(dT.bytes (w:=[32]) (by decide)).app ((hW w (h w (by simp))).app (dT.args hW (ws:=t) (λw a=>h w (by grind))));exact this
theorem aqM:∀h∈q3,dT h:=by intro h a;simp only[q3,kT,q7,uG] at a;rcases a with rfl|rfl|rfl|rfl<;>exact dT.bytes (by decide)
theorem dT.simple{W a:H->Prop}(hW:∀w,W w->dT w)(d:∀w,a w->dT w){s:H}(h:qm W a s):dT s:=by
 obtain⟨c,ws,r,M,U,rfl,b⟩:=h;refine((aqM c M).app (dT.args hW U)).app ?_;rcases b with rfl|rfl|⟨w,e,rfl⟩
 ·exact dT.nil
 ·simp[dT.bytes]
 grind[dT.bytes,dT.app]
theorem aqN:∀h∈jl,dT h:=by intro h a;simp only[jl,kT,q7,uG] at a;rcases a with rfl|rfl|rfl|rfl|rfl|rfl|rfl|rfl<;>exact dT.bytes (by decide)
theorem o8.rest{d:Nat}{C:H->Prop}(a:∀c,C c->o8 d c):∀{l:List (H×H)},(∀p∈l,p.1∈jl/\C p.2)->o8 d (cN l)
 |[],_=>dT.nil d
 |p::t,h=>by have:=((aqN p.1 (h p (by simp)).1 d).app (a p.2 (h p (by simp)).2)).app (o8.rest a (l:=t) (λq b=>h q (by grind)));exact this
theorem o8.aqO{c:H}(h:zR 1 c):o8 0 c:=by
 rcases h with h|h
 ·exact dT.simple (λw e=>dT.word (d:=1) e) (λw e=>dT.word (d:=0) e) h 0
 ·have bk:∀t,gi 0 t->dT t:=λt i=>by
   intro d;obtain⟨c,l,M,U,rfl⟩:=i;have g:∀c,qm (λw=>w∈nn) (λw=>w∈nn) c->o8 d c:=λc az=>dT.simple dT.consts dT.consts az d
   exact(g c M).app (o8.rest g U)
  have hW:∀w,fU 0 w->dT w:=λw e=>dT.consts w e
  have a:∀{w:H},(w.all λb=>b !=39&&b !=34&&b !=92&&b !=96&&b !=36&&b !=40&&b !=41)=true->dT w:=λh=>dT.bytes h
  rcases h with⟨t,M,rfl⟩|⟨t,M,rfl⟩|⟨t,u,M,U,rfl⟩|⟨t,u,M,U,rfl⟩|⟨t,u,M,U,rfl⟩|⟨w,u,M,U,rfl⟩|rfl|⟨w,u,M,U,rfl⟩|⟨t,M,rfl⟩
  ·exact dT.paren (bk t M) 0
  ·exact(((a (by decide)).app ((bk t M).app (a (by decide)))).app (a (by decide))) 0
  ·exact(((((a (by decide)).app ((bk t M).app (a (by decide)))).app (a (by decide))).app ((bk u U).app (a (by decide)))).app (a (by decide))) 0
  ·exact(((((a (by decide)).app ((bk t M).app (a (by decide)))).app (a (by decide))).app ((bk u U).app (a (by decide)))).app (a (by decide))) 0
  ·exact(((((a (by decide)).app ((bk t M).app (a (by decide)))).app (a (by decide))).app ((bk u U).app (a (by decide)))).app (a (by decide))) 0
  ·exact(((((a (by decide)).app (hW w M)).app (a (by decide))).app ((bk u U).app (a (by decide)))).app (a (by decide))) 0
  ·exact a (by decide) 0
  ·
   have f:o8 0 ([99,97,115,101,32]++w++[32,105,110,32,97,124,98]):=(((a (by decide)).app (hW w M)).app (a (by decide))) 0;intro v;have he:[99,97,115,101,32]++w++[32,105,110,32,97,124,98,41,32]++(u++[])++[59,59,10,40,99,41,32,59,59,32,100,41,32,101,115,97,99]++v=([99,97,115,101,32]++w++[32,105,110,32,97,124,98])++(41::32::(u++[59,59,10,40,99,41,32,59,59,32,100,41,32,101,115,97,99]++v)):=by simp
   rw[he];right;rcases f (41::32::(u++[59,59,10,40,99,41,32,59,59,32,100,41,32,101,115,97,99]++v)) with aV|aV
   ·simp_all[wC]
   omega
  ·have f:dT ([102]++([40]++[]++[41])++[32,123,10]++(t++[10])++[125,32,62,102]):=((((a (by decide)).app (dT.paren dT.nil)).app (a (by decide))).app ((bk t M).app (a (by decide)))).app (a (by decide));exact f 0
theorem o8.aqP{d:Nat}(aD:d<=1){t:H}(h:gi d t):o8 0 t:=by
 rw[Oo] at h;obtain⟨c,l,M,U,rfl⟩:=h
 have b:∀c,zR d c->o8 0 c:=by
  intro c az;rcases Nat.le_one_iff_eq_zero_or_eq_one.1 aD with rfl|rfl
  ·exact dT.simple (λw a=>dT.word (d:=0) a) (λw a=>dT.word (d:=0) a) az 0
  grind[o8.aqO]
 exact(b c M).app (o8.rest b U)
def U9(X:fy)(m d:Nat):Prop:=∀t v F,gi d t->cU X F (t++41::v)->bJ X (λr=>r=41::v) F ((aU true m).ls .paren true (t++41::v) F)
theorem oM(v:H):bo (41::v)=some (41::v):=by unfold bo;rfl
theorem m1(v:H):aq (41::v)= .op [41]:=by rfl
theorem aqQ{d:Nat}{c:H}(h:zR d c):∃b t,c=b::t/\(b=40->∃a u,d=a+1/\gi a u/\c=[40]++u++[41]):=by
 have Y:∀{W e:H->Prop},qm W e c->∃b t,c=b::t/\(b=40->∃a u,d=a+1/\gi a u/\c=[40]++u++[41]):=by rintro W e ⟨x,ws,r,M,U,rfl,f⟩;simp only[q3,kT,q7,uG] at M;grind
 cases d with
 |zero=>exact Y h
 |succ d=>
  rcases h with h|h
  ·grind
  ·rcases h with⟨t,M,rfl⟩|⟨t,M,rfl⟩|⟨t,u,M,U,rfl⟩|⟨t,u,M,U,rfl⟩|⟨t,u,M,U,rfl⟩|⟨w,u,M,U,rfl⟩|rfl|⟨w,u,M,U,rfl⟩|⟨t,M,rfl⟩
   ·grind
   all_goals simp
theorem aqR:∀j∈jl,∃b t,j=b::t/\b≠41:=by simp[jl]
section
variable{X:fy}{m:Nat}(hm:X.c0<=m)
include hm in
theorem U_{d:Nat}(aD:d<=2)(eG:U9 X m d)(bk:xN X.E m){t v:H}{F:ah}(an:gi d t)(au:cU X F ([36,40]++t++[41]++v)):dG (some (aU true m)) ([36,40]++t++[41]++v) F= .ok () v F\/o7 X (dG (some (aU true m)) ([36,40]++t++[41]++v) F):=by
 have he:[36,40]++t++[41]++v=36::40::(t++41::v):=by simp
 rw[he] at au⊢;have vr:=an;rw[Oo] at vr;obtain⟨c,l,M,U,l8⟩:=vr;obtain⟨b,nx,az,gz⟩:=aqQ M;by_cases hb:b=40
 ·
  obtain⟨d1,u,rfl,hu,NJ⟩:=gz hb;subst l8;have c4:dG (some (aU true m)) (36::40::(c++cN l++41::v)) F=n3 (u++(41::(cN l++41::v))) F:=by rw[NJ];unfold dG;rw[bc (by simp)];show n3 _ F=_;simp
  rw[c4];unfold n3;rcases o8.aqP (by omega) hu (41::(cN l++41::v)) with al|⟨q,al⟩
  ·rw[al];cases l with
   |nil=>left;rfl
   |cons p l=>
    obtain⟨aqS,aqT,cD,auA⟩:=aqR p.1 (U p (by simp)).1;right
    have:∃q,iu 0 (41::(cN (p::l)++41::v))= .bad q:=by
     have aa:cN (p::l)++41::v=aqS::(aqT++p.2++cN l++41::v):=by grind[cN]
     simp_all[wC]
    obtain⟨q,aF⟩:=this;rw[aF];trivial
  ·right;rw[al];trivial
 ·have c4:dG (some (aU true m)) (36::40::(t++41::v)) F=vk (aU true m) (t++41::v) F:=by
   have acC:∃SO,t=b::SO:=⟨nx++cN l,by grind⟩
   obtain⟨SO,acC⟩:=acC;unfold dG;rw[aO (by grind),if_pos (by simp)];rfl
  rw[c4];have h7:cU X F (t++41::v):=au.sfx ⟨[36,40],rfl⟩;have al:=eG t v F an h7;have aV:bJ X (λr=>r=v) F (vk (aU true m) (t++41::v) F):=by unfold vk;refine bJ.N hm al.aM.named (λa r' _ xT=>?_) (λa=>ab.j1 X.ok _);subst xT;rw[A3 (oM v) (m1 v)];exact .inl ⟨rfl,rfl⟩
  cases aE:vk (aU true m) (t++41::v) F with
  |ok a r' aG=>
   rw[aE] at aV;rcases aV with⟨rfl,rfl⟩|aV
   ·simp
   ·exact .inr aV
  |more _ _ _=>right;trivial
  |bad _=>right;trivial
  |deep _=>rw[aE] at aV;exact aV.elim
end
theorem aqU(n:Nat):(aU true n).pm=rA (aU true n).dl:=by cases n<;>rfl
theorem acD{E:k7}(ok:E.mN){m:Nat}(bk:xN E m):ab E (m+1) (dG (some (aU true m))):=ab.S4 ok (.inr ⟨m,rfl,rfl,bk⟩)
section
variable{X:fy}{m:Nat}(hm:X.c0<=m)(bk:xN X.E m)
include hm bk
theorem acE{w v:H}{F:ah}(c:e4 X (aU true m).dl w)(au:cU X F ([36,123,120,58,45]++w++[125]++v)):dG (some (aU true m)) ([36,123,120,58,45]++w++[125]++v) F= .ok () v F\/o7 X (dG (some (aU true m)) ([36,123,120,58,45]++w++[125]++v) F):=by
 have he:[36,123,120,58,45]++w++[125]++v=36::123::([120,58,45]++(w++125::v)):=by simp
 rw[he] at au⊢;have d:dG (some (aU true m)) (36::123::([120,58,45]++(w++125::v))) F=((aU true m).pm.named [36,123]) ([120,58,45]++(w++125::v)) F:=by rfl
 rw[d,aqU];have a:cU X F ([120,58,45]++(w++125::v)):=au.sfx ⟨[36,123],rfl⟩;have M:=(e4.bytes hm bk.dl (w:=[120,58,45]) (by simp) (by decide) (w++125::v) F (by simp) a).2;have U:=(c (125::v) F (by simp) (a.sfx (fO _ _))).2;have b:=(M.trans U);rw[acB] at b;have e:jI X (((rA (aU true m).dl).named [36,123]) ([120,58,45]++(w++125::v)) F) (.ok () v F):=by have:jI X (((jD 125 (w2 (aU true m).dl)).aM [125]).named [36,123] ([120,58,45]++(w++125::v)) F) (((a1 ():ae Unit).aM [125]).named [36,123] v F):=jI.named (jI.aM b);exact this
 exact e
theorem e4.Va{p:H}(aE:∃c q,p=36::c::q/\(c=40\/c=123))(h:∀v F,v≠[]->cU X F (p++v)->dG (some (aU true m)) (p++v) F= .ok () v F\/o7 X (dG (some (aU true m)) (p++v) F)):e4 X (dG (some (aU true m))) p/\uz X (dG (some (aU true m))) p:=by
 obtain⟨c,q,rfl,az⟩:=aE;have hD:=acD X.ok bk
 have d:∀dq v F,cJ (dG (some (aU true m))) dq (36::c::q++v) F=dG (some (aU true m)) (36::c::q++v) F:=by intro dq v F;show cJ (dG (some (aU true m))) dq (36::c::(q++v)) F=_;unfold cJ;simp only;rw[aO (by decide),aO (by decide),bc (by rcases az with rfl|rfl<;>rfl)];rfl
 refine⟨e4.part (by omega) hD (λv=>zS (by decide) (by decide) (by decide)) (by simp) (by simp) (λv F a au=>?_),λv F a au=>?_⟩
 ·grind
 ·refine Ou (m:=m+1) (by omega) (hD:=hD) (ab.part X.ok hD (λq b=>by cases b)) (by simp) (by simp) ?_;grind
theorem acF{d:Nat}(aD:d<=2)(eG:U9 X m d)(hW:∀w,fU d w->e4 X (aU true m).dl w):∀w,fU (d+1) w->e4 X (dG (some (aU true m))) w:=by
 have hD:=acD X.ok bk;intro w h;rcases h with h|⟨t,M,h|h⟩|⟨v,M,h⟩
 ·exact e4.consts (m:=m+1) (by omega) hD rfl w h
 ·subst h;exact(e4.Va hm bk ⟨40,t++[41],rfl,.inl rfl⟩ (λv F a au=>U_ hm aD eG bk M au)).1
 ·subst h;have U:=(e4.Va hm bk (p:=[36,40]++t++[41]) ⟨40,t++[41],rfl,.inl rfl⟩ (λv F a au=>U_ hm aD eG bk M au)).2;have c:=e4.double (m:=m+1) (by omega) hD (uz.app (uz.byte (m:=m+1) (by omega) hD (b:=120) (by decide)) U);grind
 ·subst h;exact(e4.Va hm bk ⟨123,[120,58,45]++v++[125],rfl,.inr rfl⟩ (λu F hu au=>acE hm bk (hW v M) au)).1
end
structure eg(v v':H):Prop where
 ne:v≠[]
 o9:c1 v=true
 pH:bo v=some v'
 Ov:aq v'= .line\/∃o,aq v'= .op o/\ff o=false/\o≠[40]
theorem eg.idem{v v':H}(h:eg v v'):bo v'=some v':=l1 _ _ _ (cF _) h.pH
theorem eg.aqV{v v':H}(h:eg v v'):ff (bs (v'.dropWhile ch))=false:=by
 rcases h.Ov with a|⟨o,a,M,U⟩
 ·obtain⟨t,rfl⟩:=wD a;rfl
 ·have c:=(h4 a).1;have bf:=(h4 a).2.2.2;cases v' with
  |nil=>simp_all
  |cons b t=>
   have d:ch b=false:=by
    cases aD:ch b with
    |false=>rfl
    |true=>simp_all[A6,mU]
   simp_all
theorem eg.jF{v v':H}(h:eg v v')(D:ae Unit)(F:ah):dz D v F= .ok false v' F:=td h.pH h.aqV
theorem eg.nc{v v':H}(h:eg v v')(D:ae Unit)(F:ah):g7 D v F= .ok () v' F:=by unfold g7;rw[cz,aS (h.jF D F)];rfl
theorem eg.simple{v v':H}(h:eg v v')(D:ae Unit)(F:ah):g8 true D v F= .ok () v' F:=by
 unfold g8;rw[cz,aS (h.jF D F)];simp only[eQ,cA];rw[aS (cu h.idem)];rcases h.Ov with a|⟨o,a,M,U⟩
 ·rw[a];rfl
 ·rw[a];simp only;rw[aO (λb=>U b.2)];rfl
def ye(w:H):Prop:=∃b t,w=b::t/\fJ b=false/\b≠10/\b≠92/\b≠35/\o1 b=false/\ch b=false
theorem Ow{d:Nat}{w:H}(h:fU d w):ye w:=by
 have av:∀w∈nn,ye w:=by intro w a;simp only[nn,GB,fV,q6,kT,q7,uG] at a;rcases a with rfl|rfl|rfl|rfl|rfl|rfl|rfl|rfl|rfl|rfl|rfl|rfl|rfl|rfl|rfl<;>exact⟨_,_,rfl,by decide,by decide,by decide,by decide,by decide,by decide⟩
 cases d with
 |zero=>exact av w h
 |succ d=>
  rcases h with h|⟨t,_,h|h⟩|⟨v,_,h⟩
  ·grind
  all_goals (subst h;exact⟨_,_,rfl,by decide,by decide,by decide,by decide,by decide,by decide⟩)
theorem ye.tok{w u:H}(h:ye w):bo (w++u)=some (w++u)/\(∃x p,aq (w++u)= .word x p)/\ff (bs ((w++u).dropWhile ch))=false:=by
 obtain⟨b,t,rfl,M,U,a,c,d,e⟩:=h;refine⟨jG M c a,?_,?_⟩
 ·show∃x p,aq (b::(t++u))= .word x p
  have:aq (b::(t++u))=if b=10 then Tok.line else if bs (b::(t++u))≠[] then .op (bs (b::(t++u))) else .word (dc (b::(t++u))).1 (dc (b::(t++u))).2:=rfl
  simp_all[mU]
 ·have:(b::t++u).dropWhile ch=b::t++u:=by simp_all
  rw[this,fV,mU d];decide
section
variable{X:fy}{m:Nat}(hm:X.c0<=m){D:ae Unit}(hD:ab X.E m D)
include hm hD
theorem aqW{w u:H}{F:ah}(a:ye w)(c:e4 X D w)(hu:c1 u=true)(d:u≠[])(au:cU X F (w++u)):jI X (g8 true D (32::(w++u)) F) (g8 true D u F):=by
 obtain⟨e,⟨x,p,f⟩,g⟩:=a.tok (u:=u);have h:bo (32::(w++u))=some (w++u):=by grind[kx]
 unfold g8;have i:cX D u F= .ok () u F:=by
  rw[U7,cz];cases u with
  |nil=>grind
  |cons b t=>show cR _ _ (if c1 (b::t)=true then _ else _)=_;rw[bc hu];rfl
 have M:=(c u F d au).1;rw[i] at M;refine jI.rep hm (λs=>?_) (s:=()) (s':=()) (v:=u) (by grind) ?_
 ·refine ab.N X.ok (ab.jF X.ok hD) λb=>ab.ite (ab.ret _) (ab.ga X.ok λt=>?_);cases t with
  |word _ _=>exact ab.N X.ok (ab.cX X.ok hD) λ_=>ab.ret _
  |op o=>simp[ab.ite,ab.bP,ab.ret]
  |line=>simp[ab.ret]
  |eof=>simp[ab.ret]
 ·rw[aS (td h g)];simp only[eQ,cA];rw[aS (cu e),f];simp only;rcases M with M|M
  ·left;rw[aS M];rfl
  ·right;exact M.inl
end
theorem J0{D:ae Unit}{u:H}{F:ah}(hu:c1 u=true)(a:u≠[]):cX D u F= .ok () u F:=by
 rw[U7,cz];cases u with
 |nil=>grind
 |cons b t=>show cR _ _ (if c1 (b::t)=true then _ else _)=_;rw[bc hu];rfl
def GF(D:ae Unit):Unit->ae (Unit⊕Unit):=λ_=>N (dz D) λb=>if b then a1 (.inl ()) else N (bV []) λt=>match t with
 | .word _ _=>N (cX D) λ_=>a1 (.inl ())
 | .op o=>if true/\o=[40] then bP else a1 (.inr ())
 |_=>a1 (.inr ())
theorem acG{b:UInt8}{t:H}(h:o1 b=false):bs (62::b::t)=[62]:=by simp only[o1,Kh,OY,ne_eq] at h;simp_all[yr,bs,kd]
theorem o7.N{X:fy}{n:Nat}(au:X.c0<=n){α β:Type}{f:ae α}{k:α->ae β}{r:H}{F:ah}(h:o7 X (f r F))(av:∀a,ab X.E n (k a)):o7 X (Go.Eng.N f k r F):=by
 unfold Go.Eng.N;cases b:f r F with
 |ok a r' c=>
  rw[b] at h;have:=av a r' c (k7.g5.Ot h au);simp only;cases d:k a r' c with
  |ok _ _ _=>rw[d] at this;exact k7.g5.down X.ok h this.1 this.2
  |more _ _ _=>trivial
  |bad _=>trivial
  |deep _=>rw[d] at this;exact this
 |more _ _ _=>trivial
 |bad _=>trivial
 |deep _=>rw[b] at h;exact h
section
variable{X:fy}{m:Nat}(hm:X.c0<=m){D:ae Unit}(hD:ab X.E m D)
include hm hD
theorem acH{W:H->Prop}(hW:∀w,W w->ye w/\e4 X D w){u:H}(hu:c1 u=true)(c:u≠[]):∀{ws:bx}{F:ah},(∀w∈ws,W w)->cU X F (jc ws++u)->jI X (g8 true D (jc ws++u) F) (g8 true D u F)
 |[],F,_,_=>jI.refl _
 |w::t,F,h,au=>by
  have he:jc (w::t)++u=32::(w++(jc t++u)):=by simp[jc]
  rw[he] at au⊢;have b:cU X F (w++(jc t++u)):=au.sfx (dL _ _);have d:c1 (jc t++u)=true:=by
   cases t with
   |nil=>grind[jc]
   |cons a t=>rfl
  obtain⟨M,U⟩:=hW w (h w (by simp));exact(aqW hm hD M U d (by simp_all) b).trans (acH hW hu c (ws:=t) (λw e=>h w (by grind)) (b.sfx (List.suffix_append _ _)))
theorem aqX{W:H->Prop}(hW:∀w,W w->ye w/\e4 X D w){r v v':H}{F:ah}(g:r=[]\/r=[32,50,62,38,49]\/∃w,W w/\r=[32,62]++w)(a:eg v v')(au:cU X F (r++v)):bJ X (λq=>q=v') F (g8 true D (r++v) F):=by
 have d:bJ X (λq=>q=v') F (g8 true D v F):=by rw[a.simple];exact .inl ⟨rfl,rfl⟩
 have c:∀s,ab X.E m (GF D s):=λs=>by
  unfold GF;refine ab.N X.ok (ab.jF X.ok hD) λb=>ab.ite (ab.ret _) (ab.ga X.ok λt=>?_);cases t with
  |word _ _=>exact ab.N X.ok (ab.cX X.ok hD) λ_=>ab.ret _
  |op o=>simp[ab.ite,ab.bP,ab.ret]
  |line=>simp[ab.ret]
  |eof=>simp[ab.ret]
 have e:∀{u:H},v.length<u.length->(dz D u F= .ok true v F\/o7 X (dz D u F))->jI X (g8 true D u F) (g8 true D v F):=by
  intro u ay h;show jI X (b8 (GF D) () u F) (b8 (GF D) () v F);refine jI.rep hm c ay ?_;rcases h with h|h
  ·left;unfold GF;rw[aS h];rfl
  ·right;unfold GF;refine o7.N hm h λb=>ab.ite (ab.ret _) (ab.ga X.ok λt=>?_);cases t with
   |word _ _=>exact ab.N X.ok (ab.cX X.ok hD) λ_=>ab.ret _
   |op o=>simp[ab.ite,ab.bP,ab.ret]
   |line=>simp[ab.ret]
   |eof=>simp[ab.ret]
 rcases g with rfl|rfl|⟨w,i,rfl⟩
 ·grind
 ·refine(e (u:=32::50::62::38::49::v) (by grind) (.inl ?_)).DF d;have M:fL (32::50::62::38::49::v) F= .ok (some [62,38]) (49::v) F:=by unfold fL;rw[kx,jG (by decide) (by decide) (by decide)];rfl
  unfold dz;rw[aS M];simp only;rw[aO (by decide),aO (by decide)];have U:ke D [120] (49::v) F= .ok () v F:=by
   unfold ke;rw[aS (cu (jG (by decide) (by decide) (by decide)))]
   have:∃x p,aq (49::v)= .word x p:=by
    have:aq (49::v)=if(49:UInt8)=10 then Tok.line else if bs (49::v)≠[] then .op (bs (49::v)) else .word (dc (49::v)).1 (dc (49::v)).2:=rfl
    rw[this,aO (by decide),mU (by decide)];simp
   obtain⟨x,p,j⟩:=this;rw[j];simp only;rw[C5 (zS (by decide) (by decide) (by decide)) (Zt (by decide)) (by simp),J0 a.o9 a.ne]
  rw[aS U];rfl
 ·obtain⟨M,U⟩:=hW w i;refine(e (u:=32::62::(w++v)) (by grind) ?_).DF d;obtain⟨k,⟨x,p,l⟩,B⟩:=M.tok (u:=v);have n:fL (32::62::(w++v)) F= .ok (some [62]) (w++v) F:=by
   unfold fL;rw[kx,jG (by decide) (by decide) (by decide)];obtain⟨b,t,rfl,_,_,_,_,bn,_⟩:=M;have y:bs (62::(b::t++v))=[62]:=acG bn;have aD:(62::(b::t++v):H).dropWhile ch=62::(b::t++v):=by rfl
   simp only;rw[aD,y,bc (by decide)];rfl
  have z:cU X F (w++v):=au.sfx ⟨[32,62],rfl⟩;have f:=(U v F a.ne z).1;rw[J0 a.o9 a.ne] at f;have bn:ke D [120] (w++v) F= .ok () v F\/o7 X (ke D [120] (w++v) F):=by unfold ke;rw[aS (cu k),l];exact f
  have A:dz D (32::62::(w++v)) F=N (ke D [120]) (λ_=>a1 true) (w++v) F:=by unfold dz;rw[aS n];simp
  rw[A];rcases bn with bn|bn
  ·left;rw[aS bn];rfl
  grind[o7.N,ab.ret]
end
def acI(h:H):Prop:=h≠[]/\h.all qR=true/\rB h=false/\oC h=false/\(∃b t,h=b::t/\fJ b=false/\b≠92/\b≠35/\ch b=false/\o1 b=false)
theorem aqY:∀h∈q3,acI h:=by intro h a;simp only[q3,kT,q7,uG] at a;rcases a with rfl|rfl|rfl|rfl<;>exact⟨by decide,by decide,by decide,by decide,_,_,rfl,by decide,by decide,by decide,by decide,by decide⟩
theorem aqZ{ws:bx}{r v:H}(b:r=[]\/∃t,r=32::t)(c:c1 v=true):c1 (jc ws++(r++v))=true:=by
 cases ws with
 |nil=>
  rcases b with rfl|⟨t,rfl⟩
  ·grind[jc]
  ·rfl
 |cons a t=>rfl
def w3(W a:H->Prop)(s:H):Prop:=∃h ws r,acI h/\(∀w∈ws,W w)/\s=h++jc ws++r/\(r=[]\/r=[32,50,62,38,49]\/∃w,a w/\r=[32,62]++w)
theorem qm.q{W a:H->Prop}{s:H}(h:qm W a s):w3 W a s:=by obtain⟨h,ws,r,M,U⟩:=h;exact⟨h,ws,r,aqY h M,U⟩
theorem w3.one{W a:H->Prop}{b:UInt8}(h:b=97\/b=98\/b=99):w3 W a [b]:=by refine⟨[b],[],[],?_,by simp,by rfl,.inl rfl⟩;rcases h with rfl|rfl|rfl<;>exact⟨by decide,by decide,by decide,by decide,_,_,rfl,by decide,by decide,by decide,by decide,by decide⟩
section
variable{X:fy}{m:Nat}(hm:X.c0<=m){D:ae Unit}(hD:ab X.E m D)
include hm hD
theorem aq0(C:iw D){W m:H->Prop}(hW:∀w,W w->ye w/\e4 X D w)(n:∀w,m w->ye w/\e4 X D w){s v v':H}{F:ah}{lo:Option ea}(Y:w3 W m s)(e:eg v v')(au:cU X F (s++v)):bJ X (λq=>q=v') F (fG true lo D (s++v) F):=by
 obtain⟨h,ws,r,M,U,rfl,y⟩:=Y;obtain⟨E,ak,a3,P,b,t,G,Q,R,S,T,I⟩:=M
 have z:r=[]\/∃t,r=32::t:=by grind
 have he:h++jc ws++r++v=h++(jc ws++(r++v)):=by simp
 rw[he] at au⊢;have hu:=aqZ (ws:=ws) z e.o9;have V:bJ X (λq=>q=v') F (g8 true D (jc ws++(r++v)) F):=by
  have g:c1 (r++v)=true:=by
   rcases z with rfl|⟨t,rfl⟩
   ·exact e.o9
   ·rfl
  have A:cU X F (jc ws++(r++v)):=au.sfx (fO _ _);exact(acH hm hD hW g (by simp[e.ne]) U A).DF (aqX hm hD n y e (A.sfx (fO _ _)))
 have J:∀a,bo (jc ws++(r++v))=some a->aq a≠ .op [40]:=by
  intro a i;cases ws with
  |cons w ws=>
   have Z:jc (w::ws)++(r++v)=32::(w++(jc ws++(r++v))):=by simp[jc]
   obtain⟨bQ,⟨x,p,bT⟩,_⟩:=(hW w (U w (by simp))).1.tok (u:=jc ws++(r++v));grind[kx]
  |nil=>
   rcases y with rfl|rfl|⟨w,j,rfl⟩
   ·have d:bo v=some a:=i;rw[e.pH] at d;cases d;rcases e.Ov with K|⟨o,K,_,aN⟩
    ·grind
    grind
   ·have d:bo (32::50::62::38::49::v)=some a:=i;rw[kx,jG (by decide) (by decide) (by decide)] at d;cases d;intro k;have:=(mB (by simp)).1 k;rw[mU (by decide)] at this;grind
   ·have d:bo (32::62::(w++v))=some a:=i;rw[kx,jG (by decide) (by decide) (by decide)] at d;cases d;intro k;have c9:=(mB (by simp)).1 k;obtain⟨c,t,rfl,_,_,_,_,fW,_⟩:=(n w j).1;grind[acG]
 generalize g9:jc ws++(r++v)=u at*;have lT:u≠[]:=by rw[<-g9];simp[e.ne]
 have L:=n7 E ak hu;have B:bo (h++u)=some (h++u):=by grind[jG]
 have N:ff (bs ((h++u).dropWhile ch))=false:=by
  rw[G];have:(b::t++u).dropWhile ch=b::t++u:=by simp_all
  rw[this,fV,mU I];decide
 unfold fG;rw[aS (cu B),L,aO (by simp),aO (by grind[gg])];simp only[Ki];rw[aO (by grind),aS (td B N)];simp only[Bool.false_eq_true,if_false];have j:cX D (h++u) F= .ok () u F:=by grind[S0,J0]
 rw[aS j];by_cases O:my h=true
 ·rw[bc O];cases f:bo u with
  |none=>rw[dt (op:=[]) (nd:=(cW [] F []).1) (ds:=(cW [] F []).2) (iY f)];trivial
  |some a=>rw[aS (cu f)];rw[aO (J a f)];have l:=l1 _ _ _ (cF _) f;rw[<-apr f l (ef f).length_le C];omega
 grind
end
theorem aq3{E:k7}(ok:E.mN){n:Nat}(b:Bool):ab E n (hX b):=ab.ga ok λt=>ab.ite (ab.N ok (ab.nl ok) λ_=>ab.ret _) (ab.ret _)
section
variable{X:fy}{m:Nat}(hm:X.c0<=m)
include hm
theorem acJ{x:H}{F:ah}{b:Bool}{u:H}(hu:bo u=some (10::x))(c:bo x=some x)(d:aq x≠ .line)(au:cU X F (10::x)):bJ X (λr=>r=x) F (b8 hX b u F):=by
 have M:=aqJ au;have g:=(ef hu).length_le;have e:hX b u F= .ok (.inl true) x F\/o7 X (hX b u F):=by
  rw[ub hu];unfold Go.Eng.N;cases aE:jt (10::x) F with
  |ok a r' h=>
   rw[aE] at M;rcases M with⟨rfl,rfl⟩|M
   ·exact .inl rfl
   ·exact .inr M
  |more _ _ _=>right;trivial
  |bad _=>right;trivial
  |deep _=>rw[aE] at M;exact M.elim
 have U:=jI.rep hm (f:=hX) (λs=>aq3 X.ok s) (s:=b) (s':=true) (r:=u) (v:=x) (F:=F) (by grind) e;refine U.DF ?_;rw[cz,rH c d];exact .inl ⟨rfl,rfl⟩
theorem zT{j x:H}{F:ah}(b:j=[32]\/j=[10]\/j=[32,35,32,114,10])(c:bo x=some x)(a:aq x≠ .line)(au:cU X F (j++x)):bJ X (λr=>r=x) F (c2 (j++x) F):=by
 rw[rG];rcases b with rfl|rfl|rfl
 ·have:bo ([32]++x)=some x:=by grind[kx]
  rw[cz,rH this a];exact .inl ⟨rfl,rfl⟩
 ·grind[acJ,nK,fJ]
 ·have:bo ([32,35,32,114,10]++x)=some (10::x):=by simp[nK,fJ,lW]
  exact acJ hm this c a (au.sfx ⟨[32,35,32,114],rfl⟩)
end
theorem Oy{j:H}(h:j∈jl):j=[10]\/∃o a,(a=[32]\/a=[10]\/a=[32,35,32,114,10])/\(o=[38,38]\/o=[124,124]\/o=[124]\/o=[59]\/o=[38])/\c1 j=true/\(∀x,bo (j++x)=some (o++(a++x))/\aq (o++(a++x))= .op o)/\(o++a).length<=j.length:=by
 have Ov:∀{b:UInt8}{t o:H},b≠10->bs (b::t)=o->o≠[]->aq (b::t)= .op o:=by
  intro b t o c d au;have:aq (b::t)=if b=10 then Tok.line else if bs (b::t)≠[] then .op (bs (b::t)) else .word (dc (b::t)).1 (dc (b::t)).2:=rfl
  grind
 simp only[jl,kT,q7,uG] at h;rcases h with rfl|rfl|rfl|rfl|rfl|rfl|rfl|rfl
 ·refine .inr ⟨[38,38],[32],by simp,by simp,rfl,λx=>⟨?_,?_⟩,by decide⟩
  ·show bo (32::38::38::32::x)=_;rw[kx,jG (by decide) (by decide) (by decide)];rfl
  rfl
 ·refine .inr ⟨[124,124],[32],by simp,by simp,rfl,λx=>⟨?_,?_⟩,by decide⟩
  ·show bo (32::124::124::32::x)=_;rw[kx,jG (by decide) (by decide) (by decide)];rfl
  rfl
 ·refine .inr ⟨[124],[32],by simp,by simp,rfl,λx=>⟨?_,?_⟩,by decide⟩
  ·show bo (32::124::32::x)=_;rw[kx,jG (by decide) (by decide) (by decide)];rfl
  rfl
 ·refine .inr ⟨[59],[32],by simp,by simp,rfl,λx=>⟨?_,?_⟩,by decide⟩
  ·show bo (59::32::x)=_;rw[jG (by decide) (by decide) (by decide)];rfl
  rfl
 ·refine .inr ⟨[38],[32],by simp,by simp,rfl,λx=>⟨?_,?_⟩,by decide⟩
  ·show bo (32::38::32::x)=_;rw[kx,jG (by decide) (by decide) (by decide)];rfl
  rfl
 ·simp
 ·refine .inr ⟨[124],[10],by simp,by simp,rfl,λx=>⟨?_,?_⟩,by decide⟩
  ·show bo (32::124::10::x)=_;rw[kx,jG (by decide) (by decide) (by decide)];rfl
  rfl
 ·refine .inr ⟨[59],[32,35,32,114,10],by simp,by simp,rfl,λx=>⟨?_,?_⟩,by decide⟩
  ·show bo (59::32::35::32::114::10::x)=_;rw[jG (by decide) (by decide) (by decide)];rfl
  rfl
theorem Vb{j x:H}(h:j∈jl):∃v',eg (j++x) v':=by
 rcases Oy h with rfl|⟨o,c,M,U,d,a,e⟩
 ·refine⟨10::x,by simp,rfl,by simp[nK,fJ],.inl rfl⟩
 ·refine⟨_,?_,?_,(a x).1,.inr ⟨o,(a x).2,?_,?_⟩⟩
  ·grind
  ·cases j with
   |nil=>grind
   |cons b t=>revert h;intro h;simp only[jl,kT,q7,uG] at h;rcases h with h|h|h|h|h|h|h|h<;>cases h<;>first|rfl|(show(fJ _||_||bs _ !=[])=true;simp[bs,kd,uF,List.isPrefixOf])
  ·rcases U with rfl|rfl|rfl|rfl|rfl<;>decide
  grind
theorem bJ.acK{X:fy}{n:Nat}(au:X.c0<=n){σ α:Type}{f:σ->ae (σ⊕α)}(hf:∀s,ab X.E n (f s)){b P:H->Prop}{s:σ}{r:H}{F:ah}(h:bJ X b F (f s r F))
  (ay:∀s' ad,f s r F= .ok (.inl s') ad F->b ad->ad.length<r.length/\bJ X P F (b8 f s' ad F)) (c:∀a ad,f s r F= .ok (.inr a) ad F->b ad->P ad):bJ X P F (b8 f s r F):=by
 rw[cz];cases hm:f s r F with
 |ok x ad d=>
  rw[hm] at h;cases x with
  |inl s'=>
   show bJ X P F (if ad.length<r.length then b8 f s' ad d else .bad ad);rcases h with⟨M,rfl⟩|M
   ·grind
   ·split
    ·exact bJ.U6 au (ab.rep X.ok hf s') M
    ·trivial
  |inr a=>
   rcases h with⟨M,rfl⟩|M
   ·exact .inl ⟨c a ad hm M,rfl⟩
   ·exact .inr M
 |more _ _ _=>trivial
 |bad _=>trivial
 |deep _=>rw[hm] at h;exact h
structure zU(X:fy)(dm:ae Unit)(C:H->Prop):Prop where
 run:∀{c v v':H}{F:ah},C c->eg v v'->cU X F (c++v)->bJ X (λq=>q=v') F (dm (c++v) F)
 head:∀{c:H}(x:H),C c->bo (c++x)=some (c++x)/\aq (c++x)≠ .line/\aq (c++x)≠ .eof/\cG (aq (c++x)) [33]=false/\c≠[]
def Vc(p:Tok->Bool)(l:List (H×H))(v:H)(q:H):Prop:=∃gp,gp<:+l/\bo (cN gp++v)=some q/\p (aq q)=false
theorem acL{C:H->Prop}{l:List (H×H)}(h:∀p∈l,p.1∈jl/\C p.2){v v':H}(a:eg v v'):∃b,eg (cN l++v) b:=by
 cases l with
 |nil=>exact⟨v',a⟩
 |cons p l=>grind[Vb,cN]
theorem Oz{E:k7}(ok:E.mN){n:Nat}{dm:ae Unit}(az:ab E n dm)(p:Tok->Bool)(w:Nat)(s:Unit):ab E n ((λ(_:Unit)=>N (bV []) λt=>if p t=true then N (b6 w) λ_=>N (c2.aM [120]) λ_=>N dm λ_=>a1 (.inl ()) else a1 (.inr ()):Unit->ae (Unit⊕Unit)) s):=
 ab.ga ok λt=>ab.ite (ab.N ok (ab.dA ok _) λ_=>ab.N ok ((ab.lines ok).aM _) λ_=>ab.N ok az λ_=>ab.ret _) (ab.ret _)
theorem OA{p:Tok->Bool}{w:Nat}{dm:ae Unit}{q:H}{F:ah}(a:bo q=some q)(aE:p (aq q)=false):q1 p w dm q F= .ok () q F:=by unfold q1;rw[cz,aS (cu a),aO (by grind)];rfl
section
variable{X:fy}{m:Nat}(hm:X.c0<=m){dm:ae Unit}(kR:ab X.E m dm){C:H->Prop}(eG:zU X dm C)
include hm kR eG
theorem acM{p:Tok->Bool}{w:Nat}(aE:∀t,p t=true->∃o,t= .op o/\o.length=w/\0<w){v v':H}(e:eg v v')(k:p (aq v')=false):∀(l:List (H×H))(q:H)(F:ah),(∀x∈l,x.1∈jl/\C x.2)->bo (cN l++v)=some q->cU X F q->bJ X (Vc p l v) F (q1 p w dm q F)
 |[],q,F,_,d,au=>by have n:bo v=some q:=d;rw[e.pH] at n;cases n;rw[OA e.idem k];exact .inl ⟨⟨[],List.suffix_rfl,e.pH,k⟩,rfl⟩
 |(j,c)::l,q,F,h,d,au=>by
  have m:=l1 _ _ _ (Nat.le_refl _) d;cases f:p (aq q) with
  |false=>rw[OA m f];exact .inl ⟨⟨(j,c)::l,List.suffix_rfl,d,f⟩,rfl⟩
  |true=>
   obtain⟨o,s,Q,B⟩:=aE _ f;obtain⟨D,az⟩:=h (j,c) (by simp);have he:cN ((j,c)::l)++v=j++(c++(cN l++v)):=by simp[cN]
   rw[he] at d;rcases Oy D with rfl|⟨R,i,M,U,S,E,T⟩
   ·have:bo ([10]++(c++(cN l++v)))=some (10::(c++(cN l++v))):=by simp[nK,fJ]
    simp_all[aq]
   ·obtain⟨G,I⟩:=E (c++(cN l++v));rw[G] at d;cases d;rw[I] at s;cases s;obtain⟨u,hu⟩:=acL (l:=l) (λx J=>h x (by grind)) e;obtain⟨fb,K,V,W,Y⟩:=eG.head (cN l++v) az;have y:cU X F (i++(c++(cN l++v))):=au.sfx (fO _ _);have z:cU X F (c++(cN l++v)):=y.sfx (fO _ _);have L:cU X F u:=(z.sfx (fO _ _)).sfx (ef hu.pH);unfold q1;have O:bJ X (λr=>r=u) F ((N (bV []) λt=>if p t=true then N (b6 w) λ_=>N (c2.aM [120]) λ_=>N dm λ_=>(a1 (.inl ()):ae (Unit⊕Unit)) else a1 (.inr ())) (o++(i++(c++(cN l++v)))) F):=by rw[aS (cu m),bc f];rw[aS (show b6 w (o++(i++(c++(cN l++v)))) F= .ok () (i++(c++(cN l++v))) F from by grind[b6])];refine bJ.N hm (zT hm M fb K y).aM (λa r' _ g=>?_) (λa=>ab.N X.ok kR λ_=>ab.ret _);subst g;refine bJ.N hm (eG.run az hu z) (λa r' _ g=>?_) (λa=>ab.ret _);exact .inl ⟨g,rfl⟩
    refine bJ.acK hm (Oz X.ok kR p w) O (λs' ad b A=>?_) (λa ad b A=>?_)
    ·subst A;refine⟨?_,?_⟩
     ·have Z:=(ef hu.pH).length_le;grind
     ·have:=acM aE e k l ad F (λx J=>h x (by grind)) hu.pH L;exact this.imp λr g=>by obtain⟨gp,ay,P⟩:=g;exact⟨gp,ay.trans (dL _ _),P⟩
    ·
     exfalso;rw[aS (cu m),bc f] at b;obtain⟨_,aC,dr,_,b⟩:=bY b;obtain⟨_,cB,b9,_,b⟩:=bY b;obtain⟨_,b0,hM,_,b⟩:=bY b;cases b
end
theorem aq4(t:Tok)(h:ql t=true):∃o,t= .op o/\o.length=1/\0<1:=⟨_,OZ h,rfl,by decide⟩
section
variable{X:fy}{m:Nat}(hm:X.c0<=m){dm:ae Unit}(kR:ab X.E m dm){C:H->Prop}(eG:zU X dm C)
include hm kR eG
theorem acN{c v v':H}{l:List (H×H)}{F:ah}(az:C c)(h:∀x∈l,x.1∈jl/\C x.2)(b:eg v v')(d:ql (aq v')=false)(au:cU X F (c++(cN l++v))):bJ X (Vc ql l v) F (fu dm (c++(cN l++v)) F):=by obtain⟨fb,j,k,e,m⟩:=eG.head (cN l++v) az;obtain⟨f,hu⟩:=acL (l:=l) h b;have g:cU X F f:=(au.sfx (fO _ _)).sfx (ef hu.pH);rw[UW,aS (cu fb),e];simp only[eQ,cA];rw[aS (show a1 () (c++(cN l++v)) F= .ok () (c++(cN l++v)) F from rfl)];refine bJ.N hm (eG.run az hu au) (λa r' _ i=>?_) (λa=>ab.rep X.ok (λs=>Oz X.ok kR ql 1 s) ());subst i;exact acM hm kR eG aq4 b d l r' F h hu.pH g
end
def acO(l:List (H×H))(v:H)(q:H):Prop:=∃gp,gp<:+l/\bo (cN gp++v)=some q/\ql (aq q)=false/\q2 (aq q)=false
section
variable{X:fy}{m:Nat}(hm:X.c0<=m){dm:ae Unit}(kR:ab X.E m dm){C:H->Prop}(eG:zU X dm C)
include hm kR eG
theorem aq5{v v':H}(k:eg v v')(w:ql (aq v')=false)(A:q2 (aq v')=false):∀(bw:Nat)(l:List (H×H))(q:H)(F:ah),l.length<=bw->(∀x∈l,x.1∈jl/\C x.2)->bo (cN l++v)=some q->ql (aq q)=false->cU X F q->bJ X (acO l v) F (q1 q2 2 (fu dm) q F):=by
 have B:ab X.E m (fu dm):=ab.pipe X.ok kR;intro bw;induction bw with
 |zero=>intro l q F ay h d e au;have:l=[]:=m4.1 (by omega);subst this;have D:bo v=some q:=d;rw[k.pH] at D;cases D;rw[OA k.idem A];exact .inl ⟨⟨[],fq,k.pH,w,A⟩,rfl⟩
 |succ bw L=>
  intro l q F ay h d e au;have p:=l1 _ _ _ (cF _) d;cases f:q2 (aq q) with
  |false=>rw[OA p f];exact .inl ⟨⟨l,fq,d,e,f⟩,rfl⟩
  |true=>
   cases l with
   |nil=>grind
   |cons y l=>
    obtain⟨j,c⟩:=y;obtain⟨O,az⟩:=h (j,c) (by simp)
    have g:∀x∈l,x.1∈jl/\C x.2:=λx E=>h x (by grind)
    have he:cN ((j,c)::l)++v=j++(c++(cN l++v)):=by simp[cN]
    rw[he] at d
    obtain⟨o,G,hw⟩:∃o,aq q= .op o/\o.length=2:=by unfold q2 at f;grind
    rcases Oy O with rfl|⟨gm,n,M,U,al,P,bn⟩
    ·have:bo ([10]++(c++(cN l++v)))=some (10::(c++(cN l++v))):=by simp[nK,fJ]
     simp_all[aq]
    ·obtain⟨Q,R⟩:=P (c++(cN l++v));rw[Q] at d;cases d;rw[R] at G;cases G;obtain⟨fb,S,jL,kP,hj⟩:=eG.head (cN l++v) az;have I:cU X F (n++(c++(cN l++v))):=au.sfx (fO _ _);have J:cU X F (c++(cN l++v)):=I.sfx (fO _ _);unfold q1;have T:bJ X (Vc ql l v) F ((N (bV []) λt=>if q2 t=true then N (b6 2) λ_=>N (c2.aM [120]) λ_=>N (fu dm) λ_=>(a1 (.inl ()):ae (Unit⊕Unit)) else a1 (.inr ())) (o++(n++(c++(cN l++v)))) F):=by rw[aS (cu p),bc f];rw[aS (show b6 2 (o++(n++(c++(cN l++v)))) F= .ok () (n++(c++(cN l++v))) F from by grind[b6])];refine bJ.N hm (zT hm M fb S I).aM (λa r' _ i=>?_) (λa=>ab.N X.ok B λ_=>ab.ret _);subst i;refine bJ.N hm (acN hm kR eG az g k w J) (λa r' _ i=>?_) (λa=>ab.ret _);exact .inl ⟨i,rfl⟩
     refine bJ.acK hm (Oz X.ok B q2 2) T (λs' ad b K=>?_) (λa ad b K=>?_)
     ·obtain⟨gp,s,u,V⟩:=K;have W:cN gp++v<:+c++(cN l++v):=by obtain⟨z,rfl⟩:=s;grind[cN]
      refine⟨?_,?_⟩
      ·have cx:=(ef u).length_le;grind
      ·have Y:cU X F ad:=(J.sfx W).sfx (ef u);have:=L gp ad F (by grind) (λx E=>g x (s.subset E)) u V Y;exact this.imp λr i=>by obtain⟨Z,Bb,ta⟩:=i;exact⟨Z,(Bb.trans s).trans (dL _ _),ta⟩
     ·exfalso;rw[aS (cu p),bc f] at b;obtain⟨_,aC,dr,_,b⟩:=bY b;obtain⟨_,cB,b9,_,b⟩:=bY b;obtain⟨_,b0,hM,_,b⟩:=bY b;cases b
end
section
variable{X:fy}{m:Nat}(hm:X.c0<=m){dm:ae Unit}(kR:ab X.E m dm){C:H->Prop}(eG:zU X dm C)
include hm kR eG
theorem aq6{c v v':H}{l:List (H×H)}{F:ah}(az:C c)(h:∀x∈l,x.1∈jl/\C x.2)(d:eg v v')(e:ql (aq v')=false)(g:q2 (aq v')=false)(au:cU X F (c++(cN l++v))):bJ X (acO l v) F (h2 (fu dm) (c++(cN l++v)) F):=by
 have i:ab X.E m (fu dm):=ab.pipe X.ok kR;rw[UX];refine bJ.N hm (acN hm kR eG az h d e au) (λa q _ j=>?_) (λa=>ab.rep X.ok (λs=>Oz X.ok i q2 2 s) ());obtain⟨gp,b,f,k⟩:=j;have n:cN gp++v<:+c++(cN l++v):=by obtain⟨z,rfl⟩:=b;grind[cN]
 have o:cU X F q:=(au.sfx n).sfx (ef f);have:=aq5 hm kR eG d e g gp.length gp q F (cF _) (λx p=>h x (b.subset p)) f k o;exact this.imp λr t=>by obtain⟨u,w,y⟩:=t;exact⟨u,w.trans b,y⟩
end
theorem GI{E:k7}(ok:E.mN){n:Nat}{ao:ae Unit}(h:ab E n ao)(c:Ctx)(no:Bool)(s:Nat):ab E n (dS ao c no s):=by
 unfold dS;refine ab.ga ok λt=>ab.ite (ab.ite (ab.ret _) (ab.cf _)) (ab.ite (ab.ret _) (ab.N ok h λ_=>ab.ga ok λt=>?_));unfold hU;cases t with
 |eof=>simp[ab.ret]
 |line=>grind[ab.N,ab.lines,ab.ret]
 |word _ _=>exact ab.bP
 |op o=>exact ab.ite (ab.N ok (ab.dA ok _) λ_=>ab.N ok (ab.lines ok) λ_=>ab.ret _) (ab.ite (ab.ret _) ab.bP)
theorem bJ.q4{X:fy}{n:Nat}(au:X.c0<=n){σ α β:Type}{f:σ->ae (σ⊕α)}(hf:∀s,ab X.E n (f s)){g P:H->Prop}{m:ae β}{k:β->ae (σ⊕α)}{r r0:H}{F:ah}(h:bJ X g F (m r F))
  (av:∀a r',m r F= .ok a r' F->g r'->bJ X P F (cR f r0 (k a r' F))) (he:∀a,ab X.E n (k a)):bJ X P F (cR f r0 (Go.Eng.N m k r F)):=by
 unfold Go.Eng.N;cases hm:m r F with
 |ok a r' d=>
  rw[hm] at h;rcases h with⟨M,rfl⟩|M
  ·grind
  ·simp only;have U:o7 X (k a r' d):=by
    have:=he a r' d (k7.g5.Ot M au);cases c:k a r' d with
    |ok _ _ _=>rw[c] at this;exact k7.g5.down X.ok M this.1 this.2
    |more _ _ _=>trivial
    |bad _=>trivial
    |deep _=>rw[c] at this;exact this
   cases c:k a r' d with
   |ok x e i=>
    rw[c] at U;cases x with
    |inl s'=>
     show bJ X P F (if e.length<r0.length then b8 f s' e i else .bad e);split
     ·exact bJ.U6 au (ab.rep X.ok hf s') U
     ·trivial
    |inr b=>exact .inr U
   |more _ _ _=>trivial
   |bad _=>trivial
   |deep _=>rw[c] at U;exact U
 |more _ _ _=>trivial
 |bad _=>trivial
 |deep _=>rw[hm] at h;exact h
section
variable{X:fy}{m:Nat}(hm:X.c0<=m){dm:ae Unit}(kR:ab X.E m dm){C:H->Prop}(eG:zU X dm C)(vm:∀{c:H}(x:H)(k:Ctx),C c->d_ k (aq (c++x))=false)
include hm kR eG vm
theorem acR{v v' g:H}{ctx:Ctx}{no:Bool}{F:ah}(w:eg v v')(G:ql (aq v')=false)(I:q2 (aq v')=false)
  (bm:∀k r0,v'.length<r0.length->bJ X (λr=>r=g) F (cR (dS (h2 (fu dm)) ctx no) r0 (hU ctx k (aq v') v' F))) {l:List (H×H)} {c:H} {k:Nat} (az:C c) (h:∀x∈l,x.1∈jl/\C x.2) (au:cU X F (c++(cN l++v)))
  (re:∀(j b:H)(d:List (H×H)),(j,b)::d<:+l->∀(i:Nat),C b->cU X F (b++(cN d++v))->bJ X (λr=>r=g) F (b8 (dS (h2 (fu dm)) ctx no) i (b++(cN d++v)) F)):bJ X (λr=>r=g) F (b8 (dS (h2 (fu dm)) ctx no) k (c++(cN l++v)) F):=by
 have eK:ab X.E m (h2 (fu dm)):=ab.qc X.ok (ab.pipe X.ok kR);obtain⟨fb,b,J,kP,K⟩:=eG.head (cN l++v) az;rw[cz];have L:dS (h2 (fu dm)) ctx no k (c++(cN l++v)) F=N (h2 (fu dm)) (λ_=>N (bV []) (hU ctx k)) (c++(cN l++v)) F:=by unfold dS;rw[aS (cu fb),aO J,aO (by grind)]
 rw[L]
 have n:∀k,ab X.E m (N (bV []) (hU ctx k)):=λk=>ab.ga X.ok λt=>by
  unfold hU;cases t with
  |eof=>simp[ab.ret]
  |line=>exact ab.N X.ok (ab.lines X.ok) λ_=>ab.ret _
  |word _ _=>exact ab.bP
  |op o=>exact ab.ite (ab.N X.ok (ab.dA X.ok _) λ_=>ab.N X.ok (ab.lines X.ok) λ_=>ab.ret _) (ab.ite (ab.ret _) ab.bP)
 refine bJ.q4 hm (GI X.ok eK ctx no) (aq6 hm kR eG az h w G I au) (λa q bM O=>?_) (λ_=>n k);obtain⟨gp,p,e,P,Q⟩:=O;have R:=l1 _ _ _ (Nat.le_refl _) e;rw[aS (cu R)];have l8:=List.length_pos_iff.2 K;have S:cN gp++v<:+c++(cN l++v):=by obtain⟨z,rfl⟩:=p;grind[cN]
 have T:(cN gp++v).length<=(cN l++v).length:=by obtain⟨z,rfl⟩:=p;simp[cN]
 have V:=(ef e).length_le;have W:q.length<(c++(cN l++v)).length:=by grind
 have s:cU X F q:=(au.sfx S).sfx (ef e);cases gp with
 |nil=>have Y:bo v=some q:=e;rw[w.pH] at Y;grind
 |cons y d=>
  obtain⟨j,b⟩:=y;obtain⟨Z,xn⟩:=h (j,b) (p.subset (by simp));have he:cN ((j,b)::d)++v=j++(b++(cN d++v)):=by simp[cN]
  rw[he] at e T V;obtain⟨A,B,d3,d4,d5⟩:=eG.head (cN d++v) xn
  have D:∀(r:H),r=b++(cN d++v)->r.length<(c++(cN l++v)).length->cU X F r->bJ X (λr=>r=g) F (cR (dS (h2 (fu dm)) ctx no) (c++(cN l++v)) (a1 (.inl (k+1)) r F)):=by rintro r rfl f Ox;show bJ X _ F (if(b++(cN d++v)).length<(c++(cN l++v)).length then b8 (dS (h2 (fu dm)) ctx no) (k+1) (b++(cN d++v)) F else .bad _);grind
  rcases Oy Z with rfl|⟨o,u,M,U,al,aV,bn⟩
  ·have ln:bo ([10]++(b++(cN d++v)))=some (10::(b++(cN d++v))):=by simp[nK,fJ]
   rw[ln] at e;cases e;have g_:aq (10::(b++(cN d++v)))= .line:=rfl;rw[g_];unfold hU;simp only;refine bJ.q4 hm (GI X.ok eK ctx no) (zT hm (j:=[10]) (.inr (.inl rfl)) A B s) (λa r _ f=>?_) (λ_=>ab.ret _);refine D r f ?_ (by rw[f];exact s.sfx (dL _ _));rw[f];exact Nat.lt_trans (yq _) W
  ·obtain⟨bQ,i⟩:=aV (b++(cN d++v));rw[bQ] at e;cases e;rw[i] at P Q⊢;have aN:o=[59]\/o=[38]:=by simp_all[q2,ql]
   unfold hU;simp only;rw[bc aN];have hw:o.length=1:=by grind
   rw[aS (show b6 1 (o++(u++(b++(cN d++v)))) F= .ok () (u++(b++(cN d++v))) F from by grind[b6])];have E:cU X F (u++(b++(cN d++v))):=s.sfx (fO _ _);refine bJ.q4 hm (GI X.ok eK ctx no) (zT hm M A B E) (λa r _ f=>?_) (λ_=>ab.ret _);refine D r f ?_ (by rw[f];exact E.sfx (fO _ _));grind
theorem acS{v v' a:H}{ctx:Ctx}{no:Bool}{F:ah}(b:eg v v')(d:ql (aq v')=false)(e:q2 (aq v')=false)
  (bm:∀k r0,v'.length<r0.length->bJ X (λr=>r=a) F (cR (dS (h2 (fu dm)) ctx no) r0 (hU ctx k (aq v') v' F))):∀(bw:Nat)(l:List (H×H))(c:H)(k:Nat),l.length<=bw->C c->(∀x∈l,x.1∈jl/\C x.2)->cU X F (c++(cN l++v))->bJ X (λr=>r=a) F (b8 (dS (h2 (fu dm)) ctx no) k (c++(cN l++v)) F):=by
 have eK:ab X.E m (h2 (fu dm)):=ab.qc X.ok (ab.pipe X.ok kR);intro bw;induction bw with
 |zero=>
  intro l c k ay az h au;have:l=[]:=m4.1 (by omega);subst this
  exact acR hm kR eG vm b d e bm az h au (λj f g i=>by grind)
 |succ bw n=>intro l c k ay az h au;refine acR hm kR eG vm b d e bm az h au (λj f g i o p q=>?_);grind
end
theorem aq8{X:fy}{ao:ae Unit}{ctx:Ctx}{no:Bool}{F:ah}{v' o:H}(a:aq v'= .op o)(M:o≠[59])(U:o≠[38])(he:d_ ctx (.op o)=true)(k:Nat)(r0:H):bJ X (λr=>r=v') F (cR (dS ao ctx no) r0 (hU ctx k (aq v') v' F)):=by rw[a];unfold hU;simp only;rw[aO (by grind),if_pos he];exact .inl ⟨rfl,rfl⟩
theorem aq9{X:fy}{ao:ae Unit}{ctx:Ctx}{no:Bool}{F:ah}{x:H}{k:Nat}(a:bo x=some x)(bf:aq x≠ .eof)(he:d_ ctx (aq x)=true):bJ X (λr=>r=x) F (b8 (dS ao ctx no) (k+1) x F):=by
 rw[cz];have:dS ao ctx no (k+1) x F= .ok (.inr (k+1)) x F:=by unfold dS;rw[aS (cu a),if_neg bf,if_pos (by grind)];rfl
 rw[this];exact .inl ⟨rfl,rfl⟩
section
variable{X:fy}{m:Nat}(hm:X.c0<=m){ao:ae Unit}(eK:ab X.E m ao)
include hm eK
theorem acT{ctx:Ctx}{no:Bool}{F:ah}{u x:H}{k:Nat}{r0:H}(ay:bJ X (λr=>r=x) F (c2 u F))(b:x.length<r0.length)(d:bo x=some x)(bf:aq x≠ .eof)(he:d_ ctx (aq x)=true):bJ X (λr=>r=x) F (cR (dS ao ctx no) r0 (N c2 (λ_=>a1 (.inl (k+1))) u F)):=by refine bJ.q4 hm (GI X.ok eK ctx no) ay (λa r _ c=>?_) (λ_=>ab.ret _);subst c;show bJ X _ F (if r.length<r0.length then b8 (dS ao ctx no) (k+1) r F else .bad r);simp_all[aq9]
theorem aq_{ctx:Ctx}{no:Bool}{F:ah}{x:H}(b:bo x=some x)(c:aq x≠ .line)(bf:aq x≠ .eof)(he:d_ ctx (aq x)=true)(au:cU X F (10::x))(k:Nat)(r0:H)(a:(10::x).length<r0.length):bJ X (λr=>r=x) F (cR (dS ao ctx no) r0 (hU ctx k (aq (10::x)) (10::x) F)):=by have d:aq (10::x)= .line:=rfl;rw[d];unfold hU;simp only;exact acT hm eK (zT hm (j:=[10]) (.inr (.inl rfl)) b c au) (Nat.lt_trans (Nat.lt_succ_self _) a) b bf he
theorem ara{ctx:Ctx}{no:Bool}{F:ah}{y x:H}(a:bo y=some x)(c:aq x≠ .line)(bf:aq x≠ .eof)(he:d_ ctx (aq x)=true)(d:aq (59::y)= .op [59])(k:Nat)(r0:H)(b:(59::y).length<r0.length):bJ X (λr=>r=x) F (cR (dS ao ctx no) r0 (hU ctx k (aq (59::y)) (59::y) F)):=by have e:=l1 _ _ _ (Nat.le_refl _) a;have ay:=(ef a).length_le;rw[d];unfold hU;simp only;rw[if_pos (by simp),aS (show b6 1 (59::y) F= .ok () y F from rfl)];refine acT hm eK ?_ (by grind) e bf he;rw[pw a c];exact .inl ⟨rfl,rfl⟩
end
structure iF(X:fy)(ao:ae Unit)(ctx:Ctx)(no:Bool)(v v' fe:H)(F:ah):Prop where
 ce:eg v v'
 acU:ql (aq v')=false
 acV:q2 (aq v')=false
 go:∀k r0,v'.length<r0.length->bJ X (λr=>r=fe) F (cR (dS ao ctx no) r0 (hU ctx k (aq v') v' F))
theorem eg.op{o:H}{t:H}(Y:bo t=some t)(a:aq t= .op o)(M:ff o=false)(U:o≠[40]):eg t t:=by
 have c:=h4 a;refine⟨?_,?_,Y,.inr ⟨o,a,M,U⟩⟩
 ·grind
 ·cases t with
  |nil=>rfl
  |cons b u=>show(fJ b||b==10||bs (b::u)!=[])=true;grind
theorem eg.nl(x:H):eg (10::x) (10::x):=⟨by simp,rfl,by simp[nK,fJ],.inl rfl⟩
section
variable{X:fy}{m:Nat}(hm:X.c0<=m){dm:ae Unit}(kR:ab X.E m dm){C:H->Prop}(eG:zU X dm C)(vm:∀{c:H}(x:H)(k:Ctx),C c->d_ k (aq (c++x))=false)
theorem iF.op{ao:ae Unit}{ctx:Ctx}{no:Bool}{F:ah}{v o:H}(Y:bo v=some v)(a:aq v= .op o)(he:d_ ctx (.op o)=true):iF X ao ctx no v v v F:=by
 have b:o=[41]\/o=[59,59]:=by cases ctx<;>simp[d_,cG] at he<;>first|grind|grind
 refine⟨eg.op Y a ?_ ?_,?_,?_,λk r0 _=>aq8 a ?_ ?_ he k r0⟩
 ·rcases b with rfl|rfl<;>decide
 ·grind
 ·rw[a];rcases b with rfl|rfl<;>decide
 ·rw[a];rcases b with rfl|rfl<;>decide
 ·grind
 grind
include hm in
theorem iF.nl{ao:ae Unit}(eK:ab X.E m ao){ctx:Ctx}{no:Bool}{F:ah}{x:H}(ag:bo x=some x)(an:aq x≠ .line)(bf:aq x≠ .eof)(he:d_ ctx (aq x)=true)(au:cU X F (10::x)):iF X ao ctx no (10::x) (10::x) x F:=
 ⟨eg.nl x,rfl,rfl,λk r0 ay=>aq_ hm eK ag an bf he au k r0 ay⟩
include hm in
theorem iF.acW{ao:ae Unit}(eK:ab X.E m ao){ctx:Ctx}{no:Bool}{F:ah}{y x:H}(bl:bo y=some x)(an:aq x≠ .line)(bf:aq x≠ .eof)(he:d_ ctx (aq x)=true)(fM:aq (59::y)= .op [59]):iF X ao ctx no (59::y) (59::y) x F:=
 ⟨eg.op (jG (by decide) (by decide) (by decide)) fM (by decide) (by decide),by rw[fM];decide,by rw[fM];decide,λk r0 ay=>ara hm eK bl an bf he fM k r0 ay⟩
include hm kR eG vm
theorem arb{pre t v v' d:H}{ctx:Ctx}{no:Bool}{F:ah}(aE:pre=[]\/pre=[32]\/pre=[10])(e:rV C t)(bm:iF X (h2 (fu dm)) ctx no v v' d F)(au:cU X F (pre++(t++v))):bJ X (λr=>r=d) F (oZ (h2 (fu dm)) ctx no (pre++(t++v)) F):=by
 obtain⟨c,l,M,U,rfl⟩:=e;rw[ob] at au⊢;obtain⟨fb,b,h,i,j⟩:=eG.head (cN l++v) M;have f:cU X F (c++(cN l++v)):=au.sfx (fO _ _);rw[o0];have eK:ab X.E m (h2 (fu dm)):=ab.qc X.ok (ab.pipe X.ok kR);refine bJ.N (P:=λr=>r=c++(cN l++v)) hm (bJ.aM ?_) (λa r' _ g=>?_) (λ_=>ab.rep X.ok (λs=>GI X.ok eK ctx no s) 0)
 ·rcases aE with rfl|rfl|rfl
  ·rw[q6,pw fb b];exact .inl ⟨rfl,rfl⟩
  ·exact zT hm (.inl rfl) fb b au
  ·exact zT hm (.inr (.inl rfl)) fb b au
 ·subst g;exact acS hm kR eG vm bm.ce bm.acU bm.acV bm.go l.length l c 0 (cF _) M U f
end
def zV(c:H):Prop:=∃b t,c=b::t/\fJ b=false/\b≠35/\b≠92/\b≠10/\b≠33/\(b=40\/o1 b=false/\(([125,116,101,102,100]:H).contains b=false\/∃k u,t=k::u/\(b=101/\k=99\/b=102/\k≠105)))
theorem Ve{r w:H}(h:cG (aq r) w=true):w<+:r:=by grind[Gj,Fx,Ut]
theorem zV.facts{c:H}(h:zV c)(x:H):(bo (c++x)=some (c++x)/\aq (c++x)≠ .line/\aq (c++x)≠ .eof/\cG (aq (c++x)) [33]=false/\c≠[])/\∀k,d_ k (aq (c++x))=false:=by
 obtain⟨b,t,rfl,M,U,f,g,n,e⟩:=h
 have bf:∀w:H,w<+:b::t++x->w.head?≠none->w.head?=some b:=by
  intro w d au;cases w with
  |nil=>grind
  |cons a w=>grind
 have hW:∀w∈([[33],[125],hT,iv,gf,eh,hp,jh,eH]:bx),cG (aq (b::t++x)) w=false:=by
  intro w d;cases bh:cG (aq (b::t++x)) w with
  |false=>rfl
  |true=>
   exfalso;have aE:=Ve bh;have i:=bf w aE ((by decide:∀w∈([[33],[125],hT,iv,gf,eh,hp,jh,eH]:bx),w.head?≠none) w d);rcases e with rfl|⟨j,az|⟨k,u,rfl,av⟩⟩
   ·exact(by decide:∀w∈([[33],[125],hT,iv,gf,eh,hp,jh,eH]:bx),w.head?≠some 40) w d i
   ·have:([33,125,116,101,102,100]:H).contains b=true:=by
     have:∀w∈([[33],[125],hT,iv,gf,eh,hp,jh,eH]:bx),∀b,w.head?=some b->([33,125,116,101,102,100]:H).contains b=true:=by decide
     grind
    grind
   ·simp only[kT,q7,uG] at d;rcases av with⟨rfl,rfl⟩|⟨rfl,av⟩
    ·rcases d with rfl|rfl|rfl|rfl|rfl|rfl|rfl|rfl|rfl<;>simp[hT,iv,gf,eh,hp,jh,eH] at aE
    ·rcases d with rfl|rfl|rfl|rfl|rfl|rfl|rfl|rfl|rfl<;>simp[hT,iv,gf,eh,hp,jh,eH] at aE;grind
 have o:aq (b::t++x)= .op [40]\/∃w p,aq (b::t++x)= .word w p:=by
  rw[fV,x1,aO g];rcases e with rfl|⟨j,_⟩
  ·simp[S2]
  simp_all[mU]
 refine⟨⟨jG M U f,?_,?_,hW _ (by simp),by simp⟩,λk=>?_⟩
 ·grind
 ·grind
 ·have l:(aq (b::t++x)== .eof)=false:=by grind
  have m:(aq (b::t++x)== .op [41])=false:=by grind
  have q:(aq (b::t++x)== .op [59,59])=false:=by grind
  unfold d_;cases k
  ·exact l
  ·exact m
  ·grind
  ·grind
  ·grind
  ·grind
  ·grind
  ·simp_all
  simp_all
def yf(d:Nat)(c:H):Prop:=zR d c\/c=[97]\/c=[98]\/c=[99]
theorem yf.aD{d:Nat}{c:H}(h:yf d c):zV c:=by
 have Y:∀{W a:H->Prop},qm W a c->zV c:=by
  rintro W a ⟨x,ws,r,M,U,rfl,l⟩;simp only[q3,kT,q7,uG] at M;rcases M with rfl|rfl|rfl|rfl
  ·exact⟨_,_,rfl,by decide,by decide,by decide,by decide,by decide,.inr ⟨by decide,.inl (by decide)⟩⟩
  ·exact⟨_,_,rfl,by decide,by decide,by decide,by decide,by decide,.inr ⟨by decide,.inr ⟨_,_,rfl,.inl ⟨rfl,rfl⟩⟩⟩⟩
  ·exact⟨_,_,rfl,by decide,by decide,by decide,by decide,by decide,.inr ⟨by decide,.inl (by decide)⟩⟩
  ·exact⟨_,_,rfl,by decide,by decide,by decide,by decide,by decide,.inr ⟨by decide,.inl (by decide)⟩⟩
 rcases h with h|rfl|rfl|rfl
 ·cases d with
  |zero=>exact Y h
  |succ d=>
   rcases h with h|h
   ·grind
   ·have h0:∀{b:UInt8}{t:H},fJ b=false/\b≠35/\b≠92/\b≠10/\b≠33/\o1 b=false/\([125,116,101,102,100]:H).contains b=false->zV (b::t):=λ⟨e,ak,a3,f,g,i,j⟩=>⟨_,_,rfl,e,ak,a3,f,g,.inr ⟨i,.inl j⟩⟩
    have hf:∀{k:UInt8}{t:H},k≠105->zV (102::k::t):=λav=>⟨_,_,rfl,by decide,by decide,by decide,by decide,by decide,.inr ⟨by decide,.inr ⟨_,_,rfl,.inr ⟨rfl,av⟩⟩⟩⟩
    rcases h with⟨t,M,rfl⟩|⟨t,M,rfl⟩|⟨t,u,M,U,rfl⟩|⟨t,u,M,U,rfl⟩|⟨t,u,M,U,rfl⟩|⟨w,u,M,U,rfl⟩|rfl|⟨w,u,M,U,rfl⟩|⟨t,M,rfl⟩
    ·exact⟨40,_,rfl,by decide,by decide,by decide,by decide,by decide,.inl rfl⟩
    ·exact h0 (by decide)
    ·exact h0 (by decide)
    ·exact h0 (by decide)
    ·exact h0 (by decide)
    ·grind
    ·grind
    ·exact h0 (by decide)
    grind
 all_goals exact⟨_,_,rfl,by decide,by decide,by decide,by decide,by decide,.inr ⟨by decide,.inl (by decide)⟩⟩
structure q5(X:fy)(d n:Nat):Prop where
 ls:∀{pre t v v' fe:H}{ctx:Ctx}{no:Bool}{F:ah},(pre=[]\/pre=[32]\/pre=[10])->rV (yf d) t->iF X (g0 true n) ctx no v v' fe F->cU X F (pre++(t++v))->bJ X (λr=>r=fe) F ((aU true n).ls ctx no (pre++(t++v)) F)
 wd:∀w,fU d w->e4 X (aU true n).dl w
 rd:∀{t v v' fe:H}{ctx:Ctx}{no:Bool}{F:ah}(k:Nat),rV (yf d) t->iF X (g0 true n) ctx no v v' fe F->cU X F (t++v)->bJ X (λr=>r=fe) F (b8 (dS (g0 true n) ctx no) k (t++v) F)
theorem rV.imp{C a:H->Prop}(h:∀c,C c->a c){t:H}(b:rV C t):rV a t:=by obtain⟨c,l,M,U,d⟩:=b;exact⟨c,l,h c M,λp aE=>⟨(U p aE).1,h _ (U p aE).2⟩,d⟩
theorem gi.cc{d:Nat}{t:H}(h:gi d t):rV (yf d) t:=by rw[Oo] at h;exact h.imp λc az=> .inl az
theorem DG{d:Nat}{b:UInt8}(h:b=97\/b=98\/b=99):rV (yf d) [b]:=by
 refine⟨[b],[],?_,by simp,by rfl⟩;rcases h with rfl|rfl|rfl
 ·exact .inr (.inl rfl)
 ·exact .inr (.inr (.inl rfl))
 ·exact .inr (.inr (.inr rfl))
theorem q5.Vf{X:fy}{d n:Nat}(h:q5 X d n):U9 X n d:=by intro t v F a au;have:=h.ls (pre:=[]) (t:=t) (v:=41::v) (ctx:= .paren) (no:=true) (F:=F) (.inl rfl) a.cc (iF.op (oM v) (m1 v) rfl) au;grind
theorem GJ{l:ea}{o r:H}{F:ah}:gK l (.op o) r F=N ((l.ls .paren false).aM [41]) (λ_=>j1 [41]) (r.drop 1) F:=rfl
theorem zW{l:ea}{w r:H}{p:Bool}{F:ah}:gK l (.word w p) r F=(if w=[123] then N ((l.ls .p9 false).aM [10,125]) λ_=>cS [125]
 else if w=jT then rC l
 else if w=mz then qb l l.dl
 else if w=oB then rD l l.dl
 else N ((l.ls .p_ false).aM eB) λ_=>ji l eB:ae Unit) (r.drop w.length) F:=rfl
def DH(l:ea):Unit->ae (Unit⊕Unit):=λ_=>N ((l.ls .sg false).aM ([10]++hT++[32,120,10]++eh)) λ_=>N (cS hT) λ_=>N ((l.ls .qL false).aM (10::eh)) λ_=>
    N (bV []) λt=>if cG t iv then N (cS iv) λ_=>a1 (.inl ()) else
     if cG t gf then N (cS gf) λ_=>N ((l.ls .kE false).aM (10::eh)) λ_=>N (cS eh) λ_=>a1 (.inr ()) else N (cS eh) λ_=>a1 (.inr ())
theorem Vg(l:ea):rC l=b8 (DH l) ():=rfl
theorem J1{b:UInt8}{t:H}(h:b≠59):aq (59::b::t)= .op [59]:=by rw[mB (by simp)];simp[bs,kd,uF,List.isPrefixOf,h.symm]
theorem GK{t:H}:aq (59::59::t)= .op [59,59]:=by rfl
theorem uA(t:H):bo (59::t)=some (59::t):=jG (by decide) (by decide) (by decide)
theorem iF.yg{X:fy}{n m:Nat}(hm:X.c0<=m)(eK:ab X.E m (g0 true n)){ctx:Ctx}{no:Bool}{F:ah}{w v:H}(au:w≠[])(a:w.all qR=true)(b:w.head?≠some 35)(c:c1 v=true)(he:d_ ctx (.word w true)=true)(d:cU X F (10::(w++v))):iF X (g0 true n) ctx no (10::(w++v)) (10::(w++v)) (w++v) F:=by grind[l2,iF.nl]
theorem iF.Vh{X:fy}{n m:Nat}(hm:X.c0<=m)(eK:ab X.E m (g0 true n)){ctx:Ctx}{no:Bool}{F:ah}{w v:H}(au:w≠[])(a:w.all qR=true)(c:w.head?≠some 35)(d:c1 v=true)(he:d_ ctx (.word w true)=true)(e:w.head?≠some 59):iF X (g0 true n) ctx no (59::(w++v)) (59::(w++v)) (w++v) F:=by
 obtain⟨f,g⟩:=l2 au a c d;cases w with
 |nil=>grind
 |cons b t=>grind[iF.acW,J1]
theorem iF.Vi{X:fy}{n m:Nat}(hm:X.c0<=m)(eK:ab X.E m (g0 true n)){ctx:Ctx}{no:Bool}{F:ah}{w v:H}(au:w≠[])(a:w.all qR=true)(b:w.head?≠some 35)(c:c1 v=true)(he:d_ ctx (.word w true)=true):iF X (g0 true n) ctx no (59::32::(w++v)) (59::32::(w++v)) (w++v) F:=by grind[l2,iF.acW,kx,J1]
theorem bJ.ok{X:fy}{α:Type}{a:α}{r:H}{F:ah}:bJ X (λq=>q=r) F (.ok a r F):= .inl ⟨rfl,rfl⟩
theorem yh{E:k7}(ok:E.mN){m:Nat}(hm:xN E m)(s:Unit):ab E m (DH (aU true m) s):=ab.N ok ((hm.ls _ _).aM _) λ_=>ab.N ok (ab.cS ok _) λ_=>ab.N ok ((hm.ls _ _).aM _) λ_=>
 ab.ga ok λt=>ab.ite (ab.N ok (ab.cS ok _) λ_=>ab.ret _) (ab.ite (ab.N ok (ab.cS ok _) λ_=>ab.N ok ((hm.ls _ _).aM _) λ_=>ab.N ok (ab.cS ok _) λ_=>ab.ret _) (ab.N ok (ab.cS ok _) λ_=>ab.ret _))
theorem OB{E:k7}(ok:E.mN)(m:Nat):ab E (m+1) (g0 true (m+1)):=ab.qc ok (ab.pipe ok (ab.command ok (mV ok m)))
section
variable{X:fy}{m:Nat}(hm:X.c0<=m)(eK:ab X.E m (g0 true m)){d:Nat}(kw:q5 X d m)
include hm eK kw
theorem arc{t v:H}{F:ah}(b:gi d t)(au:cU X F ([40]++t++[41]++v)):bJ X (λr=>r=v) F (gK (aU true m) (.op [40]) ([40]++t++[41]++v) F):=by
 have he:[40]++t++[41]++v=40::(t++(41::v)):=by simp
 rw[he] at au⊢;rw[GJ];refine bJ.N hm (kw.ls (pre:=[]) (v:=41::v) (.inl rfl) b.cc (iF.op (oM v) (m1 v) rfl) (au.sfx ⟨[40],rfl⟩)).aM (λa r' _ c=>?_) (λ_=>ab.j1 X.ok _);grind[A3,oM,m1,bJ.ok]
theorem acY{t v:H}{F:ah}(b:c1 v=true)(e:gi d t)(au:cU X F ([123,32]++(t++[10])++[125]++v)):bJ X (λr=>r=v) F (gK (aU true m) (.word [123] true) ([123,32]++(t++[10])++[125]++v) F):=by
 have he:[123,32]++(t++[10])++[125]++v=123::([32]++(t++(10::([125]++v)))):=by simp
 rw[he] at au⊢;rw[zW,bc rfl];have c:cU X F ([32]++(t++(10::([125]++v)))):=au.sfx ⟨[123],rfl⟩;refine bJ.N hm (kw.ls (.inr (.inl rfl)) e.cc (iF.yg (w:=[125]) hm eK (by simp) (by decide) (by decide) b rfl (c.sfx ⟨32::t,by simp⟩)) c).aM (λa r' _ f=>?_) (λ_=>ab.cS X.ok _);subst f;rw[rK (by simp) (by decide) (by decide) b];exact bJ.ok
theorem acZ{t u v:H}{F:ah}(b:c1 v=true)(g:gi d t)(hu:gi d u)(au:cU X F ([105,102,32]++(t++[59])++[32,116,104,101,110,32]++(u++[10])++[102,105]++v)):bJ X (λr=>r=v) F (gK (aU true m) (.word jT true) ([105,102,32]++(t++[59])++[32,116,104,101,110,32]++(u++[10])++[102,105]++v) F):=by
 have bk:=mV X.ok m;have he:[105,102,32]++(t++[59])++[32,116,104,101,110,32]++(u++[10])++[102,105]++v=jT++([32]++(t++(59::32::(hT++([32]++(u++(10::(eh++v)))))))):=by simp[jT,hT,eh]
 rw[he] at au⊢;rw[zW,aO (by decide),bc rfl,oN,Vg,cz];have e:=au.sfx (fO jT _);have f:cU X F ([32]++(u++(10::(eh++v)))):=e.sfx ⟨32::t++59::32::hT,by simp⟩;have h:cU X F (10::(eh++v)):=f.sfx ⟨32::u,by simp⟩;unfold DH;refine bJ.q4 hm (yh X.ok bk) (kw.ls (.inr (.inl rfl)) g.cc (iF.Vi (w:=hT) hm eK (by decide) (by decide) (by decide) rfl rfl) e).aM (λa r' _ c=>?_) (λ_=>ab.N X.ok (ab.cS X.ok _) λ_=>ab.N X.ok ((bk.ls _ _).aM _) λ_=>ab.ga X.ok λt=>ab.ite (ab.N X.ok (ab.cS X.ok _) λ_=>ab.ret _) (ab.ite (ab.N X.ok (ab.cS X.ok _) λ_=>ab.N X.ok ((bk.ls _ _).aM _) λ_=>ab.N X.ok (ab.cS X.ok _) λ_=>ab.ret _) (ab.N X.ok (ab.cS X.ok _) λ_=>ab.ret _)));subst c;rw[aS (rK (by decide) (by decide) (by decide) rfl)];refine bJ.q4 hm (yh X.ok bk) (kw.ls (.inr (.inl rfl)) hu.cc (iF.yg (w:=eh) hm eK (by decide) (by decide) (by decide) b rfl h) f).aM (λa r' _ c=>?_) (λ_=>ab.ga X.ok λt=>ab.ite (ab.N X.ok (ab.cS X.ok _) λ_=>ab.ret _) (ab.ite (ab.N X.ok (ab.cS X.ok _) λ_=>ab.N X.ok ((bk.ls _ _).aM _) λ_=>ab.N X.ok (ab.cS X.ok _) λ_=>ab.ret _) (ab.N X.ok (ab.cS X.ok _) λ_=>ab.ret _)));subst c;obtain⟨i,j⟩:=l2 (w:=eh) (r:=v) (by decide) (by decide) (by decide) b;rw[aS (cu j),i,aO (by decide),aO (by decide),aS (rK (by decide) (by decide) (by decide) b)];exact bJ.ok
theorem ac0{t u v:H}{F:ah}(p:gi d t)(hu:gi d u)(au:cU X F ([105,102,32,97,59,32,116,104,101,110,10]++(t++[10])++[101,108,105,102,32,98,10,116,104,101,110,32,99,10,101,108,115,101,32]++(u++[59])++[102,105,32,50,62,102]++v)):bJ X (λr=>r=[32,50,62,102]++v) F (gK (aU true m) (.word jT true) ([105,102,32,97,59,32,116,104,101,110,10]++(t++[10])++[101,108,105,102,32,98,10,116,104,101,110,32,99,10,101,108,115,101,32]++(u++[59])++[102,105,32,50,62,102]++v) F):=by
 have bk:=mV X.ok m;have he:[105,102,32,97,59,32,116,104,101,110,10]++(t++[10])++[101,108,105,102,32,98,10,116,104,101,110,32,99,10,101,108,115,101,32]++(u++[59])++[102,105,32,50,62,102]++v=jT++([32]++([97]++(59::32::(hT++([10]++(t++(10::(iv++([32]++([98]++(10::(hT++([32]++([99]++(10::(gf++([32]++(u++(59::(eh++([32,50,62,102]++v))))))))))))))))))))):=by simp[jT,hT,eh,iv,gf]
 rw[he] at au⊢;rw[zW,aO (by decide),bc rfl,oN,Vg,cz];have h:=au.sfx (fO jT _);have i:cU X F ([10]++(t++(10::(iv++([32]++([98]++(10::(hT++([32]++([99]++(10::(gf++([32]++(u++(59::(eh++([32,50,62,102]++v))))))))))))))))):=h.sfx ⟨[32]++([97]++(59::32::hT)),by simp⟩;have j:cU X F (10::(iv++([32]++([98]++(10::(hT++([32]++([99]++(10::(gf++([32]++(u++(59::(eh++([32,50,62,102]++v))))))))))))))):=i.sfx ⟨10::t,by simp⟩;have k:cU X F ([32]++([98]++(10::(hT++([32]++([99]++(10::(gf++([32]++(u++(59::(eh++([32,50,62,102]++v))))))))))))):=j.sfx ⟨10::iv,by simp⟩;have l:cU X F (10::(hT++([32]++([99]++(10::(gf++([32]++(u++(59::(eh++([32,50,62,102]++v))))))))))):=k.sfx ⟨[32,98],by simp⟩;have n:cU X F ([32]++([99]++(10::(gf++([32]++(u++(59::(eh++([32,50,62,102]++v))))))))):=l.sfx ⟨10::hT,by simp⟩;have o:cU X F (10::(gf++([32]++(u++(59::(eh++([32,50,62,102]++v))))))):=n.sfx ⟨[32,99],by simp⟩;have q:cU X F ([32]++(u++(59::(eh++([32,50,62,102]++v))))):=o.sfx ⟨10::gf,by simp⟩;have e:ab X.E m (N (cS eh) λ_=>(a1 (.inr ()):ae (Unit⊕Unit))):=ab.N X.ok (ab.cS X.ok _) λ_=>ab.ret _;have c:ab X.E m (N (bV []) λt=>if cG t iv then N (cS iv) λ_=>(a1 (.inl ()):ae (Unit⊕Unit)) else
  if cG t gf then N (cS gf) λ_=>N (((aU true m).ls .kE false).aM (10::eh)) λ_=>N (cS eh) λ_=>a1 (.inr ()) else N (cS eh) λ_=>a1 (.inr ())):=ab.ga X.ok λt=>ab.ite (ab.N X.ok (ab.cS X.ok _) λ_=>ab.ret _) (ab.ite (ab.N X.ok (ab.cS X.ok _) λ_=>ab.N X.ok ((bk.ls _ _).aM _) λ_=>e) e)
 unfold DH;refine bJ.q4 hm (yh X.ok bk) (kw.ls (.inr (.inl rfl)) (DG (.inl rfl)) (iF.Vi (w:=hT) hm eK (by decide) (by decide) (by decide) rfl rfl) h).aM (λa r' _ b=>?_) (λ_=>ab.N X.ok (ab.cS X.ok _) λ_=>ab.N X.ok ((bk.ls _ _).aM _) λ_=>c);subst b;rw[aS (rK (by decide) (by decide) (by decide) rfl)];refine bJ.q4 hm (yh X.ok bk) (kw.ls (.inr (.inr rfl)) p.cc (iF.yg (w:=iv) hm eK (by decide) (by decide) (by decide) rfl rfl j) i).aM (λa r' _ b=>?_) (λ_=>c);subst b;obtain⟨f,g⟩:=l2 (w:=iv) (r:=[32]++([98]++(10::(hT++([32]++([99]++(10::(gf++([32]++(u++(59::(eh++([32,50,62,102]++v))))))))))))) (by decide) (by decide) (by decide) rfl;rw[aS (cu g),f,bc (by decide),aS (rK (by decide) (by decide) (by decide) rfl)];show bJ X _ F (if _ then b8 (DH (aU true m)) () _ F else .bad _);rw[bc (by grind[List.length_cons]),cz];unfold DH;refine bJ.q4 hm (yh X.ok bk) (kw.ls (.inr (.inl rfl)) (DG (.inr (.inl rfl))) (iF.yg (w:=hT) hm eK (by decide) (by decide) (by decide) rfl rfl l) k).aM (λa r' _ b=>?_) (λ_=>ab.N X.ok (ab.cS X.ok _) λ_=>ab.N X.ok ((bk.ls _ _).aM _) λ_=>c);subst b;rw[aS (rK (by decide) (by decide) (by decide) rfl)];refine bJ.q4 hm (yh X.ok bk) (kw.ls (.inr (.inl rfl)) (DG (.inr (.inr rfl))) (iF.yg (w:=gf) hm eK (by decide) (by decide) (by decide) rfl rfl o) n).aM (λa r' _ b=>?_) (λ_=>c);subst b;obtain⟨f,g⟩:=l2 (w:=gf) (r:=[32]++(u++(59::(eh++([32,50,62,102]++v))))) (by decide) (by decide) (by decide) rfl;rw[aS (cu g),f,aO (by decide),bc (by decide),aS (rK (by decide) (by decide) (by decide) rfl)];refine bJ.q4 hm (yh X.ok bk) (kw.ls (.inr (.inl rfl)) hu.cc (iF.Vh (w:=eh) hm eK (by decide) (by decide) (by decide) rfl rfl (by decide)) q).aM (λa r' _ b=>?_) (λ_=>e);subst b;rw[aS (rK (by decide) (by decide) (by decide) rfl)];exact bJ.ok
theorem ac1{x u v:H}{F:ah}(b:c1 v=true){e:H}(he:e=[]\/e=[32])(hu:gi d u)(au:cU X F (hp++([32]++(u++(59::(e++(jh++v))))))):bJ X (λr=>r=v) F (ji (aU true m) x (hp++([32]++(u++(59::(e++(jh++v)))))) F):=by
 have bk:=mV X.ok m;unfold ji;rw[aS (h3.2 (rK (by decide) (by decide) (by decide) rfl))];have bm:iF X (g0 true m) .done false (59::(e++(jh++v))) (59::(e++(jh++v))) (jh++v) F:=by
  rcases he with rfl|rfl
  ·exact iF.Vh (w:=jh) hm eK (by decide) (by decide) (by decide) b rfl (by decide)
  ·exact iF.Vi (w:=jh) hm eK (by decide) (by decide) (by decide) b rfl
 refine bJ.N hm (kw.ls (.inr (.inl rfl)) hu.cc bm (au.sfx (fO hp _))).aM (λa r' _ c=>?_) (λ_=>ab.cS X.ok _);subst c;rw[rK (by decide) (by decide) (by decide) b];exact bJ.ok
theorem ac2{t u v:H}{F:ah}(e:c1 v=true)(f:gi d t)(hu:gi d u)(au:cU X F ([119,104,105,108,101,32]++(t++[10])++[100,111,32]++(u++[59])++[32,100,111,110,101]++v)):bJ X (λr=>r=v) F (gK (aU true m) (.word tY true) ([119,104,105,108,101,32]++(t++[10])++[100,111,32]++(u++[59])++[32,100,111,110,101]++v) F):=by
 have bk:=mV X.ok m;have he:[119,104,105,108,101,32]++(t++[10])++[100,111,32]++(u++[59])++[32,100,111,110,101]++v=tY++([32]++(t++(10::(hp++([32]++(u++(59::([32]++(jh++v))))))))):=by simp[tY,hp,jh]
 rw[he] at au⊢;rw[zW,aO (by decide),aO (by decide),aO (by decide),aO (by decide),oN];have b:=au.sfx (fO tY _);have c:cU X F (10::(hp++([32]++(u++(59::([32]++(jh++v))))))):=b.sfx ⟨32::t,by simp⟩;refine bJ.N hm (kw.ls (.inr (.inl rfl)) f.cc (iF.yg (w:=hp) hm eK (by decide) (by decide) (by decide) rfl rfl c) b).aM (λa r' _ g=>?_) (λ_=>ab.body X.ok bk _);subst g;exact ac1 hm eK kw e (.inr rfl) hu (c.sfx (dL _ _))
end
theorem ac3{X:fy}{D:ae Unit}{w u:H}{F:ah}(b:e4 X D w)(hu:c1 u=true)(a:u≠[])(au:cU X F (w++u)):bJ X (λr=>r=u) F (cX D (w++u) F):=by have:=(b u F a au).1;rw[J0 hu a] at this;exact this.DF bJ.ok
theorem Br{D:ae Unit}{w u:H}{F:ah}(a:w.all qR=true)(hu:c1 u=true)(b:u≠[]):cX D (w++u) F= .ok () u F:=by grind[S0,J0]
theorem ac4{b:UInt8}{t:H}{F:ah}:b6 1 (b::t) F= .ok () t F:=rfl
def DI(D:ae Unit):Unit->ae (Unit⊕Unit):=λ_=>N (bV []) λt=>match t with
 | .eof=>cf []
 | .word _ _=>N (cX D) λ_=>a1 (.inl ())
 | .line=>a1 (.inr ())
 | .op o=>if o=[59] then N (b6 1) λ_=>a1 (.inr ()) else bP
theorem ard(D:ae Unit):qa D=b8 (DI D) ():=rfl
theorem are{E:k7}(ok:E.mN){m:Nat}(hm:xN E m)(s:Unit):ab E m (DI (aU true m).dl s):=ab.ga ok λt=>by
 cases t with
 |eof=>simp[ab.cf]
 |word _ _=>exact ab.N ok (ab.cX ok hm.dl) λ_=>ab.ret _
 |line=>simp[ab.ret]
 |op o=>exact ab.ite (ab.N ok (ab.dA ok _) λ_=>ab.ret _) ab.bP
section
variable{X:fy}{m:Nat}(hm:X.c0<=m)(eK:ab X.E m (g0 true m)){d:Nat}(kw:q5 X d m)
include hm eK kw
theorem arf{w v:H}{F:ah}(b:fU d w)(au:cU X F (32::97::32::(w++(59::32::v)))):bJ X (λr=>r=32::v) F (qa (aU true m).dl (32::97::32::(w++(59::32::v))) F):=by have bk:=mV X.ok m;have hf:=λs=>are X.ok bk s;rw[ard,cz];unfold DI;obtain⟨e,f⟩:=l2 (w:=[97]) (r:=32::(w++(59::32::v))) (by simp) (by decide) (by decide) rfl;rw[aS (cu (by rw[kx];exact f)),e];simp only;rw[aS (Br (by decide) rfl (by simp))];show bJ X _ F (if _ then b8 (DI (aU true m).dl) () (32::(w++(59::32::v))) F else .bad _);rw[bc (by simp),cz];unfold DI;obtain⟨g,⟨x,p,h⟩,k⟩:=(Ow b).tok (u:=59::32::v);rw[aS (cu (by rw[kx];exact g)),h];simp only;have c:aq (59::32::v)= .op [59]:=J1 (by decide);have i:c1 (59::32::v)=true:=(eg.op (uA _) c (by decide) (by decide)).o9;refine bJ.q4 hm hf (ac3 (kw.wd w b) i (by simp) (au.sfx ⟨[32,97,32],rfl⟩)) (λa r' _ j=>?_) (λ_=>ab.ret _);subst j;show bJ X _ F (if _ then b8 (DI (aU true m).dl) () (59::32::v) F else .bad _);rw[bc (by grind),cz];unfold DI;rw[aS (cu (uA _)),c];simp only;rw[if_pos trivial,aS ac4];exact bJ.ok
theorem ac5{w u v:H}{F:ah}(i:c1 v=true)(j:fU d w)(hu:gi d u)(au:cU X F ([102,111,114,32,120,32,105,110,32,97,32]++w++[59,32,100,111,32]++(u++[59])++[100,111,110,101]++v)):bJ X (λr=>r=v) F (gK (aU true m) (.word mz true) ([102,111,114,32,120,32,105,110,32,97,32]++w++[59,32,100,111,32]++(u++[59])++[100,111,110,101]++v) F):=by
 have bk:=mV X.ok m;have he:[102,111,114,32,120,32,105,110,32,97,32]++w++[59,32,100,111,32]++(u++[59])++[100,111,110,101]++v=mz++(32::([120]++(32::(fK++(32::97::32::(w++(59::32::(hp++([32]++(u++(59::([]++(jh++v))))))))))))):=by simp[mz,fK,hp,jh]
 rw[he] at au⊢;generalize g:hp++([32]++(u++(59::([]++(jh++v)))))=z at au⊢;have b:cU X F (32::97::32::(w++(59::32::z))):=au.sfx ⟨mz++(32::([120]++(32::fK))),by simp⟩;have c:cU X F z:=b.sfx ⟨32::97::32::(w++[59,32]),by simp⟩;rw[zW,if_neg (by decide),if_neg (by decide),if_pos rfl,List.drop_left];unfold qb;obtain⟨k,l⟩:=l2 (w:=[120]) (r:=32::(fK++(32::97::32::(w++(59::32::z))))) (by simp) (by decide) (by decide) rfl;rw[aS (cu (by rw[kx];exact l)),k];simp only;rw[bc (by decide),aS Zu];refine bJ.N (P:=λr=>r=z) hm (bJ.aM ?_) (λa r' _ e=>?_) (λ_=>ab.body X.ok bk _)
 ·obtain⟨h,f⟩:=l2 (w:=fK) (r:=32::97::32::(w++(59::32::z))) (by decide) (by decide) (by decide) rfl;rw[aS (cu (by rw[kx];exact f)),h,aO (by simp),aS (pw f (by grind)),aS (cu f),h,if_pos (by decide)];rw[aS (show b6 2 (fK++(32::97::32::(w++(59::32::z)))) F= .ok () (32::97::32::(w++(59::32::z))) F from rfl)];refine bJ.N hm (arf hm eK kw j b) (λa r' _ e=>?_) (λ_=>ab.N X.ok (ab.lines X.ok) λ_=>ab.ret _);subst e;subst g;obtain⟨o,n⟩:=l2 (w:=hp) (r:=[32]++(u++(59::([]++(jh++v))))) (by decide) (by decide) (by decide) rfl;rw[aS (pw (by rw[kx];exact n) (by grind))];exact bJ.ok
 ·subst e;subst g;exact ac1 hm eK kw i (.inl rfl) hu c
theorem ac7{v:H}{F:ah}(e:c1 v=true)(au:cU X F ([102,111,114,32,120,10,100,111,32,97,10,100,111,110,101]++v)):bJ X (λr=>r=v) F (gK (aU true m) (.word mz true) ([102,111,114,32,120,10,100,111,32,97,10,100,111,110,101]++v) F):=by
 have bk:=mV X.ok m;have he:[102,111,114,32,120,10,100,111,32,97,10,100,111,110,101]++v=mz++(32::([120]++(10::(hp++([32]++([97]++(10::(jh++v)))))))):=by rfl
 rw[he] at au⊢;have c:cU X F (10::(hp++([32]++([97]++(10::(jh++v)))))):=au.sfx ⟨mz++[32,120],by simp⟩;have f:cU X F ([32]++([97]++(10::(jh++v)))):=c.sfx ⟨10::hp,by simp⟩;rw[zW,if_neg (by decide),if_neg (by decide),if_pos rfl,List.drop_left];unfold qb;obtain⟨h,i⟩:=l2 (w:=[120]) (r:=10::(hp++([32]++([97]++(10::(jh++v)))))) (by simp) (by decide) (by decide) rfl;rw[aS (cu (by rw[kx];exact i)),h];simp only;rw[bc (by decide),aS Zu];obtain⟨g,d⟩:=l2 (w:=hp) (r:=[32]++([97]++(10::(jh++v)))) (by decide) (by decide) (by decide) rfl;generalize k:hp++([32]++([97]++(10::(jh++v))))=z at c g d⊢;refine bJ.N (P:=λr=>r=z) hm (bJ.aM ?_) (λa r' _ b=>?_) (λ_=>ab.body X.ok bk _)
 ·rw[aS (cu (eg.nl _).pH),aO (by simp[aq])];refine bJ.N hm (zT hm (j:=[10]) (x:=z) (.inr (.inl rfl)) d (by grind) c) (λa r' _ b=>?_) (λ_=>ab.ga X.ok λt=>ab.ite (ab.N X.ok (ab.dA X.ok _) λ_=>ab.N X.ok (ab.words X.ok bk) λ_=>ab.N X.ok (ab.lines X.ok) λ_=>ab.ret _) (ab.ret _));subst b;rw[aS (cu d),g,aO (by decide)];exact bJ.ok
 ·subst b;subst k;unfold ji;rw[aS (h3.2 (rK (by decide) (by decide) (by decide) rfl))];refine bJ.N hm (kw.ls (.inr (.inl rfl)) (DG (.inl rfl)) (iF.yg (w:=jh) hm eK (by decide) (by decide) (by decide) e rfl (f.sfx ⟨[32,97],rfl⟩)) f).aM (λa r' _ b=>?_) (λ_=>ab.cS X.ok _);subst b;rw[rK (by decide) (by decide) (by decide) e];exact bJ.ok
end
def OC(D:ae Unit):Unit->ae (Unit⊕Unit):=λ_=>N (bV [120,41]) λt=>match t with
 | .eof=>cf [120,41]
 | .word _ _=>N ((cX D).aM [41]) λ_=>N (bV [41]) λt=>match t with
   | .eof=>cf [41]
   | .op o=>if o=[124] then N (b6 1) λ_=>a1 (.inl ()) else if o=[41] then N (b6 1) λ_=>a1 (.inr ()) else bP
   |_=>bP
 |_=>bP
theorem Vk(D:ae Unit):lJ D=b8 (OC D) ():=rfl
theorem ac8{b:UInt8}{t:H}(h:b≠124):aq (124::b::t)= .op [124]:=by rw[mB (by simp)];simp[bs,kd,uF,List.isPrefixOf,h.symm]
theorem Vl{D:ae Unit}{b:UInt8}{x y:H}{F:ah}(d:qR b=true)(e:b≠35)(a:bo y=some (b::41::x)):lJ D y F= .ok () x F:=by have M:aq (b::41::x)= .word [b] true:=n7 (w:=[b]) (by simp) (by grind) (eg.op (oM x) (m1 x) (by decide) (by decide)).o9;rw[Vk,cz];unfold OC;rw[aS (cu a),M];simp only;have c:cX D (b::41::x) F= .ok () (41::x) F:=Br (w:=[b]) (u:=41::x) (by grind) (eg.op (oM x) (m1 x) (by decide) (by decide)).o9 (by simp);rw[aS (h3.2 c),aS (cu (oM x)),m1];rfl
theorem ari{D:ae Unit}{x:H}{F:ah}:lJ D (97::124::98::41::x) F= .ok () x F:=by have a:aq (124::98::41::x)= .op [124]:=ac8 (by decide);have Y:bo (124::98::41::x)=some (124::98::41::x):=jG (by decide) (by decide) (by decide);have b:=(eg.op Y a (by decide) (by decide)).o9;have M:aq (97::124::98::41::x)= .word [97] true:=n7 (w:=[97]) (by simp) (by decide) b;rw[Vk,cz];unfold OC;rw[aS (cu (jG (by decide) (by decide) (by decide))),M];simp only;have c:cX D (97::124::98::41::x) F= .ok () (124::98::41::x) F:=Br (w:=[97]) (u:=124::98::41::x) (by decide) b (by simp);rw[aS (h3.2 c),aS (cu Y),a];simp only;rw[bc trivial,aS ac4];show(if _ then b8 (OC D) () (98::41::x) F else .bad _)=_;rw[bc (by simp),<-Vk];exact Vl (by decide) (by decide) (jG (by decide) (by decide) (by decide))
theorem ac9{m:Nat}{y x:H}{F:ah}(Y:bo y=some x)(M:aq x≠ .eof)(U:aq x≠ .line)(he:d_ .item (aq x)=true):(aU true m).ls .item true y F= .ok 0 x F:=by rw[s_,o0,aS (h3.2 (pw Y U)),cz];have a:=l1 _ _ _ (cF _) Y;rw[aln a M he rfl];rfl
def zX(l:ea)(D:ae Unit):Unit->ae (Unit⊕Unit):=λ_=>N c2 λ_=>N (bV []) λt=>if t= .eof then cf [] else if cG t eH then N (b6 4) λ_=>a1 (.inr ()) else
 N ((if t= .op [40] then b6 1 else a1 ())) λ_=>N (lJ D) λ_=>N (l.ls .item true) λ_=>N (bV []) λt=>if t= .op [59,59] then N (b6 2) λ_=>a1 (.inl ()) else a1 (.inl ())
theorem DK(l:ea)(D:ae Unit):n4 l D=b8 (zX l D) ():=rfl
theorem ac_{E:k7}(ok:E.mN){m:Nat}:ab E m (N (bV []) λt=>if t= .op [59,59] then N (b6 2) λ_=>(a1 (.inl ()):ae (Unit⊕Unit)) else a1 (.inl ())):=ab.ga ok λt=>ab.ite (ab.N ok (ab.dA ok _) λ_=>ab.ret _) (ab.ret _)
theorem ada{E:k7}(ok:E.mN){m:Nat}(hm:xN E m):ab E m (N (bV []) λt=>if t= .eof then cf [] else if cG t eH then N (b6 4) λ_=>(a1 (.inr ()):ae (Unit⊕Unit)) else
 N ((if t= .op [40] then b6 1 else a1 ())) λ_=>N (lJ (aU true m).dl) λ_=>N ((aU true m).ls .item true) λ_=>N (bV []) λt=>if t= .op [59,59] then N (b6 2) λ_=>a1 (.inl ()) else a1 (.inl ())):=ab.ga ok λt=>ab.ite (ab.cf _) (ab.ite (ab.N ok (ab.dA ok _) λ_=>ab.ret _)
 (ab.N ok (ab.ite (ab.dA ok _) (ab.ret _)) λ_=>ab.N ok (ab.xK ok hm) λ_=>ab.N ok (hm.ls _ _) λ_=>ac_ ok))
theorem arj{E:k7}(ok:E.mN){m:Nat}(hm:xN E m)(s:Unit):ab E m (zX (aU true m) (aU true m).dl s):=ab.N ok (ab.lines ok) λ_=>ada ok hm
section
variable{X:fy}{m:Nat}(hm:X.c0<=m)(eK:ab X.E m (g0 true m)){d:Nat}(kw:q5 X d m)
include hm eK kw
theorem ark{u v:H}{F:ah}(l:c1 v=true)(hu:gi d u)(au:cU X F ([32,97,124,98,41]++([32]++(u++([59,59]++([10]++([40,99,41,32,59,59,32,100,41,32]++(eH++v)))))))):bJ X (λr=>r=v) F (n4 (aU true m) (aU true m).dl ([32,97,124,98,41]++([32]++(u++([59,59]++([10]++([40,99,41,32,59,59,32,100,41,32]++(eH++v))))))) F):=by
 have bk:=mV X.ok m;have hf:=λs=>arj X.ok bk s;obtain⟨c,e⟩:=l2 (w:=eH) (r:=v) (by decide) (by decide) (by decide) l;have n:n4 (aU true m) (aU true m).dl (eH++v) F= .ok () v F:=by rw[DK,cz];unfold zX;rw[aS (pw e (by grind)),aS (cu e),c,if_neg (by simp),if_pos (by decide)];rfl
 have o:n4 (aU true m) (aU true m).dl ([32,100,41,32]++(eH++v)) F= .ok () v F:=by
  rw[DK,cz];unfold zX;have Y:bo ([32,100,41,32]++(eH++v))=some (100::41::32::(eH++v)):=by show bo (32::100::41::32::(eH++v))=_;rw[kx];exact jG (by decide) (by decide) (by decide)
  have b:aq (100::41::32::(eH++v))= .word [100] true:=n7 (w:=[100]) (by simp) (by decide) (eg.op (oM _) (m1 _) (by decide) (by decide)).o9;have g:=l1 _ _ _ (Nat.le_refl _) Y
  rw[aS (pw Y (by grind)),aS (cu g),b,if_neg (by simp),if_neg (by decide),if_neg (by simp),aS (show a1 () (100::41::32::(eH++v)) F= .ok () (100::41::32::(eH++v)) F from rfl),aS (Vl (by decide) (by decide) g),
   aS (ac9 (x:=eH++v) (by grind[kx]) (by grind) (by grind) (by rw[c];decide)),aS (cu e),c,aO (by simp)]
  show(if _ then b8 (zX (aU true m) (aU true m).dl) () (eH++v) F else .bad _)=_;rw[bc (by grind),<-DK];exact n
 have h:bJ X (λr=>r=v) F (n4 (aU true m) (aU true m).dl ([10]++([40,99,41,32,59,59,32,100,41,32]++(eH++v))) F):=by
  have Y:bo ([40,99,41,32,59,59,32,100,41,32]++(eH++v))=some ([40,99,41,32,59,59,32,100,41,32]++(eH++v)):=jG (by decide) (by decide) (by decide);have b:aq ([40,99,41,32,59,59,32,100,41,32]++(eH++v))= .op [40]:=by rfl
  have i:cU X F ([10]++([40,99,41,32,59,59,32,100,41,32]++(eH++v))):=au.sfx ⟨[32,97,124,98,41]++([32]++(u++[59,59])),by simp⟩;rw[DK,cz];unfold zX;generalize k:[40,99,41,32,59,59,32,100,41,32]++(eH++v)=z at Y b i⊢;refine bJ.q4 hm hf (zT hm (j:=[10]) (x:=z) (.inr (.inl rfl)) Y (by grind) i) (λa r' _ f=>?_) (λ_=>ada X.ok bk);subst f;rw[aS (cu Y),b,aO (by simp),aO (by decide),bc rfl];subst k;rw[aS (show b6 1 ([40,99,41,32,59,59,32,100,41,32]++(eH++v)) F= .ok () (99::41::32::59::59::([32,100,41,32]++(eH++v))) F from rfl),
   aS (Vl (x:=32::59::59::([32,100,41,32]++(eH++v))) (by decide) (by decide) (jG (by decide) (by decide) (by decide))),
   aS (ac9 (x:=59::59::([32,100,41,32]++(eH++v))) (by simp[kx,uA]) (by simp[GK]) (by simp[GK]) (by rfl)),
   aS (cu (uA _)),GK,bc rfl,aS (show b6 2 (59::59::([32,100,41,32]++(eH++v))) F= .ok () ([32,100,41,32]++(eH++v)) F from rfl)]
  show bJ X _ F (if _ then b8 (zX (aU true m) (aU true m).dl) () ([32,100,41,32]++(eH++v)) F else .bad _);rw[bc (by simp),<-DK,o];exact bJ.ok
 generalize k:[10]++([40,99,41,32,59,59,32,100,41,32]++(eH++v))=z at au h⊢;rw[DK,cz];unfold zX;have p:aq (124::98::41::([32]++(u++([59,59]++z))))= .op [124]:=ac8 (by decide);have Y:bo (97::124::98::41::([32]++(u++([59,59]++z))))=some (97::124::98::41::([32]++(u++([59,59]++z)))):=jG (by decide) (by decide) (by decide);have b:aq (97::124::98::41::([32]++(u++([59,59]++z))))= .word [97] true:=n7 (w:=[97]) (by simp) (by decide) (eg.op (jG (by decide) (by decide) (by decide)) p (by decide) (by decide)).o9;show bJ X _ F (cR _ _ (N c2 _ (32::97::124::98::41::([32]++(u++([59,59]++z)))) F))
 rw[aS (pw (ad:=97::124::98::41::([32]++(u++([59,59]++z)))) (show bo (32::97::124::98::41::([32]++(u++([59,59]++z))))=_ by grind[kx]) (by grind)),
  aS (cu Y),b,aO (by simp),aO (by decide),aO (by simp),aS (show a1 () (97::124::98::41::([32]++(u++([59,59]++z)))) F= .ok () (97::124::98::41::([32]++(u++([59,59]++z)))) F from rfl),aS ari]
 have q:cU X F ([32]++(u++([59,59]++z))):=au.sfx (fO _ _);refine bJ.q4 hm hf (kw.ls (v:=[59,59]++z) (.inr (.inl rfl)) hu.cc (iF.op (uA _) GK rfl) q) (λa r' _ f=>?_) (λ_=>ac_ X.ok);subst f;rw[aS (cu (show bo ([59,59]++z)=some ([59,59]++z) from uA _)),bc (show aq ([59,59]++z)= .op [59,59] from GK),aS (show b6 2 ([59,59]++z) F= .ok () z F from rfl)];show bJ X _ F (if _ then b8 (zX (aU true m) (aU true m).dl) () z F else .bad _);rw[bc (by grind),<-DK];exact h
theorem adb{w u v:H}{F:ah}(j:c1 v=true)(g:fU d w)(hu:gi d u)(au:cU X F ([99,97,115,101,32]++w++[32,105,110,32,97,124,98,41,32]++(u++[])++[59,59,10,40,99,41,32,59,59,32,100,41,32,101,115,97,99]++v)):bJ X (λr=>r=v) F (gK (aU true m) (.word oB true) ([99,97,115,101,32]++w++[32,105,110,32,97,124,98,41,32]++(u++[])++[59,59,10,40,99,41,32,59,59,32,100,41,32,101,115,97,99]++v) F):=by
 have bk:=mV X.ok m;have he:[99,97,115,101,32]++w++[32,105,110,32,97,124,98,41,32]++(u++[])++[59,59,10,40,99,41,32,59,59,32,100,41,32,101,115,97,99]++v=oB++(32::(w++(32::(fK++([32,97,124,98,41]++([32]++(u++([59,59]++([10]++([40,99,41,32,59,59,32,100,41,32]++(eH++v))))))))))):=by simp[oB,fK,eH]
 rw[he] at au⊢;have c:=ark hm eK kw (v:=v) (u:=u) (F:=F) j hu;have e:c1 ([32,97,124,98,41]++([32]++(u++([59,59]++([10]++([40,99,41,32,59,59,32,100,41,32]++(eH++v)))))))=true:=rfl;generalize [32,97,124,98,41]++([32]++(u++([59,59]++([10]++([40,99,41,32,59,59,32,100,41,32]++(eH++v))))))=z at au c e⊢;have h:cU X F (w++(32::(fK++z))):=au.sfx ⟨oB++[32],by simp⟩;have k:cU X F z:=h.sfx ⟨w++(32::fK),by simp⟩;rw[zW,if_neg (by decide),if_neg (by decide),if_neg (by decide),if_pos rfl,List.drop_left];unfold rD;obtain⟨l,⟨x,p,n⟩,y⟩:=(Ow g).tok (u:=32::(fK++z));rw[aS (cu (by rw[kx];exact l)),n];simp only;have o:c1 z=true:=e;obtain⟨q,i⟩:=l2 (w:=fK) (r:=z) (by decide) (by decide) (by decide) o;refine bJ.N (P:=λr=>r=fK++z) hm (bJ.aM ?_) (λa r' b f=>?_) (λt=>ab.ite (ab.N X.ok (ab.dA X.ok _) λ_=>(ab.items X.ok bk).aM _) ab.bP)
 ·refine bJ.N hm (ac3 (kw.wd w g) rfl (by simp) h) (λa r' _ f=>?_) (λ_=>ab.N X.ok (ab.lines X.ok) λ_=>ab.ga X.ok λt=>ab.ite (ab.cf _) (ab.ret _));subst f;rw[aS (pw (by rw[kx];exact i) (by grind)),aS (cu i),q,if_neg (by simp)];exact bJ.ok
 ·subst f;have s:a= .word fK true:=by
   have b:=h3.1 b;obtain⟨_,ad,A,_,b⟩:=bY b;obtain⟨_,B,C,_,b⟩:=bY b;obtain⟨t,D,E,aE,b⟩:=bY b;have xV:=n5 aE;split at b
   ·cases b
   ·cases b;grind
  subst s;rw[bc (by decide),aS (show b6 2 (fK++z) F= .ok () z F from rfl)];exact(c k).aM
end
theorem arl{D:ae Unit}{y v:H}{F:ah}(b:y=[32,50,62,102]\/y=[32,62,102])(a:c1 v=true)(c:v≠[]):dz D (y++v) F= .ok true v F:=by
 have M:fL (y++v) F= .ok (some [62]) (102::v) F:=by
  rcases b with rfl|rfl
  ·have Y:bo ([32,50,62,102]++v)=some (50::62::102::v):=by show bo (32::50::62::102::v)=_;rw[kx];exact jG (by decide) (by decide) (by decide)
   unfold fL;rw[Y];rfl
  ·have Y:bo ([32,62,102]++v)=some (62::102::v):=by show bo (32::62::102::v)=_;rw[kx];exact jG (by decide) (by decide) (by decide)
   unfold fL;rw[Y];rfl
 unfold dz;rw[aS M];simp only;rw[aO (by decide),aO (by decide)];obtain⟨d,e⟩:=l2 (w:=[102]) (r:=v) (by decide) (by decide) (by decide) a;have U:ke D [120] (102::v) F= .ok () v F:=by unfold ke;rw[aS (cu (show bo (102::v)=some (102::v) from e)),show aq (102::v)= .word [102] true from d];exact Br (w:=[102]) (by decide) a c
 rw[aS U];rfl
theorem Vn{D:ae Unit}{y v v':H}{F:ah}(bl:y=[]\/y=[32,50,62,102]\/y=[32,62,102])(a:eg v v'):g7 D (y++v) F= .ok () v' F:=by
 rcases bl with rfl|bl
 ·exact a.nc D F
 ·have M:dz D (y++v) F= .ok true v F:=arl bl a.o9 a.ne;unfold g7;rw[cz,aS M];have ay:v.length<(y++v).length:=by grind
  show(if v.length<(y++v).length then g7 D v F else .bad v)=_;rw[bc ay];exact a.nc D F
section
variable{X:fy}{m:Nat}(hm:X.c0<=m)(eK:ab X.E m (g0 true m)){d:Nat}(kw:q5 X d m)
include hm eK kw
theorem Vo{t v:H}{F:ah}(b:c1 v=true)(e:gi d t)(au:cU X F (123::([10]++(t++(10::([125]++v)))))):bJ X (λr=>r=v) F (gK (aU true m) (.word [123] true) (123::([10]++(t++(10::([125]++v))))) F):=by rw[zW,bc rfl];have c:cU X F ([10]++(t++(10::([125]++v)))):=au.sfx ⟨[123],rfl⟩;refine bJ.N hm (kw.ls (.inr (.inr rfl)) e.cc (iF.yg (w:=[125]) hm eK (by simp) (by decide) (by decide) b rfl (c.sfx ⟨10::t,by simp⟩)) c).aM (λa r' _ f=>?_) (λ_=>ab.cS X.ok _);subst f;rw[rK (by simp) (by decide) (by decide) b];exact bJ.ok
end
theorem Bs{X:fy}{m:Nat}(hm:X.c0<=m){c v v' y:H}{F:ah}(az:zV c){t:Tok}(b:aq (c++(y++v))=t)(h:gg t=true)(d:eg v v')(e:y=[]\/y=[32,50,62,102]\/y=[32,62,102])
  (av:bJ X (λr=>r=y++v) F (gK (aU true m) t (c++(y++v)) F)):bJ X (λr=>r=v') F (fG true (some (aU true m)) (dG (some (aU true m))) (c++(y++v)) F):=by
 obtain⟨⟨M,U,f,i,j⟩,k⟩:=az.facts (y++v);have bk:=mV X.ok (m+1);unfold fG;rw[aS (cu M),aO f,bc (by grind),b];refine bJ.N (n:=m+1) (by omega) (show bJ X (λr=>r=y++v) F (s4 (some (aU true m)) t (c++(y++v)) F) from av.named) (λa r' _ g=>?_) (λ_=>ab.nc X.ok bk.dl);subst g;rw[Vn e d];exact bJ.ok
section
variable{X:fy}{m:Nat}(hm:X.c0<=m){d:Nat}(kw:q5 X d m)
include hm kw
theorem arn{t v v':H}{F:ah}(g:eg v v')(h:gi d t)(eK:ab X.E m (g0 true m))(au:cU X F ([102,40,41,32,123,10]++(t++[10])++[125,32,62,102]++v)):bJ X (λr=>r=v') F (fG true (some (aU true (m+1))) (dG (some (aU true (m+1)))) ([102,40,41,32,123,10]++(t++[10])++[125,32,62,102]++v) F):=by
 have bk:=mV X.ok (m+1);have he:[102,40,41,32,123,10]++(t++[10])++[125,32,62,102]++v=[102]++(40::41::32::123::([10]++(t++(10::([125]++([32,62,102]++v)))))):=by simp
 rw[he] at au⊢;have av:=Vo hm eK kw (t:=t) (v:=[32,62,102]++v) (F:=F) rfl h (au.sfx ⟨[102,40,41,32],rfl⟩);have e:c1 ([10]++(t++(10::([125]++([32,62,102]++v)))))=true:=rfl;generalize [10]++(t++(10::([125]++([32,62,102]++v))))=z at au av e⊢;have i:aq (40::41::32::123::z)= .op [40]:=by rfl
 have b:bo (40::41::32::123::z)=some (40::41::32::123::z):=jG (by decide) (by decide) (by decide);obtain⟨j,f⟩:=l2 (w:=[102]) (r:=40::41::32::123::z) (by decide) (by decide) (by decide) (I9 _);unfold fG;rw[aS (cu f),j,if_neg (by simp),if_neg (by decide)];simp only;rw[if_neg (by decide),aS (show dz (dG (some (aU true (m+1)))) ([102]++(40::41::32::123::z)) F= .ok false ([102]++(40::41::32::123::z)) F from S3 f (by decide) (by decide)),aO (by simp),aS (Br (by decide) (I9 _) (by simp)),bc (by decide),aS (cu b),i,bc rfl];refine bJ.N (P:=λr=>r=v') (n:=m+1) (by omega) ?_ (λa r' _ c=>by subst c;exact bJ.ok) (λ_=>ab.ret _);have k:(aU true (m+1)).has=true:=rfl;have l:bo (32::123::z)=some (123::z):=by rw[kx];exact jG (by decide) (by decide) (by decide)
 obtain⟨o,p⟩:=l2 (w:=[123]) (r:=z) (by decide) (by decide) (by decide) e;unfold lk;simp only;rw[bc k];refine bJ.named ?_
 rw[aS (show b6 1 (40::41::32::123::z) F= .ok () (41::32::123::z) F from rfl),aS (cu (oM _)),m1,aO (by simp),bc rfl,
  aS (show b6 1 (41::32::123::z) F= .ok () (32::123::z) F from rfl),aS (h3.2 (pw l (by grind))),
  aS (cu (show bo (123::z)=some (123::z) from p)),show aq (123::z)= .word [123] true from o,aO (by simp),bc (by decide)]
 refine bJ.N (n:=m+1) (by omega) (show bJ X (λr=>r=[32,62,102]++v) F ((aU true (m+1)).cp (.word [123] true) (123::z) F) from av.named) (λa r' _ c=>?_) (λ_=>ab.ite bk.rd (ab.ret _));subst c;rw[bc trivial];rw[show(aU true (m+1)).rd=g7 (dG (some (aU true m))) from rfl,Vn (.inr (.inr rfl)) g];exact bJ.ok
end
theorem arp{X:fy}{n:Nat}(hm:X.c0<=n){lo:Option ea}(hD:ab X.E n (dG lo)):∀w,fU 0 w->ye w/\e4 X (dG lo) w:=λw a=>⟨Ow a,e4.consts hm hD rfl w a⟩
theorem Bt{X:fy}{m d:Nat}(hm:X.c0<=m+1)(hW:∀w,fU d w->e4 X (dG (some (aU true m))) w){c v v':H}{F:ah}(Y:w3 (fU d) (fU 0) c)(b:eg v v')(au:cU X F (c++v)):bJ X (λq=>q=v') F (fG true (some (aU true m)) (dG (some (aU true m))) (c++v) F):=by have bk:=mV X.ok (m+1);have hD:ab X.E (m+1) (dG (some (aU true m))):=bk.dl;exact aq0 hm hD (show iw (dG (some (aU true m))) from(rF true (m+1)).dl) (λw a=>⟨Ow a,hW w a⟩) (arp hm hD) Y b au
theorem arq{X:fy}{m:Nat}(hm:X.c0<=m+1):zU X (fG true (some (aU true m)) (dG (some (aU true m)))) (yf 0):=by
 have bk:=mV X.ok (m+1);have hD:ab X.E (m+1) (dG (some (aU true m))):=bk.dl;refine⟨λ{c v v' F} az a au=>?_,λ{c} x az=>(az.aD.facts x).1⟩;have hW:∀w,fU 0 w->e4 X (dG (some (aU true m))) w:=e4.consts hm hD rfl
 rcases az with az|rfl|rfl|rfl
 ·exact Bt hm hW (qm.q az) a au
 ·exact Bt hm hW (w3.one (.inl rfl)) a au
 ·exact Bt hm hW (w3.one (.inr (.inl rfl))) a au
 ·exact Bt hm hW (w3.one (.inr (.inr rfl))) a au
theorem ars{X:fy}{m d:Nat}(aD:d<=2)(hm:X.c0<=m)(kw:q5 X d m)(e:q5 X d (m+1))(eK:ab X.E m (g0 true m)):zU X (fG true (some (aU true (m+1))) (dG (some (aU true (m+1))))) (yf (d+1)):=by
 have bk:=mV X.ok (m+1);have f:=OB X.ok m;have a:X.c0<=m+1:=by omega
 have hW:∀w,fU (d+1) w->e4 X (dG (some (aU true (m+1)))) w:=acF a bk aD e.Vf e.wd
 refine⟨λ{c v v' F} az b au=>?_,λ{c} x az=>(az.aD.facts x).1⟩;have g:=az.aD;rcases az with(az|az)|rfl|rfl|rfl
 ·grind[Bt,qm.q]
 ·rcases az with⟨t,M,rfl⟩|⟨t,M,rfl⟩|⟨t,u,M,U,rfl⟩|⟨t,u,M,U,rfl⟩|⟨t,u,M,U,rfl⟩|⟨w,u,M,U,rfl⟩|rfl|⟨w,u,M,U,rfl⟩|⟨t,M,rfl⟩
  ·exact Bs a g (y:=[]) (mB (by simp)|>.2 (S2 _)) rfl b (.inl rfl) (arc a f e M au)
  ·exact Bs a g (y:=[]) (n7 (w:=[123]) (by simp) (by decide) (rJ _)) (by decide) b (.inl rfl) (acY a f e b.o9 M au)
  ·exact Bs a g (y:=[]) (n7 (w:=jT) (by decide) (by decide) (rJ _)) (by decide) b (.inl rfl) (acZ a f e b.o9 M U au)
  ·have he:∀(z:H),[105,102,32,97,59,32,116,104,101,110,10]++(t++[10])++[101,108,105,102,32,98,10,116,104,101,110,32,99,10,101,108,115,101,32]++(u++[59])++[102,105,32,50,62,102]++z=([105,102,32,97,59,32,116,104,101,110,10]++(t++[10])++[101,108,105,102,32,98,10,116,104,101,110,32,99,10,101,108,115,101,32]++(u++[59])++[102,105])++([32,50,62,102]++z):=λz=>by simp
   have av:=ac0 a f e M U au;rw[he] at av⊢;exact Bs a ⟨105,_,rfl,by decide,by decide,by decide,by decide,by decide,.inr ⟨by decide,.inl (by decide)⟩⟩ (n7 (w:=jT) (by decide) (by decide) (rJ _)) (by decide) b (.inr (.inl rfl)) av
  ·exact Bs a g (y:=[]) (n7 (w:=tY) (by decide) (by decide) (rJ _)) (by decide) b (.inl rfl) (ac2 a f e b.o9 M U au)
  ·exact Bs a g (y:=[]) (n7 (w:=mz) (by decide) (by decide) (rJ _)) (by decide) b (.inl rfl) (ac5 a f e b.o9 M U au)
  ·exact Bs a g (y:=[]) (n7 (w:=mz) (by decide) (by decide) (rJ _)) (by decide) b (.inl rfl) (ac7 a f e b.o9 au)
  ·exact Bs a g (y:=[]) (n7 (w:=oB) (by decide) (by decide) (rJ _)) (by decide) b (.inl rfl) (adb a f e b.o9 M U au)
  grind[arn]
 ·exact Bt (by omega) hW (w3.one (.inl rfl)) b au
 ·exact Bt (by omega) hW (w3.one (.inr (.inl rfl))) b au
 ·exact Bt (by omega) hW (w3.one (.inr (.inr rfl))) b au
theorem q5.of{X:fy}{m d:Nat}(hm:X.c0<=m+1)(eG:zU X (fG true (some (aU true m)) (dG (some (aU true m)))) (yf d))(hW:∀w,fU d w->e4 X (dG (some (aU true m))) w):q5 X d (m+1):=
 ⟨λ{pre t v v' b ctx no F} aE a bm au=>arb hm (ab.command X.ok (mV X.ok m)) eG (λx k az=>(az.aD.facts x).2 k) aE a bm au,hW,λ{t v v' b ctx no F} k a bm au=>by obtain⟨c,l,M,U,rfl⟩:=a;rw[ob] at au⊢;exact acS hm (ab.command X.ok (mV X.ok m)) eG (λx k az=>(az.aD.facts x).2 k) bm.ce bm.acU bm.acV bm.go l.length l c k (cF _) M U au⟩
theorem J5{X:fy}(az:1<=X.c0):∀d,d<=3->∀n,X.c0+2*d<=n->q5 X d n
 |0,_,n,au=>by
  obtain⟨m,rfl⟩:∃m,n=m+1:=⟨n-1,by omega⟩
  exact q5.of (by omega) (arq (by omega)) (e4.consts (m:=m+1) (by omega) (mV X.ok (m+1)).dl rfl)
 |d+1,aD,n,au=>by
  obtain⟨m,rfl⟩:∃m,n=m+3:=⟨n-3,by omega⟩
  have b:=J5 az d (by omega) (m+1) (by omega);have a:=J5 az d (by omega) (m+2) (by omega);exact q5.of (by omega) (ars (by omega) (by omega) b a (OB X.ok m)) (acF (by omega) (mV X.ok (m+2)) (by omega) a.Vf a.wd)
def gO(c:H):Prop:=(69:UInt8)∉c/\c≠[]/\c.getLast?≠some 10
theorem gO.app{x y:H}(b:(69:UInt8)∉x)(a:gO y):gO (x++y):=by obtain⟨M,U,c⟩:=a;refine⟨by grind,by simp[U],?_⟩;simp_all
theorem gO.k{x y:H}(a:gO x)(b:(69:UInt8)∉y/\y≠[]/\y.getLast?≠some 10):gO (x++y):=gO.app a.1 b
theorem gO.args{W:H->Prop}(hW:∀w,W w->gO w):∀{ws:bx},(∀w∈ws,W w)->jc ws=[]\/gO (jc ws)
 |[],_=> .inl rfl
 |w::t,h=>by
  have he:jc (w::t)=[32]++(w++jc t):=by rfl
  right;rw[he];refine gO.app (by decide) ?_;rcases gO.args hW (ws:=t) (λw a=>h w (by grind)) with M|M
  ·grind
  ·exact gO.app (hW w (h w (by simp))).1 M
theorem gO.simple{W a:H->Prop}(hW:∀w,W w->gO w)(b:∀w,a w->gO w){s:H}(h:qm W a s):gO s:=by
 obtain⟨x,ws,r,M,U,rfl,c⟩:=h;have d:gO x:=by simp only[q3,kT,q7,uG] at M;rcases M with rfl|rfl|rfl|rfl<;>exact⟨by decide,by decide,by decide⟩
 have e:gO (x++jc ws):=by
  rcases gO.args hW U with h|h
  ·grind
  ·exact gO.app d.1 h
 rcases c with rfl|rfl|⟨w,f,rfl⟩
 ·grind
 ·grind[gO.k]
 ·exact gO.app e.1 (gO.app (by decide) (b w f))
theorem gO.list{C:H->Prop}(a:∀c,C c->gO c){t:H}(h:rV C t):gO t:=by
 obtain⟨c,l,M,U,rfl⟩:=h;induction l generalizing c with
 |nil=>grind[cN]
 |cons p l b=>
  have he:c++cN (p::l)=(c++p.1)++(p.2++cN l):=by simp[cN]
  rw[he];obtain⟨d,e⟩:=U p (by simp);refine gO.app ?_ (b p.2 e λq f=>U q (by grind));have:(69:UInt8)∉p.1:=(by decide:∀j∈jl,(69:UInt8)∉j) p.1 d;simp[(a c M).1,this]
theorem GL:∀d,(∀w,fU d w->gO w)/\∀t,gi d t->gO t
 |0=>by
  have av:∀w∈nn,gO w:=by unfold gO;decide
  exact⟨av,λt e=>gO.list (λc az=>gO.simple av av az) e⟩
 |d+1=>by
  obtain⟨f,a⟩:=GL d
  have av:∀w∈nn,gO w:=by unfold gO;decide
  have g:∀w,fU (d+1) w->gO w:=by
   intro w h;rcases h with h|⟨t,M,h|h⟩|⟨v,M,h⟩
   ·grind
   ·subst h;exact gO.k (gO.app (by decide) (a t M)) ⟨by decide,by decide,by decide⟩
   ·subst h;exact gO.k (gO.app (by decide) (a t M)) ⟨by decide,by decide,by decide⟩
   ·subst h;exact gO.k (gO.app (by decide) (f v M)) ⟨by decide,by decide,by decide⟩
  refine⟨g,λt e=>gO.list (λc az=>?_) e⟩;rcases az with az|az
  ·exact gO.simple g av az
  ·have j:∀{t:H}{b:UInt8},gi d t->b≠69->(69:UInt8)∉t++[b]:=λe i=>by simp[(a _ e).1,yr i]
   rcases az with⟨t,M,rfl⟩|⟨t,M,rfl⟩|⟨t,u,M,U,rfl⟩|⟨t,u,M,U,rfl⟩|⟨t,u,M,U,rfl⟩|⟨w,u,M,U,rfl⟩|rfl|⟨w,u,M,U,rfl⟩|⟨t,M,rfl⟩
   ·exact gO.k (gO.app (by decide) (a t M)) ⟨by decide,by decide,by decide⟩
   ·exact gO.app (by simp[(a t M).1]) ⟨by decide,by decide,by decide⟩
   ·exact gO.app (by simp[(a t M).1,(a u U).1]) ⟨by decide,by decide,by decide⟩
   ·exact gO.app (by simp[(a t M).1,(a u U).1]) ⟨by decide,by decide,by decide⟩
   ·exact gO.app (by simp[(a t M).1,(a u U).1]) ⟨by decide,by decide,by decide⟩
   ·exact gO.app (by simp[(f w M).1,(a u U).1]) ⟨by decide,by decide,by decide⟩
   ·exact⟨by decide,by decide,by decide⟩
   ·exact gO.app (by simp[(f w M).1,(a u U).1]) ⟨by decide,by decide,by decide⟩
   ·exact gO.app (by simp[(a t M).1]) ⟨by decide,by decide,by decide⟩
def tp:fy where
 E:={T:=[],bw:=λ_=>0,c:=1,Q:=λ_ _=>True}
 ok:=by
  have az:∀{b:UInt8}{u:H},¬(b::u<:+[]):=λh=>by grind
  refine⟨cF _,λ_ _ _ _=>cF _,λ_ _ _ _ _ _=>trivial,λ_ _=>trivial,λ_ _ _ _ _ _ _ _ _ _ _=>trivial,λu h=>absurd h az,λu h=>absurd h az,λr h M U=>?_,λu h=>absurd h az⟩;grind[aq,gg]
 c0:=1
theorem tp.nil{F:ah}:tp.E.g5 tp.c0 [] F:=⟨fq,cF _,trivial⟩
theorem bJ.nil{P:H->Prop}{F b:ah}{α:Type}{a:α}:bJ tp P F (.ok a [] b):= .inr tp.nil
theorem adg{ao:ae Unit}{no:Bool}{k:Nat}{F:ah}:b8 (dS ao .text no) k [] F= .ok k [] F:=by rw[cz,I5,bc rfl];rfl
theorem iF.text{ao:ae Unit}{no:Bool}{x:H}{F a:ah}(b:c2 (10::x) F= .ok true [] a):iF tp ao .text no (10::x) (10::x) [] F:=by refine⟨eg.nl x,rfl,rfl,λk r0 ay=>?_⟩;show bJ tp _ F (cR _ r0 (N c2 (λ_=>a1 (.inl (k+1))) (10::x) F));rw[aS b];show bJ tp _ F (if _ then b8 (dS ao .text no) (k+1) [] a else .bad _);rw[bc (by grind),adg];exact bJ.nil
theorem adh{P:H->Prop}{F:ah}{α:Type}{x:dp α}(h:bJ tp P F x):∀q,x≠ .deep q:=by rintro q rfl;exact h
theorem art{t:H}(a:gi 3 t){n:Nat}(au:7<=n):∀q,f_ true n (t++[10])≠ .deep q:=by have av:=J5 (X:=tp) (Nat.le_refl _) 3 (by decide) n (by show 1+6<=n;omega);have:=av.ls (pre:=[]) (t:=t) (v:=[10]) (ctx:= .text) (no:=true) (F:=[]) (.inl rfl) a.cc (iF.text (alB rfl)) cU.nil;exact adh this
theorem Vp:∀(r:H),r=(hF r).1/\(hF r).2=[]\/r=(hF r).1++10::(hF r).2
 |[]=> .inl ⟨rfl,rfl⟩
 |b::t=>by
  unfold hF;by_cases h:b=10
  ·grind
  simp_all[Vp]
theorem aru:∀(n:Nat)(r q:H),r.length<=n->jR [69] false r=some q->∃p s,r=p++69::s/\(s=[]/\q=[]\/s=10::q):=by
 intro n;induction n with
 |zero=>simp_all[jR]
 |succ n c=>
  intro r q au h;cases r with
  |nil=>grind
  |cons b t=>
   rw[xI] at h;simp only[eQ,cA] at h;have Y:=Vp (b::t);have a:=IW (b::t) (by simp);by_cases ay:(hF (b::t)).1=[69]
   ·rw[bc ay] at h;cases h;rcases Y with⟨M,U⟩|M
    ·exact⟨[],[],by grind,.inl ⟨rfl,U⟩⟩
    ·exact⟨[],10::(hF (b::t)).2,by grind,.inr rfl⟩
   grind
theorem arv{t:H}(h:(69:UInt8)∉t):cU tp [([69],false)] (t++m0):=by
 intro z r' d i;right;have j:r'=[]:=by
  have M:jR [69] false z=some r':=by grind[ks]
  obtain⟨p,s,U,k⟩:=aru z.length z r' (cF _) M;obtain⟨y,e⟩:=d;rw[U] at e;have f:(y++10::p)++69::s=(t++[10,98,111,100,121,10])++69::[10]:=by grind[m0]
  have l:s=[10]:=by
   rcases List.append_eq_append_iff.1 f with⟨a,g,b⟩|⟨a,g,b⟩
   ·cases a with
    |nil=>grind
    |cons c a=>
     simp only[fV,vE] at b;have:(69:UInt8)∈t++[10,98,111,100,121,10]:=by grind
     grind
   ·cases a with
    |nil=>grind
    |cons c a=>
     simp only[fV,vE] at b;obtain⟨rfl,b⟩:=b;have:(69:UInt8)∈[(10:UInt8)]:=by grind
     grind
  grind
 grind[tp.nil]
abbrev qo:ah:=[([69],false)]
theorem arw:c2 m0 qo= .ok true [] []:=by
 have a:ks qo [98,111,100,121,10,69,10]= .inl []:=by
  unfold ks;have:jR [69] false [98,111,100,121,10,69,10]=some []:=by rw[xI];simp only[eQ,cA];rw[aO (by decide)];show jR [69] false [69,10]=_;rw[xI];decide
  simp only[this];rfl
 rw[show m0=10::[98,111,100,121,10,69,10] from rfl,rG,cz,ub (eg.nl _).pH];have:N jt (λ_=>a1 (.inl true)) (10::[98,111,100,121,10,69,10]) qo=(.ok (.inl true) [] []:dp (Bool⊕Bool)):=by unfold N;rw[s5,a];rfl
 rw[this];show(if([]:H).length<(10::[98,111,100,121,10,69,10]:H).length then b8 hX true [] [] else .bad [])=_;rw[bc (by decide),cz,rH mK (by decide)];rfl
theorem arx{b:UInt8}{t:H}(h:o1 b=false)(U:b≠45):bs (60::60::b::t)=[60,60]:=by simp only[o1,Kh,OY,ne_eq] at h;simp_all[bs,kd,yr]
theorem ary{lo:Option ea}{D:ae Unit}{z:H}(a:c1 z=true)(c:z≠[])(Y:bo z=some z){o:H}(g:aq z= .op o)(M:ff o=false)(U:o≠[40]):fG true lo D ([99,97,116]++([32,60,60,69]++z)) []= .ok () z qo:=by
 have h:eg z z:=⟨c,a,Y,.inr ⟨o,g,M,U⟩⟩;obtain⟨i,f⟩:=l2 (w:=[99,97,116]) (r:=[32,60,60,69]++z) (by decide) (by decide) (by decide) rfl;have s1:bo ([32,60,60,69]++z)=some (60::60::69::z):=by show bo (32::60::60::69::z)=_;rw[kx];exact jG (by decide) (by decide) (by decide)
 have q:dz D ([32,60,60,69]++z) []= .ok true z qo:=by
  have j:fL ([32,60,60,69]++z) []= .ok (some [60,60]) (69::z) []:=by unfold fL;rw[s1];rfl
  unfold dz;rw[aS j];simp only;rw[bc trivial];have k:gS false (69::z) []= .ok () z qo:=by
   obtain⟨l,m⟩:=l2 (w:=[69]) (r:=z) (by decide) (by decide) (by decide) a;have d:bo (69::z)=some (69::z):=m;have e:aq (69::z)= .word [69] true:=l;unfold gS;rw[d];simp only[e];have aD:df (69::z)=some ([69],z,[]):=by
    have s:c1 (69::z)=false:=FF (by decide);rw[wA,aO (by grind),if_neg (by decide),if_neg (by decide),if_neg (by decide),if_neg (by decide)];have:df z=some ([],z,[]):=by
     cases z with
     |nil=>grind
     |cons b t=>rw[wA,bc a]
    grind
   grind
  rw[aS k];rfl
 unfold fG;rw[aS (cu f),i,aO (by simp),aO (by decide)];simp only;rw[aO (by decide),aS (show dz D ([99,97,116]++([32,60,60,69]++z)) []= .ok false ([99,97,116]++([32,60,60,69]++z)) [] from S3 f (by decide) (by decide)),aO (by simp),aS (Br (by decide) rfl (by simp)),bc (by decide),aS (cu s1)];have n:aq (60::60::69::z)= .op [60,60]:=by rfl
 rw[n,aO (by decide)];have p:dz D (60::60::69::z) []= .ok true z qo:=by
  have:dz D (60::60::69::z) []=dz D ([32,60,60,69]++z) []:=by have s2:=l1 _ _ _ (cF _) s1;simp_all[dz,N,fL]
  grind
 unfold g8;rw[cz,aS p,bc rfl];show(if _ then g8 true D z qo else .bad _)=_;rw[bc (by grind)];exact h.simple D qo
theorem arC{t:H}(a:gi 3 t){n:Nat}(au:8<=n):∀q,f_ true n (sw++t++m0)≠ .deep q:=by
 obtain⟨m,rfl⟩:∃m,n=m+1:=⟨n-1,by omega⟩
 have b:=(GL 3).2 t a;have i:=J5 (X:=tp) (Nat.le_refl _) 3 (by decide) (m+1) (by show 1+6<=m+1;omega);have j:cU tp qo (t++m0):=arv b.1;have u:=i.rd (v:=m0) (ctx:= .text) (no:=true) (F:=qo) 1 a.cc (iF.text arw) j;obtain⟨c,l,M,U,x⟩:=a.cc;obtain⟨⟨k,g,o,y,A⟩,B⟩:=M.aD.facts (cN l++m0);have d:t++m0=c++(cN l++m0):=by grind
 rw[<-d] at k g o;have h:(t++m0).length<([99,97,116]++([32,60,60,69]++(59::32::(t++m0)))).length:=by grind
 have he:sw++t++m0=[99,97,116]++([32,60,60,69]++(59::32::(t++m0))):=by rfl
 generalize t++m0=z at*;have e:aq (59::32::z)= .op [59]:=J1 (by decide);have p:=eg.op (uA (32::z)) e (by decide) (by decide);obtain⟨C,f⟩:=l2 (w:=[99,97,116]) (r:=[32,60,60,69]++(59::32::z)) (by decide) (by decide) (by decide) rfl;have eK:g0 true (m+1) ([99,97,116]++([32,60,60,69]++(59::32::z))) []= .ok () (59::32::z) qo:=
  (S1 f (by rfl) (ary p.o9 (by simp) (uA _) e (by decide) (by decide)) (uA _) (by grind) (by grind) (by grind)).2
 have s:f_ true (m+1) ([99,97,116]++([32,60,60,69]++(59::32::z)))=b8 (dS (g0 true (m+1)) .text true) 1 z qo:=by
  unfold f_;rw[s_,o0,aS (h3.2 (pw f (by grind))),cz,C4 f (by grind) (by rfl),aS eK,aS (cu (uA _)),e];have:hU .text 0 (.op [59]) (59::32::z) qo= .ok (.inl 1) z qo:=by unfold hU;simp only;rw[if_pos (by simp),aS (show b6 1 (59::32::z) qo= .ok () (32::z) qo from rfl),aS (pw (by grind[kx]) g)];rfl
  rw[this];show(if _ then b8 (dS (g0 true (m+1)) .text true) 1 z qo else .bad _)=_;grind
 grind[adh]
end Go.Eng
namespace Go.Eng
open Go Go.Proofs
theorem adj{s:H}(Y:(c8 s).length<=1000000)(aD:∀q,f_ false 30 (c8 s)≠ .deep q):CX s=some (match f_ false 30 (c8 s) with| .ok a _ _=>(a:Int)|_=> -1):=by
 have h:=ank s Y;unfold CX;cases aE:f_ false 30 (c8 s) with
 |ok a r F=>simp_all[aR]
 |more op nd ds=>simp_all[aR]
 |bad r=>rw[aE] at h;obtain⟨_,op,h⟩:=h;simp_all[aR]
 |deep q=>grind
theorem arF{s:H}(Y:(c8 s).length<=1000000):Fm s=some (match f_ true 30 (c8 s) with| .ok a _ _=>(a:Int)|_=> -1):=by
 have h:=ap8 Y;unfold Fm;cases aE:f_ true 30 (c8 s) with
 |ok a r F=>rw[aE] at h;obtain⟨st,M,U,_⟩:=h;simp_all[aR]
 |more op nd ds=>rw[aE] at h;obtain⟨st,c,M,U,_⟩:=h;simp_all[aR]
 |bad r=>rw[aE] at h;obtain⟨st,c,M,U⟩:=h;simp_all[aR]
 |deep q=>rw[aE] at h;obtain⟨st,c,M,U⟩:=h;simp_all[aR]
theorem arG{r:H}{n:Nat}(au:n<=30)(h:∀q,f_ true n r≠ .deep q){fr:Bool}{m:Nat}(hm:n<=m):A0 (f_ true n r) (f_ fr m r)/\∀q,f_ fr m r≠ .deep q:=by grind[A0,alv]
def j3(x:dp Nat):Int:=match x with| .ok a _ _=>(a:Int)|_=> -1
theorem A0.j3{x y:dp Nat}(h:A0 x y)(a:∀q,x≠ .deep q):j3 y=j3 x:=by
 rcases h with⟨q,h⟩|rfl|⟨_,_,_,_,rfl,rfl⟩
 ·grind
 ·rfl
 ·rfl
theorem adk(s:H):∃t,c8 s=t++[10]:=by
 unfold c8;split
 ·grind[List.getLast?_eq_some_iff]
 simp
theorem adl(t:H):c8 (t++[10])=t++[10]:=bc (by simp)
theorem Vr(s:H):(c8 s).length<=s.length+1:=by grind[c8]
theorem arH(I:H)(a:I.length<=1048576):∃T,IN I=some T/\T.length<=470000/\(∀n,8<=n->∀q,f_ true n (c8 T)≠ .deep q)/\∃c z,c8 T=c++z/\zV c:=by
 obtain⟨t,T,M,U,e,b⟩:=aqI I a;refine⟨T,M,?_⟩;have bu:=(GL 3).2 t U;rcases b with rfl|rfl
 ·have he:c8 T=T++[10]:=aO bu.2.2;refine⟨by omega,λn au=>?_,?_⟩
  ·grind[art]
  ·obtain⟨c,l,d,f,g⟩:=U.cc;exact⟨c,cN l++[10],by grind,d.aD⟩
 ·have he:c8 (sw++t++m0)=sw++t++m0:=by have:=adl (sw++t++[10,98,111,100,121,10,69]);simp_all[m0]
  refine⟨by grind[sw,m0,List.length_cons],λn au=>?_,?_⟩
  ·grind[arC]
  ·exact⟨[99],[97,116,32,60,60,69,59,32]++t++m0,by grind[sw],⟨_,_,rfl,by decide,by decide,by decide,by decide,by decide,.inr ⟨by decide,.inl (by decide)⟩⟩⟩
theorem arI{n:Nat}(h:n<=2000000):((n:Nat):Int)<=9223372036854775807:=by omega
def T0(x:dp Nat):Int:=match x with| .ok _ _ _=>0| .more _ _ _=>1|_=>2
theorem arJ{fr:Bool}{n:Nat}{c z:H}(az:zV c){k:Nat}{r:H}{F:ah}(h:f_ fr n (c++z)= .ok k r F):k≠0:=by
 obtain⟨⟨M,U,f,l,m⟩,g⟩:=az.facts z;unfold f_ at h;rw[s_,o0,aS (h3.2 (pw M U)),cz,C4 M f (g .text)] at h
 have i:∀{q:H}{e:ah}{x:Nat⊕Nat}{b:H}{d:ah},N (g0 fr n) (λ_=>N (bV []) (hU .text 0)) q e= .ok x b d->x= .inl 1\/x= .inr 1:=by
  intro q e x b d a;obtain⟨_,ad,p,_,a⟩:=bY a;obtain⟨t,s,d,_,a⟩:=bY a;unfold hU at a;cases t with
  |eof=>cases a;simp
  |line=>obtain⟨_,_,_,_,a⟩:=bY a;cases a;simp
  |word _ _=>cases a
  |op o=>
   simp only at a;split at a
   ·obtain⟨_,_,_,_,a⟩:=bY a;obtain⟨_,_,_,_,a⟩:=bY a;cases a;simp
   ·split at a
    ·cases a;simp
    ·cases a
 cases hm:N (g0 fr n) (λ_=>N (bV []) (hU .text 0)) (c++z) [] with
 |ok x b d=>
  rw[hm] at h;rcases i hm with rfl|rfl
  ·unfold cR at h;simp only at h;split at h
   ·have:=Zp (ao:=g0 fr n) 1 b.length 0 b d (cF _);rw[this] at h;cases j:b8 (dS (g0 fr n) .text true) 0 b d<;>rw[j] at h<;>cases h;omega
   grind
  ·cases h;decide
 |more _ _ _=>rw[hm] at h;cases h
 |bad _=>rw[hm] at h;cases h
 |deep _=>rw[hm] at h;cases h
end Go.Eng
namespace Go.Eng
def m2(j:Bool):H:=bif j then [92,10] else []
theorem adn{j:Bool}{r:H}(h:r<:+m2 j):r=[]\/r=[10]\/r=[92,10]:=by
 cases j with
 |false=>left;exact List.suffix_nil.1 h
 |true=>simpa[m2,List.suffix_cons_iff,or_comm,or_assoc,or_left_comm] using h
theorem J7{j:Bool}{b:UInt8}{u:H}(h:b::u<:+m2 j):b≠36/\b≠40/\(bo (b::u)=some (b::u)->gg (aq (b::u))=false):=by
 rcases adn h with h|h|h
 ·cases h
 ·cases h;exact⟨by decide,by decide,λ_=>by decide⟩
 ·cases h;exact⟨by decide,by decide,λh=>by rw[nK] at h;simp[fJ] at h⟩
def j4(j:Bool):fy where
 E:={T:=m2 j,bw:=λ_=>0,c:=1,Q:=λ_ _=>True}
 ok:=by
  refine⟨cF _,λ_ _ _ _=>cF _,λ_ _ _ _ _ _=>trivial,λ_ _=>trivial,λ_ _ _ _ _ _ _ _ _ _ _=>trivial,λu h=>absurd rfl (J7 h).1,λu h=>absurd rfl (J7 h).1,λr h M U=>?_,λu h=>absurd rfl (J7 h).2.1⟩;cases r with
  |nil=>simp[aq,gg] at U
  |cons b u=>rw[(J7 h).2.2 M] at U;cases U
 c0:=1
theorem j4.h{j:Bool}{r:H}{F:ah}:(j4 j).E.g5 (j4 j).c0 r F↔r<:+m2 j:=⟨λh=>h.sfx,λh=>⟨h,cF _,trivial⟩⟩
theorem cU.m2{j:Bool}{r:H}{F:ah}(h:r<:+m2 j):cU (j4 j) F r:=by
 intro t r' b a;have:t=[]:=by rcases adn (b.trans h) with h|h|h<;>cases h;rfl
 subst this;cases F with
 |nil=>exact .inl rfl
 |cons d ds=>unfold ks at a;simp[jR] at a
def sx(j:Bool)(r0:H)(x:dp Unit):Prop:=match x with
 | .ok _ r F=>r<:+r0/\cU (j4 j) F r
 | .deep _=>False
 |_=>True
theorem bJ.x{j:Bool}{r0 v:H}{F:ah}{x:dp Unit}(h:bJ (j4 j) (λr=>r=v) F x)(c:m2 j<:+r0)(b:v<:+r0)(au:cU (j4 j) F r0):sx j r0 x:=by
 cases x with
 |ok a r' d=>
  rcases h with⟨rfl,rfl⟩|h
  ·exact⟨b,au.sfx b⟩
  ·exact⟨(j4.h.1 h).trans c,cU.m2 (j4.h.1 h)⟩
 |more _ _ _=>trivial
 |bad _=>trivial
 |deep _=>exact h
theorem sx.named{j:Bool}{r0 n:H}{m:ae Unit}{r:H}{F:ah}(h:sx j r0 (m r F)):sx j r0 (m.named n r F):=by unfold ae.named;cases hm:m r F<;>rw[hm] at h<;>first|exact h|trivial
structure hc(j:Bool)(r:H):Prop where
 ua:∀u,r=36::40::u->u.head?≠some 40->∀n F,7<=n->cU (j4 j) F r->sx j r ((aU true n).dl r F)
 p9:∀u,r=36::123::u->∀n F,7<=n->cU (j4 j) F r->sx j r ((aU true n).dl r F)
 comp:bo r=some r->gg (aq r)=true->∀n F,7<=n->cU (j4 j) F r->sx j r ((aU true n).cp (aq r) r F)
 func:∀u,r=40::u->∀n F,7<=n+1->cU (j4 j) F r->sx j r (lk true (some (aU true n)) r F)
inductive dD(j:Bool):Nat->H->Prop
 |nil:dD j 0 []
 |mark {k:Nat} {T:H} (b:UInt8):dD j k T->dD j (k+1) (b::T)
 |free {k:Nat} {T:H} {b:UInt8}:dD j k T->(m2 j<:+b::T->hc j (b::T))->dD j k (b::T)
theorem dD.sfx{j:Bool}{k:Nat}{T:H}(h:dD j k T):∀{r:H},r<:+T->∃i,i<=k/\dD j i r:=by
 induction h with
 |nil=>intro r aa;rw[List.suffix_nil.1 aa];exact⟨0,cF _,.nil⟩
 |mark b h a=>
  intro r aa;rcases List.suffix_cons_iff.1 aa with rfl|aa
  ·exact⟨_,cF _,.mark b h⟩
  ·obtain⟨i,M,U⟩:=a aa;exact⟨i,by omega,U⟩
 |free h az a=>
  intro r aa;rcases List.suffix_cons_iff.1 aa with rfl|aa
  ·exact⟨_,cF _,.free h az⟩
  ·exact a aa
theorem dD.num{j:Bool}{k:Nat}{T:H}(h:dD j k T):∃bw:H->Nat,bw T=k/\(∀r r',r'<:+r->r<:+T->bw r'<=bw r)/\∀b u,b::u<:+T->bw u+1=bw (b::u)\/(m2 j<:+b::u->hc j (b::u)):=by
 have a:∀{b:UInt8}{T:H}{bw:H->Nat}{k m:Nat},bw T=k->(∀r r',r'<:+r->r<:+T->bw r'<=bw r)->(∀c u,c::u<:+T->bw u+1=bw (c::u)\/(Go.Eng.m2 j<:+c::u->hc j (c::u)))->k<=m->(k+1=m\/(Go.Eng.m2 j<:+b::T->hc j (b::T)))->
   ∃bw:H->Nat,bw (b::T)=m/\(∀r r',r'<:+r->r<:+b::T->bw r'<=bw r)/\∀c u,c::u<:+b::T->bw u+1=bw (c::u)\/(Go.Eng.m2 j<:+c::u->hc j (c::u)):=by
  intro b T bw k m M U d hm f
  have ay:∀{r:H},r<:+T->r≠b::T:=λaa he=>by have:=aa.length_le;rw[he] at this;simp at this;omega
  refine⟨λr=>if r=b::T then m else bw r,bc rfl,λr r' aa bm=>?_,λc u hu=>?_⟩
  ·rcases List.suffix_cons_iff.1 bm with rfl|bm
   ·rcases List.suffix_cons_iff.1 aa with rfl|aa
    ·exact cF _
    ·simp only[aO (ay aa),cK];have:=U T r' aa fq;omega
   ·simp only[aO (ay bm),aO (ay (aa.trans bm))];exact U r r' aa bm
  ·rcases List.suffix_cons_iff.1 hu with hu|hu
   ·cases hu;simp only[aO (ay fq),cK,M];exact f
   ·simp only[aO (ay hu),aO (ay ((dL c u).trans hu))];exact d c u hu
 induction h with
 |nil=>exact⟨λ_=>0,rfl,λ_ _ _ _=>cF _,λb u h=>by simp at h⟩
 |mark b h e=>obtain⟨bw,M,U,d⟩:=e;exact a M U d (Nat.le_succ _) (.inl rfl)
 |free h az e=>obtain⟨bw,M,U,d⟩:=e;exact a M U d (cF _) (.inr az)
def DL(j:Bool)(T:H):Prop:=∀r F o tabs r' a,r<:+T->cU (j4 j) F r->bs r=o->(o=[60,60]/\tabs=false\/o=[60,60,45]/\tabs=true)->gS tabs (r.drop o.length) F= .ok () r' a->cU (j4 j) a r'
theorem dD.nd{j:Bool}{k:Nat}{T:H}(h:dD j k T)(s:m2 j<:+T)(aD:DL j T){n:Nat}(au:k+7<=n):∃E:k7,E.mN/\E.T=T/\E.bw T+E.c<=n/\∀F,E.Q T F↔cU (j4 j) F T:=by
 obtain⟨bw,M,U,g⟩:=h.num
 have nd:∀{E:k7}{r:H}{x:dp Unit},(∀r F,E.Q r F=cU (j4 j) F r)->sx j r x->ia E r x:=λ{E r x} d l=>by
  cases x with
  |ok a r' A=>exact⟨l.1,by rw[d];exact l.2⟩
  |more _ _ _=>trivial
  |bad _=>trivial
  |deep _=>exact l
 have e:∀{b:UInt8}{u:H},b::u<:+T->(b=36\/b=40\/bo (b::u)=some (b::u)/\gg (aq (b::u))=true)->m2 j<:+b::u:=by
  intro b u hu hb;rcases List.suffix_or_suffix_of_suffix hu s with h|h
  ·obtain⟨t,v,y⟩:=J7 h;rcases hb with hb|hb|⟨hb,q⟩
   ·exact absurd hb t
   ·exact absurd hb v
   ·rw[y hb] at q;cases q
  ·exact h
 refine⟨{T:=T,bw:=bw,c:=7,Q:=λr F=>cU (j4 j) F r},⟨by show 1<=7;omega,U,λr r' F f _ d=>d.sfx f,λr _=>cU.nil,aD,λu hu z=>?_,λu hu=>?_,λr f Y az=>?_,λu hu=>?_⟩,rfl,by show bw T+7<=n;omega,λ_=>Iff.rfl⟩
 ·rcases g 36 _ hu with h|h
  ·left;have:=U (40::u) u (dL _ _) ((dL _ _).trans hu);show bw u+1<=bw _;omega
  ·right;exactλn F au d=>nd (λ_ _=>rfl) ((h (e hu (.inl rfl))).ua u rfl z n F au d)
 ·rcases g 36 _ hu with h|h
  ·left;have:=U (123::u) u (dL _ _) ((dL _ _).trans hu);show bw u+1<=bw _;omega
  ·right;exactλn F au d=>nd (λ_ _=>rfl) ((h (e hu (.inl rfl))).p9 u rfl n F au d)
 ·cases r with
  |nil=>simp[aq,gg] at az
  |cons b u=>
   rcases g b u f with h|h
   ·left
    have av:∃i,((b::u).drop (lX (aq (b::u))).length)=u.drop i:=by
     cases m:aq (b::u) with
     |op o=>exact⟨0,rfl⟩
     |word w p=>
      rw[m] at az;cases w with
      |nil=>cases p with
       |true=>exact absurd az (by decide)
       |false=>exact absurd az (by decide)
      |cons c w=>exact⟨w.length,rfl⟩
     |line=>rw[m] at az;simp[gg] at az
     |eof=>rw[m] at az;simp[gg] at az
    obtain⟨i,bh⟩:=av;show bw ((b::u).drop _)+1<=bw _;rw[bh];have:=U u (u.drop i) (lO _ _) ((dL _ _).trans f);omega
   ·right;exactλn F au d=>nd (λ_ _=>rfl) ((h (e f (.inr (.inr ⟨Y,az⟩)))).comp Y az n F au d)
 ·rcases g 40 _ hu with h|h
  ·left;show bw u+1<=bw _;omega
  ·right;exactλn F au d=>nd (λ_ _=>rfl) ((h (e hu (.inr (.inl rfl)))).func u rfl n F au d)
def w5:H->Bool
 |40::_=>true
 |123::_=>true
 |36::40::_=>true
 |36::123::_=>true
 |105::102::_=>true
 |119::104::_=>true
 |117::110::_=>true
 |102::111::_=>true
 |99::97::115::_=>true
 |_=>false
theorem GM{r:H}(h:gg (aq r)=true):(∃u,r=40::u)\/∃w,oC w=true/\aq r= .word w true/\w<+:r:=by
 cases a:aq r with
 |eof=>rw[a] at h;exact absurd h (by decide)
 |line=>rw[a] at h;exact absurd h (by decide)
 |op o=>
  rw[a] at h;have:o=[40]:=by simpa[gg] using h
  subst this;obtain⟨u,hu⟩:=(h4 a).2.1;exact .inl ⟨u,hu.symm⟩
 |word w p=>
  rw[a] at h;cases p with
  |false=>simp[gg] at h
  |true=>refine .inr ⟨w,by simpa[gg] using h,rfl,Ve (by rw[a];simp[cG])⟩
theorem DM{w:H}(h:oC w=true):w=jT\/w=tY\/w=Fo\/w=mz\/w=oB\/w=[123]:=by simpa[oC] using h
theorem hc.plain{j:Bool}{r:H}(h:w5 r=false):hc j r:=by
 refine⟨λu hu=>?_,λu hu=>?_,λY az=>?_,λu hu=>?_⟩
 ·subst hu;cases h
 ·subst hu;cases h
 ·exfalso;rcases GM az with⟨u,rfl⟩|⟨w,a,_,u,rfl⟩
  ·cases h
  ·rcases DM a with rfl|rfl|rfl|rfl|rfl|rfl<;>cases h
 ·subst hu;cases h
def w6:H->Bool
 |[]=>true
 |b::t=> !w5 (b::t)&& !(t==[]&&([36,105,119,117,102,99]:H).contains b)&& !(b::t==[99,97])&&w6 t
theorem Vs{b:UInt8}{t v:H}(M:w5 (b::t)=false)(U:(t==[]&&([36,105,119,117,102,99]:H).contains b)=false)(a:(b::t==[99,97])=false):w5 (b::t++v)=false:=by
 match t,M,U,a with
 |[],M,U,a=>simp at U;unfold w5 at M⊢;split<;>simp_all
 |[c],M,U,a=>simp at a;unfold w5 at M⊢;split<;>simp_all
 |c::d::t,M,U,a=>unfold w5 at M⊢;split<;>simp_all
theorem dD.const{j:Bool}{k:Nat}{v:H}(h:dD j k v):∀{p:H},w6 p=true->dD j k (p++v)
 |[],_=>h
 |b::t,aE=>by simp only[w6,hH,By] at aE;exact .free (h.const aE.2) λ_=>hc.plain (Vs aE.1.1.1 aE.1.1.2 aE.1.2)
theorem dD.last{j:Bool}{k:Nat}{v:H}(h:dD j k v)(a:c1 v=true){b:UInt8}(d:b=105\/b=102\/b=99):dD j k (b::v):=by
 refine .free h λ_=>hc.plain ?_;cases v with
 |nil=>rcases d with rfl|rfl|rfl<;>rfl
 |cons c t=>
  have az:∀x∈([102,111,97]:H),c≠x:=by intro x f e;subst e;have:c1 (c::t)=false:=FF ((by decide:∀x∈([102,111,97]:H),qR x=true) c f);rw[this] at a;cases a
  have M:=az 102 (by simp);have U:=az 111 (by simp);have g:=az 97 (by simp);unfold w5;rcases d with rfl|rfl|rfl<;>(split<;>simp_all)
theorem arK{j:Bool}{r w:H}(c:∃v,aq r= .word w true/\∀F,cU (j4 j) F r->∀m,6<=m->v<:+r/\bJ (j4 j) (λq=>q=v) F (gK (aU true m) (.word w true) r F))(d:∀u,r≠40::u)(a:∀u,r≠36::u)(e:m2 j<:+r):hc j r:=by
 obtain⟨v,f,av⟩:=c;refine⟨λu hu=>absurd hu (a _),λu hu=>absurd hu (a _),λY az n F au b=>?_,λu hu=>absurd hu (d _)⟩
 obtain⟨m,rfl⟩:∃m,n=m+1:=⟨n-1,by omega⟩
 obtain⟨g,h⟩:=av F b m (by omega);rw[f];show sx j r (((gK (aU true m) (.word w true)).named (lX (.word w true))) r F);exact(h.x e g b).named
section
variable{j:Bool}{d:Nat}(aD:d<=2)
include aD
theorem J8{m:Nat}(hm:5<=m):q5 (j4 j) d m/\ab (j4 j).E m (g0 true m)/\(j4 j).c0<=m:=by
 obtain⟨k,rfl⟩:∃k,m=k+1:=⟨m-1,by omega⟩
 exact⟨J5 (cF _) d (by omega) _ (by show 1+2*d<=_;omega),OB (j4 j).ok k,by show 1<=_;omega⟩
theorem hc.sub{t v:H}(c:gi d t)(e:m2 j<:+36::40::(t++41::v)):hc j (36::40::(t++41::v)):=by
 have he:[36,40]++t++[41]++v=36::40::(t++41::v):=by simp
 refine⟨λu hu l n F au b=>?_,λu hu=>(by cases hu),λY az=>?_,λu hu=>(by cases hu)⟩
 ·obtain⟨m,rfl⟩:∃m,n=m+1:=⟨n-1,by omega⟩
  obtain⟨f,o,g⟩:=J8 (j:=j) aD (m:=m) (by omega);have:=U_ g aD f.Vf (mV (j4 j).ok m) c (v:=v) (F:=F) (by rw[he];exact b);rw[he] at this;have i:bJ (j4 j) (λq=>q=v) F (dG (some (aU true m)) (36::40::(t++41::v)) F):=by
   rcases this with h|h
   ·rw[h];exact bJ.ok
   ·exact jI.DF (.inr h) (bJ.ok (a:=()))
  exact i.x e (by rw[<-he];exact fO _ _) b
 ·exfalso;rcases GM az with⟨u,hu⟩|⟨w,k,_,u,hu⟩
  ·cases hu
  ·rcases DM k with rfl|rfl|rfl|rfl|rfl|rfl<;>cases hu
theorem Vt{u:H}(Y:bo u=some u)(M:aq u≠ .op [41]){n:Nat}{F:ah}(au:7<=n+1):sx j (40::u) (lk true (some (aU true n)) (40::u) F):=by
 obtain⟨m,rfl⟩:∃m,n=m+1:=⟨n-1,by omega⟩
 unfold lk;simp only;rw[bc (show(aU true (m+1)).has=true from rfl)];refine sx.named ?_;rw[aS (show b6 1 (40::u) F= .ok () u F from rfl),aS (cu Y)];by_cases h:aq u= .eof
 ·rw[bc h];trivial
 ·rw[aO h,aO M];trivial
theorem hc.par{t v:H}(e:rV (yf d) t)(f:m2 j<:+40::(t++41::v)):hc j (40::(t++41::v)):=by
 have g:aq (40::(t++41::v))= .op [40]:=wE _;refine⟨λu hu=>(by cases hu),λu hu=>(by cases hu),λY az n F au b=>?_,λu hu n F au b=>?_⟩
 ·obtain⟨m,rfl⟩:∃m,n=m+1:=⟨n-1,by omega⟩
  obtain⟨i,x,k⟩:=J8 (j:=j) aD (m:=m) (by omega);have:bJ (j4 j) (λr=>r=v) F (gK (aU true m) (.op [40]) (40::(t++41::v)) F):=by rw[GJ];refine bJ.N k (i.ls (pre:=[]) (v:=41::v) (.inl rfl) e (iF.op (oM v) (m1 v) rfl) (b.sfx ⟨[40],rfl⟩)).aM (λa r' _ o=>?_) (λ_=>ab.j1 (j4 j).ok _);subst o;rw[A3 (oM v) (m1 v)];exact bJ.ok
  rw[g];show sx j _ (((gK (aU true m) (.op [40])).named (lX (.op [40]))) _ F);exact(this.x f ⟨40::(t++[41]),by simp⟩ b).named
 ·obtain⟨c,l,M,U,p⟩:=e;obtain⟨⟨q,y,z,A,B⟩,s⟩:=M.aD.facts (cN l++41::v);have w:t++41::v=c++(cN l++41::v):=by rw[p];simp
  rw[w];refine Vt aD q (λh=>?_) au;have:=s .paren;rw[h] at this;cases this
theorem hc.arL{w v:H}(b:fU d w)(e:m2 j<:+36::123::([120,58,45]++(w++125::v))):hc j (36::123::([120,58,45]++(w++125::v))):=by
 have he:[36,123,120,58,45]++w++[125]++v=36::123::([120,58,45]++(w++125::v)):=by simp
 refine⟨λu hu=>(by cases hu),λu hu n F au c=>?_,λY az=>?_,λu hu=>(by cases hu)⟩
 ·obtain⟨m,rfl⟩:∃m,n=m+1:=⟨n-1,by omega⟩
  obtain⟨f,k,g⟩:=J8 (j:=j) aD (m:=m) (by omega);have:=acE g (mV (j4 j).ok m) (f.wd w b) (v:=v) (F:=F) (by rw[he];exact c);rw[he] at this;have i:bJ (j4 j) (λq=>q=v) F (dG (some (aU true m)) (36::123::([120,58,45]++(w++125::v))) F):=by
   rcases this with h|h
   ·rw[h];exact bJ.ok
   ·exact jI.DF (.inr h) (bJ.ok (a:=()))
  exact i.x e (by rw[<-he];exact fO _ _) c
 ·exfalso;rcases GM az with⟨u,hu⟩|⟨w,b,_,u,hu⟩
  ·cases hu
  ·rcases DM b with rfl|rfl|rfl|rfl|rfl|rfl<;>cases hu
end
theorem hc.arM{j:Bool}{u:H}:hc j (123::120::u):=by
 refine⟨λu hu=>(by cases hu),λu hu=>(by cases hu),λY az=>?_,λu hu=>(by cases hu)⟩;exfalso;rcases GM az with⟨u,hu⟩|⟨w,a,b,v,hu⟩
 ·cases hu
 ·rcases DM a with rfl|rfl|rfl|rfl|rfl|rfl<;>try cases hu
  have U:=Np _ _ (Ut b);rw[show(123::120::u:H).drop ([123]:H).length=120::u from rfl,FF (by decide)] at U;cases U
def jJ{α:Type}(x:dp α):Prop:=∃q,x= .bad q
theorem jJ.N{α β:Type}{m:ae α}{k:α->ae β}{r:H}{F:ah}(h:jJ (m r F)):jJ (Go.Eng.N m k r F):=by obtain⟨q,h⟩:=h;exact⟨q,hq h⟩
theorem jJ.aM{α:Type}{m:ae α}{x r:H}{F:ah}(h:jJ (m r F)):jJ (m.aM x r F):=by obtain⟨q,h⟩:=h;exact⟨q,by unfold ae.aM;rw[h]⟩
theorem jJ.named{α:Type}{m:ae α}{x r:H}{F:ah}(h:jJ (m r F)):jJ (m.named x r F):=by obtain⟨q,h⟩:=h;exact⟨q,by unfold ae.named;rw[h]⟩
theorem jJ.rep{σ α:Type}{f:σ->ae (σ⊕α)}{s:σ}{r:H}{F:ah}(h:jJ (f s r F)):jJ (b8 f s r F):=by obtain⟨q,h⟩:=h;exact⟨q,by rw[cz,h];rfl⟩
theorem jJ.x{j:Bool}{r:H}{x:dp Unit}(h:jJ x):sx j r x:=by obtain⟨q,rfl⟩:=h;trivial
theorem jJ.ls{n:Nat}{c:Ctx}{no:Bool}{x:H}{F:ah}(Y:bo x=some x)(a:aq x≠ .eof)(ay:aq x≠ .line)(b:cG (aq x) [33]=false)(he:d_ c (aq x)=false)
  (az:jJ (fG true (some (aU true n)) (dG (some (aU true n))) x F)):jJ ((aU true (n+1)).ls c no x F):=by
 rw[s_,o0,aS (h3.2 (pw Y ay))];refine jJ.rep ?_;rw[C4 Y a he];refine jJ.N (m:=g0 true (n+1)) (jJ.N (m:=fu _) ?_);unfold fu;rw[aS (cu Y),b];simp only[eQ,cA];rw[aS (show a1 () x F= .ok () x F from rfl)];exact az.N
theorem ado(t:H):c1 (41::t)=true:=(eg.op (oM t) (m1 t) (by decide) (by decide)).o9
theorem adp{D:ae Unit}{d:UInt8}{w x:H}{F:ah}{n:Nat}(b:(d::w).all qR=true)(f:d≠35)(c:c1 x=true)(g:ff (bs ((d::w++x).dropWhile ch))=false)(M:rB (d::w)=false)(U:oC (d::w)=false)(h:my (d::w)=false)(a:x≠[]):
  fG true (some (aU true n)) D (d::w++x) F=g8 true D x F:=by
 obtain⟨i,e⟩:=l2 (w:=d::w) (r:=x) (by simp) b (by simpa using f) c;unfold fG;rw[aS (cu e),i,aO (by simp),aO (by simp[gg,U])];simp only;rw[aO (by simp[M]),aS (td e g),aO (by simp),aS (Br b c a),aO (by simp[h])]
theorem arO{n:Nat}{u:H}{F:ah}:jJ (fG true (some (aU true n)) (dG (some (aU true n))) (49::43::40::u) F):=by
 rw[show(49::43::40::u:H)=[49,43]++(40::u) from rfl,adp (d:=49) (w:=[43]) (by decide) (by decide) (I9 _) (by
  rw[show([49,43]++(40::u):H).dropWhile ch=43::40::u from rfl,mU (by decide)];decide) (by decide) (by decide) (by decide) (by simp)]
 unfold g8;refine jJ.rep ?_;rw[aS (td (I7 u) (by rw[show(40::u:H).dropWhile ch=40::u from rfl,S2];decide)),aO (by simp),aS (FD _ _)];exact⟨_,rfl⟩
theorem adq{n:Nat}{u:H}{F:ah}:jJ (gK (aU true (n+1)) (.op [40]) (40::49::43::40::u) F):=by rw[GJ];obtain⟨b,c⟩:=l2 (w:=[49,43]) (r:=40::u) (by simp) (by decide) (by decide) (I9 _);have a:aq (49::43::40::u)= .word [49,43] true:=b;exact jJ.N (jJ.aM (jJ.ls (x:=49::43::40::u) c (by rw[a];simp) (by rw[a];simp) (by rw[a];rfl) (by rw[a];rfl) arO))
theorem adr{j:Bool}{u:H}(Y:bo u=some u)(a:aq u≠ .op [41])(av:∀n F,jJ (gK (aU true (n+2)) (.op [40]) (40::u) F)):hc j (40::u):=by
 refine⟨λv hu=>(by cases hu),λv hu=>(by cases hu),λ_ az n F au b=>?_,λv hu n F au b=>Vt (d:=0) (by omega) Y a au⟩
 obtain⟨m,rfl⟩:∃m,n=m+3:=⟨n-3,by omega⟩
 rw[wE];exact((av m F).named (x:=lX (.op [40]))).x
theorem hc.ak{j:Bool}{u:H}:hc j (40::49::43::40::u):=by obtain⟨a,b⟩:=l2 (w:=[49,43]) (r:=40::u) (by simp) (by decide) (by decide) (I9 _);exact adr b (by rw[show aq (49::43::40::u)=_ from a];simp) λn F=>adq
theorem hc.cx{j:Bool}{u:H}:hc j (40::40::49::43::40::u):=by refine adr (I7 _) (by rw[wE];simp) λn F=>?_;rw[GJ];refine jJ.N (jJ.aM (jJ.ls (x:=40::49::43::40::u) (I7 _) (by rw[wE];simp) (by rw[wE];simp) (by rw[wE];rfl) (by rw[wE];rfl) ?_));unfold fG;rw[aS (FD _ _),aO (by simp),bc (by rfl)];exact jJ.N (jJ.named (x:=lX (.op [40])) (adq (n:=n)))
theorem hc.a3{j:Bool}{u:H}:hc j (40::50::41::u):=by
 obtain⟨e,f⟩:=l2 (w:=[50]) (r:=41::u) (by simp) (by decide) (by decide) (ado _);have a:aq (50::41::u)= .word [50] true:=e;have b:bo (50::41::u)=some (50::41::u):=f;have g:=eg.op (oM u) (m1 u) (by decide) (by decide);refine⟨λv hu=>(by cases hu),λv hu=>(by cases hu),λ_ az n F au c=>?_,λv hu n F au c=>Vt (d:=0) (by omega) b (by rw[a];simp) au⟩
 obtain⟨m,rfl⟩:∃m,n=m+2:=⟨n-2,by omega⟩
 rw[wE];refine sx.named (m:=gK (aU true (m+1)) (.op [40])) ?_;have az:fG true (some (aU true m)) (dG (some (aU true m))) (50::41::u) F= .ok () (41::u) F:=by
  rw[show(50::41::u:H)=[50]++(41::u) from rfl,adp (d:=50) (w:=[]) (by decide) (by decide) (ado _) (by
   rw[show([50]++(41::u):H).dropWhile ch=41::u from rfl,<-(h4 (m1 u)).1];decide) (by decide) (by decide) (by decide) (by simp)]
  exact g.simple _ F
 have h:=(S1 b (by rw[a];rfl) az (oM u) (by rw[m1];simp) (by rw[m1];simp) (by rw[m1];simp)).2;have ay:(aU true (m+1)).ls .paren false (50::41::u) F= .ok 1 (41::u) F:=by rw[s_,o0,aS (h3.2 (pw b (by rw[a];simp))),cz,C4 b (by rw[a];simp) (by rw[a];rfl),aS (show g0 true (m+1) (50::41::u) F= .ok () (41::u) F from h),aS (cu (oM u)),m1];rfl
 rw[GJ,aS (h3.2 (show(aU true (m+1)).ls .paren false ((40::50::41::u).drop 1) F=_ from ay)),A3 (oM u) (m1 u)];exact⟨⟨[40,50,41],rfl⟩,c.sfx ⟨[40,50,41],rfl⟩⟩
theorem dD.J9{j:Bool}{k:Nat}{v:H}(h:dD j k v):∀w∈nn,dD j k (w++v):=by
 have av:∀w∈nn,w=[36,40,40,49,43,40,50,41,41,41]\/w6 w=true:=by decide
 intro w a;rcases av w a with rfl|az
 ·have b:dD j k (40::([50,41,41,41]++v)):= .free (h.const (by decide)) λ_=>hc.a3;have U:dD j k (40::([49,43]++(40::([50,41,41,41]++v)))):= .free (b.const (by decide)) λ_=>hc.ak;have M:dD j k (40::(40::([49,43]++(40::([50,41,41,41]++v))))):= .free U λ_=>hc.cx;refine .free M λd=>⟨λu hu c=>?_,λu hu=>(by cases hu),λY az=>?_,λu hu=>(by cases hu)⟩
  ·cases hu;exact absurd rfl c
  ·exfalso;rcases GM az with⟨u,hu⟩|⟨w,a,_,u,hu⟩
   ·cases hu
   ·rcases DM a with rfl|rfl|rfl|rfl|rfl|rfl<;>cases hu
 ·exact h.const az
section
variable{X:fy}{m:Nat}(hm:X.c0<=m)(eK:ab X.E m (g0 true m)){d:Nat}(kw:q5 X d m)
include hm eK kw
theorem arP{u v:H}{F:ah}(hu:gi d u)(au:cU X F (jT++([32]++([98]++(10::(hT++([32]++([99]++(10::(gf++([32]++(u++(59::(eh++([32,50,62,102]++v))))))))))))))):
  bJ X (λr=>r=[32,50,62,102]++v) F (gK (aU true m) (.word jT true) (jT++([32]++([98]++(10::(hT++([32]++([99]++(10::(gf++([32]++(u++(59::(eh++([32,50,62,102]++v)))))))))))))) F):=by
 have bk:=mV X.ok m;rw[zW,aO (by decide),bc rfl,oN,Vg,cz];have e:=au.sfx (fO jT _);have f:cU X F (10::(hT++([32]++([99]++(10::(gf++([32]++(u++(59::(eh++([32,50,62,102]++v))))))))))):=e.sfx ⟨[32,98],by simp⟩;have g:cU X F ([32]++([99]++(10::(gf++([32]++(u++(59::(eh++([32,50,62,102]++v))))))))):=f.sfx ⟨10::hT,by simp⟩;have h:cU X F (10::(gf++([32]++(u++(59::(eh++([32,50,62,102]++v))))))):=g.sfx ⟨[32,99],by simp⟩;have j:cU X F ([32]++(u++(59::(eh++([32,50,62,102]++v))))):=h.sfx ⟨10::gf,by simp⟩;have c:ab X.E m (N (cS eh) λ_=>(a1 (.inr ()):ae (Unit⊕Unit))):=ab.N X.ok (ab.cS X.ok _) λ_=>ab.ret _;have i:ab X.E m (N (bV []) λt=>if cG t iv then N (cS iv) λ_=>(a1 (.inl ()):ae (Unit⊕Unit)) else
  if cG t gf then N (cS gf) λ_=>N (((aU true m).ls .kE false).aM (10::eh)) λ_=>N (cS eh) λ_=>a1 (.inr ()) else N (cS eh) λ_=>a1 (.inr ())):=ab.ga X.ok λt=>ab.ite (ab.N X.ok (ab.cS X.ok _) λ_=>ab.ret _) (ab.ite (ab.N X.ok (ab.cS X.ok _) λ_=>ab.N X.ok ((bk.ls _ _).aM _) λ_=>c) c)
 unfold DH;refine bJ.q4 hm (yh X.ok bk) (kw.ls (.inr (.inl rfl)) (DG (.inr (.inl rfl))) (iF.yg (w:=hT) hm eK (by decide) (by decide) (by decide) rfl rfl f) e).aM (λa r' _ b=>?_) (λ_=>ab.N X.ok (ab.cS X.ok _) λ_=>ab.N X.ok ((bk.ls _ _).aM _) λ_=>i);subst b;rw[aS (rK (by decide) (by decide) (by decide) rfl)];refine bJ.q4 hm (yh X.ok bk) (kw.ls (.inr (.inl rfl)) (DG (.inr (.inr rfl))) (iF.yg (w:=gf) hm eK (by decide) (by decide) (by decide) rfl rfl h) g).aM (λa r' _ b=>?_) (λ_=>i);subst b;obtain⟨k,l⟩:=l2 (w:=gf) (r:=[32]++(u++(59::(eh++([32,50,62,102]++v))))) (by decide) (by decide) (by decide) rfl;rw[aS (cu l),k,aO (by decide),bc (by decide),aS (rK (by decide) (by decide) (by decide) rfl)];refine bJ.q4 hm (yh X.ok bk) (kw.ls (.inr (.inl rfl)) hu.cc (iF.Vh (w:=eh) hm eK (by decide) (by decide) (by decide) rfl rfl (by decide)) j).aM (λa r' _ b=>?_) (λ_=>c);subst b;rw[aS (rK (by decide) (by decide) (by decide) rfl)];exact bJ.ok
theorem arQ{t v v':H}{F:ah}(e:eg v v')(f:gi d t)(au:cU X F (40::41::32::123::([10]++(t++(10::([125]++([32,62,102]++v))))))):
  bJ X (λr=>r=v') F (lk true (some (aU true (m+1))) (40::41::32::123::([10]++(t++(10::([125]++([32,62,102]++v)))))) F):=by
 have bk:=mV X.ok (m+1);have av:=Vo hm eK kw (t:=t) (v:=[32,62,102]++v) (F:=F) rfl f (au.sfx ⟨[40,41,32],rfl⟩);have b:c1 ([10]++(t++(10::([125]++([32,62,102]++v)))))=true:=rfl;generalize [10]++(t++(10::([125]++([32,62,102]++v))))=z at au av b⊢;have g:(aU true (m+1)).has=true:=rfl;have h:bo (32::123::z)=some (123::z):=by rw[kx];exact jG (by decide) (by decide) (by decide)
 obtain⟨c,i⟩:=l2 (w:=[123]) (r:=z) (by decide) (by decide) (by decide) b;unfold lk;simp only;rw[bc g];refine bJ.named ?_
 rw[aS (show b6 1 (40::41::32::123::z) F= .ok () (41::32::123::z) F from rfl),aS (cu (oM _)),m1,aO (by simp),bc rfl,
  aS (show b6 1 (41::32::123::z) F= .ok () (32::123::z) F from rfl),aS (h3.2 (pw h (by rw[show aq (123::z)= .word [123] true from c];simp))),
  aS (cu (show bo (123::z)=some (123::z) from i)),show aq (123::z)= .word [123] true from c,aO (by simp),bc (by decide)]
 refine bJ.N (n:=m+1) (by omega) (show bJ X (λr=>r=[32,62,102]++v) F ((aU true (m+1)).cp (.word [123] true) (123::z) F) from av.named) (λa r' _ j=>?_) (λ_=>ab.ite bk.rd (ab.ret _));subst j;rw[bc trivial];rw[show(aU true (m+1)).rd=g7 (dG (some (aU true m))) from rfl,Vn (.inr (.inr rfl)) e];exact bJ.ok
end
theorem eg.sfx{v v':H}(h:eg v v'):v'<:+v:=ef h.pH
section
variable{j:Bool}{d:Nat}(aD:d<=2)
include aD
theorem hc.kw{r w v:H}(c:oC w=true)(a:aq r= .word w true)(e:v<:+r)(f:m2 j<:+r)
  (av:∀m F,q5 (j4 j) d m->ab (j4 j).E m (g0 true m)->(j4 j).c0<=m->cU (j4 j) F r->bJ (j4 j) (λq=>q=v) F (gK (aU true m) (.word w true) r F)):hc j r:=by
 have aE:∃u,r=w++u:=by obtain⟨u,hu⟩:=Ve (r:=r) (w:=w) (by rw[a];simp[cG]);exact⟨u,hu.symm⟩
 obtain⟨u,rfl⟩:=aE
 have b:∀x,(w++u).head?=some x->x≠40/\x≠36:=by intro x g;rcases DM c with rfl|rfl|rfl|rfl|rfl|rfl<;>(cases g;decide)
 refine arK ⟨v,a,λF h m hm=>⟨e,?_⟩⟩ (λu hu=>(b 40 (by rw[hu];rfl)).1 rfl) (λu hu=>(b 36 (by rw[hu];rfl)).2 rfl) f;obtain⟨i,k,l⟩:=J8 (j:=j) aD (m:=m) (by omega);exact av m F i k l h
theorem hc.fn{t v v':H}(b:eg v v')(e:gi d t)(f:m2 j<:+40::41::32::123::([10]++(t++(10::([125]++([32,62,102]++v)))))):hc j (40::41::32::123::([10]++(t++(10::([125]++([32,62,102]++v)))))):=by
 refine⟨λu hu=>(by cases hu),λu hu=>(by cases hu),λ_ az n F au a=>?_,λu hu n F au a=>?_⟩
 ·obtain⟨m,rfl⟩:∃m,n=m+2:=⟨n-2,by omega⟩
  rw[wE];refine(jJ.named (m:=gK (aU true (m+1)) (.op [40])) ?_).x;rw[GJ];refine jJ.N (jJ.aM ?_);show jJ ((aU true (m+1)).ls .paren false (41::_) F);rw[s_,o0,aS (h3.2 (pw (oM _) (by rw[m1];simp)))];refine jJ.rep ?_;unfold dS;rw[aS (cu (oM _)),m1,aO (by simp),aO (by simp)];exact jJ.N ⟨_,Ze (c:= .paren) (oM _) (by rw[m1];rfl) (by rw[m1];simp)⟩
 ·obtain⟨m,rfl⟩:∃m,n=m+1:=⟨n-1,by omega⟩
  obtain⟨g,h,i⟩:=J8 (j:=j) aD (m:=m) (by omega);refine(arQ i h g b e a).x f (b.sfx.trans ?_) a;exact⟨40::41::32::123::([10]++(t++(10::([125]++[32,62,102])))),by simp⟩
end
theorem eg.FN(u:H):eg (41::u) (41::u):=eg.op (oM u) (m1 u) (by decide) (by decide)
theorem eg.GN(u:H):eg (59::u) (59::u):=by
 cases u with
 |nil=>exact eg.op (uA []) (by decide) (o:=[59]) (by decide) (by decide)
 |cons b t=>
  by_cases h:b=59
  ·subst h;exact eg.op (uA _) GK (by decide) (by decide)
  ·exact eg.op (uA _) (J1 h) (by decide) (by decide)
section
variable{j:Bool}
structure uB(j:Bool)(d:Nat):Prop where
 wd:∀{w v:H}{k:Nat},fU d w->dD j k v->dD j k (w++v)
 ls:∀{t v v':H}{k:Nat},gi d t->eg v v'->dD j k v->dD j k (t++v)
theorem uB.list{C:H->Prop}(a:∀{c v v':H}{k:Nat},C c->eg v v'->dD j k v->dD j k (c++v)){t v v':H}{k:Nat}(d:rV C t)(e:eg v v')(h:dD j k v):dD j k (t++v):=by
 obtain⟨c,l,M,U,rfl⟩:=d;induction l generalizing c with
 |nil=>simpa[cN] using a M e h
 |cons p l f=>
  obtain⟨b,g⟩:=U p (by simp);have i:=f p.2 g λq m=>U q (by simp[m]);obtain⟨r,n⟩:=Vb (x:=p.2++cN l++v) b;have o:=a M n (i.const ((by decide:∀j∈jl,w6 j=true) p.1 b));have he:c++cN (p::l)++v=c++(p.1++(p.2++cN l++v)):=by simp[cN]
  rw[he];exact o
theorem uB.simple{W:H->Prop}(hW:∀{w v:H}{k:Nat},W w->dD j k v->dD j k (w++v)){c v:H}{k:Nat}(az:qm W (fU 0) c)(h:dD j k v):dD j k (c++v):=by
 obtain⟨x,ws,r,M,U,rfl,b⟩:=az;have d:dD j k (r++v):=by
  rcases b with rfl|rfl|⟨w,a,rfl⟩
  ·exact h
  ·exact h.const (by decide)
  ·have:=(h.J9 w a).const (p:=[32,62]) (by decide);simpa using this
 have e:dD j k (jc ws++(r++v)):=by
  clear M;induction ws with
  |nil=>exact d
  |cons w ws f=>have:=(hW (U w (by simp)) (f λw a=>U w (by simp[a]))).const (p:=[32]) (by decide);simpa[jc] using this
 have:=e.const ((by decide:∀x∈q3,w6 x=true) x M);simpa using this
theorem uB.word{d:Nat}(aD:d<=2)(i:uB j d){w v:H}{k:Nat}(c:fU (d+1) w)(h:dD j k v):dD j k (w++v):=by
 have a:∀{t u:H},gi d t->dD j k u->dD j k (36::40::(t++41::u)):=λ{t u} e hu=>
  .free (.free (i.ls e (eg.FN u) (hu.const (p:=[41]) (by decide))) λb=>hc.par aD e.cc b) λb=>hc.sub aD e b
 rcases c with c|⟨t,M,rfl|rfl⟩|⟨x,M,rfl⟩
 ·exact h.J9 w c
 ·simpa using a M h
 ·have:=(a M (h.const (p:=[34]) (by decide))).const (p:=[34,120]) (by decide);simpa using this
 ·have U:=(i.wd M (h.const (p:=[125]) (by decide))).const (p:=[120,58,45]) (by decide);have f:dD j k (36::123::([120,58,45]++(x++125::v))):= .free (.free U λ_=>hc.arM) λb=>hc.arL aD M b;simpa using f
theorem uB.comp{d:Nat}(aD:d<=2)(i:uB j d){c v v':H}{k:Nat}(az:tm (gi d) (fU d) c)(q:eg v v')(h:dD j k v):dD j k (c++v):=by
 have n:=q.o9;rcases az with⟨t,M,rfl⟩|⟨t,M,rfl⟩|⟨t,u,M,U,rfl⟩|⟨t,u,M,U,rfl⟩|⟨t,u,M,U,rfl⟩|⟨w,u,M,U,rfl⟩|rfl|⟨w,u,M,U,rfl⟩|⟨t,M,rfl⟩
 ·have:dD j k (40::(t++41::v)):= .free (i.ls M (eg.FN v) (h.const (p:=[41]) (by decide))) λa=>hc.par aD M.cc a;simpa using this
 ·have l:=(i.ls M (eg.nl _) (h.const (p:=[10,125]) (by decide))).const (p:=[32]) (by decide);have he:[123,32]++(t++[10])++[125]++v=123::([32]++(t++([10,125]++v))):=by simp
  rw[he];refine .free l λa=>?_;rw[<-he] at a⊢;refine hc.kw aD (w:=[123]) (v:=v) (by decide) (n7 (w:=[123]) (by decide) (by decide) (rJ _)) (fO _ _) a λm F b e f g=>acY f e b n M g
 ·have l:=(i.ls M (eg.GN _) ((i.ls U (eg.nl _) (((h.last n (.inl rfl):dD j k (105::v)).free λ_=>hc.plain rfl:dD j k (102::105::v)).const (p:=[10]) (by decide))).const (p:=[59,32,116,104,101,110,32]) (by decide))).const (p:=[102,32]) (by decide);have he:[105,102,32]++(t++[59])++[32,116,104,101,110,32]++(u++[10])++[102,105]++v=105::([102,32]++(t++([59,32,116,104,101,110,32]++(u++([10]++(102::105::v)))))):=by simp
  rw[he];refine .free l λa=>?_;rw[<-he] at a⊢;exact hc.kw aD (w:=jT) (v:=v) (by decide) (n7 (w:=jT) (by decide) (by decide) (rJ _)) (fO _ _) a λm F b e f g=>acZ f e b n M U g
 ·have l:=(i.ls U (eg.GN _) ((h.last n (.inr (.inl rfl)):dD j k (102::v)).const (p:=[59,102,105,32,50,62]) (by decide))).const (p:=[102,32,98,10,116,104,101,110,32,99,10,101,108,115,101,32]) (by decide);have he:105::([102,32,98,10,116,104,101,110,32,99,10,101,108,115,101,32]++(u++([59,102,105,32,50,62]++(102::v))))=jT++([32]++([98]++(10::(hT++([32]++([99]++(10::(gf++([32]++(u++(59::(eh++([32,50,62,102]++v))))))))))))):=by simp[jT,hT,gf,eh]
  have ak:dD j k (105::([102,32,98,10,116,104,101,110,32,99,10,101,108,115,101,32]++(u++([59,102,105,32,50,62]++(102::v))))):=by refine .free l λa=>?_;rw[he] at a⊢;exact hc.kw aD (w:=jT) (v:=[32,50,62,102]++v) (by decide) (n7 (w:=jT) (by decide) (by decide) (rJ _)) ⟨jT++([32]++([98]++(10::(hT++([32]++([99]++(10::(gf++([32]++(u++(59::eh))))))))))),by simp⟩ a λm F b e f g=>arP f e b U g
  have a3:=(i.ls M (eg.nl _) (ak.const (p:=[10,101,108]) (by decide))).const (p:=[102,32,97,59,32,116,104,101,110,10]) (by decide);have o:[105,102,32,97,59,32,116,104,101,110,10]++(t++[10])++[101,108,105,102,32,98,10,116,104,101,110,32,99,10,101,108,115,101,32]++(u++[59])++[102,105,32,50,62,102]++v=105::([102,32,97,59,32,116,104,101,110,10]++(t++([10,101,108]++(105::([102,32,98,10,116,104,101,110,32,99,10,101,108,115,101,32]++(u++([59,102,105,32,50,62]++(102::v)))))))):=by simp
  rw[o];refine .free a3 λa=>?_;rw[<-o] at a⊢;exact hc.kw aD (w:=jT) (v:=[32,50,62,102]++v) (by decide) (n7 (w:=jT) (by decide) (by decide) (rJ _)) ⟨[105,102,32,97,59,32,116,104,101,110,10]++(t++[10])++[101,108,105,102,32,98,10,116,104,101,110,32,99,10,101,108,115,101,32]++(u++[59])++[102,105],by simp⟩ a λm F b e f g=>ac0 f e b M U g
 ·have l:=(i.ls M (eg.nl _) ((i.ls U (eg.GN _) (h.const (p:=[59,32,100,111,110,101]) (by decide))).const (p:=[10,100,111,32]) (by decide))).const (p:=[104,105,108,101,32]) (by decide);have he:[119,104,105,108,101,32]++(t++[10])++[100,111,32]++(u++[59])++[32,100,111,110,101]++v=119::([104,105,108,101,32]++(t++([10,100,111,32]++(u++([59,32,100,111,110,101]++v))))):=by simp
  rw[he];refine .free l λa=>?_;rw[<-he] at a⊢;exact hc.kw aD (w:=tY) (v:=v) (by decide) (n7 (w:=tY) (by decide) (by decide) (rJ _)) (fO _ _) a λm F b e f g=>ac2 f e b n M U g
 ·have l:=(i.wd M ((i.ls U (eg.GN _) (h.const (p:=[59,100,111,110,101]) (by decide))).const (p:=[59,32,100,111,32]) (by decide))).const (p:=[111,114,32,120,32,105,110,32,97,32]) (by decide);have he:[102,111,114,32,120,32,105,110,32,97,32]++w++[59,32,100,111,32]++(u++[59])++[100,111,110,101]++v=102::([111,114,32,120,32,105,110,32,97,32]++(w++([59,32,100,111,32]++(u++([59,100,111,110,101]++v))))):=by simp
  rw[he];refine .free l λa=>?_;rw[<-he] at a⊢;exact hc.kw aD (w:=mz) (v:=v) (by decide) (n7 (w:=mz) (by decide) (by decide) (rJ _)) (fO _ _) a λm F b e f g=>ac5 f e b n M U g
 ·have l:=h.const (p:=[111,114,32,120,10,100,111,32,97,10,100,111,110,101]) (by decide);refine .free l λa=>?_;exact hc.kw aD (w:=mz) (v:=v) (by decide) (n7 (w:=mz) (by decide) (by decide) (rJ _)) (fO [102,111,114,32,120,10,100,111,32,97,10,100,111,110,101] _) a λm F b e f g=>ac7 f e b n g
 ·have a0:=((h.last n (.inr (.inr rfl)):dD j k (99::v)).const (p:=[32,59,59,32,100,41,32,101,115,97]) (by decide)).const (p:=[99,41]) (by decide);have l:dD j k (40::([99]++41::([32,59,59,32,100,41,32,101,115,97]++(99::v)))):= .free a0 λa=>hc.par (d:=0) (by omega) (DG (.inr (.inr rfl))) a;have ak:=(i.wd M ((i.ls U (eg.GN _) (l.const (p:=[59,59,10]) (by decide))).const (p:=[32,105,110,32,97,124,98,41,32]) (by decide))).const (p:=[97,115,101,32]) (by decide);have he:[99,97,115,101,32]++w++[32,105,110,32,97,124,98,41,32]++(u++[])++[59,59,10,40,99,41,32,59,59,32,100,41,32,101,115,97,99]++v=99::([97,115,101,32]++(w++([32,105,110,32,97,124,98,41,32]++(u++([59,59,10]++(40::([99]++41::([32,59,59,32,100,41,32,101,115,97]++(99::v))))))))):=by simp
  rw[he];refine .free ak λa=>?_;rw[<-he] at a⊢;exact hc.kw aD (w:=oB) (v:=v) (by decide) (n7 (w:=oB) (by decide) (by decide) (rJ _)) (fO _ _) a λm F b e f g=>adb f e b n M U g
 ·have l:=(i.ls M (eg.nl _) ((h.last n (.inr (.inl rfl)):dD j k (102::v)).const (p:=[10,125,32,62]) (by decide))).const (p:=[10]) (by decide);have he:123::([10]++(t++([10,125,32,62]++(102::v))))=123::([10]++(t++(10::([125]++([32,62,102]++v))))):=by simp
  have ak:dD j k (123::([10]++(t++([10,125,32,62]++(102::v))))):=by refine .free l λa=>?_;rw[he] at a⊢;exact hc.kw aD (w:=[123]) (v:=[32,62,102]++v) (by decide) (n7 (w:=[123]) (by decide) (by decide) (Fq _)) ⟨123::([10]++(t++(10::[125]))),by simp⟩ a λm F b e f g=>Vo f e b rfl M g
  have a3:dD j k (40::([41,32]++(123::([10]++(t++([10,125,32,62]++(102::v))))))):=by refine .free (ak.const (by decide)) λa=>?_;rw[he] at a⊢;exact hc.fn aD q M a
  have r:dD j k (102::(40::([41,32]++(123::([10]++(t++([10,125,32,62]++(102::v)))))))):= .free a3 λ_=>hc.plain rfl;have o:[102,40,41,32,123,10]++(t++[10])++[125,32,62,102]++v=102::(40::([41,32]++(123::([10]++(t++([10,125,32,62]++(102::v))))))):=by simp
  rw[o];exact r
theorem GO:∀d,d<=3->uB j d
 |0,_=>⟨λa h=>h.J9 _ a,λc b h=>uB.list (λaz _ h=>uB.simple (λa h=>h.J9 _ a) az h) c b h⟩
 |d+1,aD=>by
  have i:=GO d (by omega);refine⟨λa h=>i.word (by omega) a h,λc b h=>uB.list (λaz b h=>?_) c b h⟩;rcases az with az|az
  ·exact uB.simple (λa h=>i.word (by omega) a h) az h
  ·exact i.comp (by omega) az b h
end
def mD:H->Nat
 |[]=>0
 |b::t=>(if !w5 (b::t)&& !(t==[]&&([36,105,119,117,102,99]:H).contains b)&& !(b::t==[99,97]) then 0 else 1)+mD t
end Go.Eng
