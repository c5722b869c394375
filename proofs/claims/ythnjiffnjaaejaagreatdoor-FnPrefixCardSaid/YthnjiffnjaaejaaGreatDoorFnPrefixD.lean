/- Part 4 of what FnPrefix needs. No condition. -/
import Derived.Test.YthnjiffnjaaejaaGreatDoorFnPrefixC
set_option linter.all false
namespace Go.Eng
open Go Go.Proofs
theorem L2{R:bh}{n:Nat}(hA:th R n){e:cH}(bd:e.ne=30- (n:Int)){r:aa}{pd:aq}(h:dP e r pd)(A:bu r=some r){w:aa}{p:Bool}(j:au r= .word w p):
  aT e r (cP (a_ false n) r pd) (λ_=>e.st) (k5 R (e.st r pd)):=by
 have e0:k5 R (e.st r pd)=fixF (Kw R aj6) bC (e.st r pd):=by
  unfold k5 a9;refine(e1 ((kR e).some h A)).trans ?_;have:(jg (au r)).1=3:=by rw[j];rfl
  simp only[this,bx,gP,aS];rfl
 rw[e0];unfold cP;refine aT.rep (en:=λ_ r pd=>e.st r pd) (λk s r1 c ad hk=>?_) bC () r pd (lk (lF (eI h.sfx) h.bY)) h;unfold Kw a9;have B:wx (e.st r1 c).1 (e.st r1 c).2.1=some (c1 r1):=RG ad.bY ad.sfx;refine aT.dV ?_ (aO B);cases r1 with
 |nil=>
  have hl:decide ((e.st [] c).2.1=((e.st [] c).1.length:Int))=true:=by simp[cH.st,ig]
  show aT e [] (cN _ [] (b6 [] [] c)) _ (bif decide ((e.st [] c).2.1=((e.st [] c).1.length:Int)) then _ else _);rw[hl];exact aT.XR (k:=λy=>Empty.elim y) (f:=λx=>(x.1,x.2.1,c,x.2.2.2.1,e.op,x.2.2.2.2.2)) c2.k rfl rfl
 |cons b t=>
  have j:t<:+b::t:=eb b t;simp only;by_cases l:c1 (b::t)=true
  ·rw[bm l,l];have hl:decide ((e.st (b::t) c).2.1=((e.st (b::t) c).1.length:Int))=false:=by simp[cH.st,yz]
   show aT e (b::t) (cN _ (b::t) (aU (.inr ()) (b::t) c)) _ (bif decide ((e.st (b::t) c).2.1=((e.st (b::t) c).1.length:Int)) then _ else _);rw[hl];exact aT.inr fK ad rfl
  ·have C:c1 (b::t)=false:=by grind
   rw[aW l,C];refine aT.dV (y:=ba (zA R (e.st (b::t) c) true) (λx=>x) λz=>bif !z.1 then k (z.2.1,W (z.2.2.1+1),z.2.2.2.1,z.2.2.2.2.1,z.2.2.2.2.2.1,z.2.2.2.2.2.2) else k z.2) ?_ rfl;have aC:=X_ hA.toBelow true (λ_=>hA.u0) bd ad;unfold ae;simp only[cG] at aC;cases hm:cC (a_ false n) (some (eH (a_ false n))) (b::t) c with
   |ok a m o=>
    rw[hm] at aC;obtain⟨d,g,i⟩:=aC;have u:m.length<(b::t).length:=by grind
    refine aT.inl u ?_;have v:=hk () m o (d.trans j) g u;rcases i with i|⟨i,rfl,rfl⟩
    ·rw[e1 i];exact v
    ·rw[e1 i];show aT e _ _ _ (k (e.S,W (ay e.S (b::m)+1),o,e.ne,e.op,e.j1));rw[iK ad.bY ad.sfx];exact v
   |more op nd ds=>rw[hm] at aC;obtain⟨st,d,g⟩:=aC;exact⟨st,hy d,g⟩
   |bad q=>rw[hm] at aC;obtain⟨d,st,g⟩:=aC;exact⟨d,st,hy g⟩
   |deep q=>trivial
theorem aj7{α β:Type}{e:cH}{r0 r:aa}{pd:aq}{x:aa}{cv:α->aa->aq->β}{f:an->an}{k:Empty->Option (bo an β)}(h:dP e r pd)(b:bu r=some r)(hf:∀st,(f st).2.2.2.2.1=st.2.2.2.2.1\/(f st).2.2.2.2.1=e.op):
  aT e r0 ((if au r= .eof then b6 x else bK:ak α) r pd) cv (ba (ky (e.st r pd)) f k):=by
 by_cases a:au r= .eof
 ·rw[bm a];exact(((te h b).1 a).bind hf).rr
 ·rw[aW a];exact⟨h.sfx,_,hy ((te h b).2 a)⟩
theorem L3{α β:Type}{m:ak α}{e:cH}{r0 r:aa}{pd:aq}{x:aa}{cv:α->aa->aq->β}{f:an->an}{k:Empty->Option (bo an β)}(h:dP e r pd)(a:bu r=some r)(ad:au r= .eof->m=b6 x)(b:au r≠ .eof->m=bK)(hf:∀st,(f st).2.2.2.2.1=st.2.2.2.2.1\/(f st).2.2.2.2.1=e.op):
  aT e r0 (m r pd) cv (ba (ky (e.st r pd)) f k):=by
 have:=aj7 (α:=α) (r0:=r0) (x:=x) (cv:=cv) (f:=f) (k:=k) h a hf;by_cases c:au r= .eof
 ·simp_all
 simp_all
theorem RP{R:bh}{n:Nat}(hA:th R n){e:cH}(bd:e.ne=30- (n:Int))(x:aa):qh e (jH (a_ false n) x) (λ_=>e.st) (k5 R):=by
 intro r pd h;unfold jH;cases a:bu r with
 |none=>rw[dc (iw a)];unfold k5 a9;exact(((kR e).none h a).bind λ_=> .inr rfl).rr
 |some r'=>
  rw[aY (cA a)];have g:=dT a;have c:=h.mono g;have d:=lD _ _ _ (cX _) a;by_cases b:∃w p,au r'= .word w p
  ·obtain⟨w,p,b⟩:=b;rw[b];have f:k5 R (e.st r pd)=k5 R (e.st r' pd):=by unfold k5 a9;refine(e1 ((kR e).some h a)).trans (Eq.symm ((e1 ((kR e).some c d)).trans ?_));rfl
   rw[f];exact(L2 hA bd c d b).mono g
  ·have i:decide ((jg (au r')).1=3)=false:=by grind[decide_eq_false_iff_not,L1]
   have f:k5 R (e.st r pd)=ba (ky (e.st r' pd)) (λx=>(x.1,x.2.1,pd,x.2.2.2.1,e.op,x.2.2.2.2.2)) λy=>Empty.elim y:=by unfold k5 a9;refine(e1 ((kR e).some h a)).trans ?_;simp only[i,e3,aK];rfl
   rw[f];refine L3 (x:=x) c d (λhk=>by rw[hk]) (λhk=>?_) λ_=> .inr rfl;grind
theorem E7:dl [] 0=some []:=by simp[dl]
theorem RQ(q:UInt8)(a:q=0\/q=34)(c:UInt8)(u:aa):dl (92::c::u) q=if c=10 then dl u q else if q=0\/c=36\/c=34\/c=92\/c=96 then(dl u q).map (c::·) else(dl (c::u) q).map (92::·):=by rw[dl];grind
theorem aj8(q:UInt8)(a:q=0\/q=34):dl [92] q=none:=by rw[dl];rcases a with rfl|rfl<;>simp
theorem L4(q:UInt8)(a:q=0\/q=34)(b:UInt8)(c:b=36\/b=96)(u:aa):dl (b::u) q=none:=by rw[dl.eq_def];grind
theorem Yb(u:aa):dl (34::u) 34=dl u 0:=by grind[dl.eq_def]
theorem Ct(u:aa):dl (34::u) 0=dl u 34:=by grind[dl.eq_def]
theorem RR(u:aa):dl (39::u) 0=dl u 39:=by grind[dl.eq_def]
theorem Ir(q:UInt8)(a:q=0\/q=34)(b:UInt8)(ad:b≠92)(c:b≠36)(d:b≠96)(e:b≠34)(f:q=0->b≠39)(u:aa):dl (b::u) q=(dl u q).map (b::·):=by rw[dl.eq_def];grind
theorem RS(c:UInt8)(u:aa):dl (92::c::u) 34=(dl u 34).map (Ac c++·):=by
 rw[RQ 34 (.inr rfl)];unfold Ac;by_cases h:c=36\/c=34\/c=92\/c=96
 ·grind
 ·rw[aW h];by_cases a:c=10
  ·simp_all
  ·rw[aW a,aW a,aW (by grind)];simp only[not_or] at h;rw[Ir 34 (.inr rfl) c h.2.2.1 h.1 h.2.2.2 h.2.1 (λb=>absurd b (by decide))];cases dl u 34<;>rfl
theorem L5(t:aa):eA (34::t)= .closed [] t:=by simp[eA.eq_def]
theorem RT(b:UInt8)(a:b=36\/b=96)(t:aa):eA (b::t)= .part:=by rw[eA.eq_def];grind
theorem RU:eA [92]= .part:=by rfl
theorem L6(c:UInt8)(u:aa):eA (92::c::u)=(eA u).add (Ac c):=by rfl
theorem L7(b:UInt8)(ad:b≠34)(a:¬(b=36\/b=96))(c:b≠92)(t:aa):eA (b::t)=(eA t).add [b]:=by grind[eA.eq_def]
theorem Yc:∀(n:Nat)(t:aa),t.length<=n->match eA t with
  | .closed o r=>∃a,t=a++r/\∀v,dl (a++v) 34=(dl v 0).map (o++·)
  | .open_ o=>dl (t++[34]) 34=some o
  | .part=>dl (t++[34]) 34=none:=by
 intro n;induction n with
 |zero=>intro t h;have:t=[]:=nw.1 (by omega);subst this;show dl [34] 34=some [];rw[Yb,E7]
 |succ n i=>
  intro t ax;cases t with
  |nil=>grind
  |cons b t=>
   have j:t.length<=n:=by grind
   have d:∀(x u p:aa),u.length<=n->b::t=p++u->eA (b::t)=(eA u).add x->(∀v,dl (p++v) 34=(dl v 34).map (x++·))->match eA (b::t) with
     | .closed o r=>∃a,b::t=a++r/\∀v,dl (a++v) 34=(dl v 0).map (o++·)
     | .open_ o=>dl (b::t++[34]) 34=some o
     | .part=>dl (b::t++[34]) 34=none:=by
    intro x u p hu he k aH;have:=i u hu;rw[k];cases hk:eA u with
    |closed o r=>rw[hk] at this;obtain⟨a,rfl,l⟩:=this;refine⟨p++a,by grind,λv=>?_⟩;rw[uO,aH,l];cases dl v 0<;>simp
    |part=>grind[jd.add,List.append_assoc]
    |open_ o=>grind[jd.add,List.append_assoc]
   by_cases e:b=34
   ·subst e;rw[L5];exact⟨[34],rfl,λv=>by simp[Yb]⟩
   by_cases aC:b=36\/b=96
   ·rw[RT b aC];exact L4 34 (.inr rfl) b aC _
   by_cases f:b=92
   ·subst f;cases t with
    |nil=>simp[RU,dl,RS]
    |cons c u=>exact d (Ac c) u [92,c] (by grind) rfl (L6 c u) λv=>RS c v
   ·have g:b≠36/\b≠96:=by grind
    refine d [b] t [b] j rfl (L7 b e aC f t) λv=>?_;show dl (b::v) 34=_;rw[Ir 34 (.inr rfl) b f g.1 g.2 e (λm=>absurd m (by decide))];rfl
theorem Is:∀(t:aa),match gb t with
  |some r=>∃a,t=a++39::r/\a=t.take (t.length-r.length-1)/\∀v,dl (a++39::v) 39=(dl v 0).map (a++·)
  |none=>dl t 39=none
 |[]=>by show dl [] 39=none;simp[dl]
 |b::t=>by
  have c:=Is t;unfold gb;by_cases d:b=39
  ·subst d;rw[bm rfl];refine⟨[],rfl,by simp,λv=>?_⟩;show dl (39::v) 39=_;rw[dl.eq_def];simp
  ·rw[aW d]
   have aH:∀v,dl (b::v) 39=(dl v 39).map (b::·):=by grind[dl.eq_def]
   cases e:gb t with
   |none=>grind
   |some r=>
    rw[e] at c;obtain⟨a,ad,g,f⟩:=c;have hl:t.length=a.length+1+r.length:=by grind
    refine⟨b::a,by grind,?_,λv=>?_⟩
    ·have h:(b::t).length-r.length-1=(t.length-r.length-1)+1:=by grind
     grind
    ·show dl (b::(a++39::v)) 39=_;rw[aH,f];cases dl v 0<;>rfl
def gd:aa->Option (aa×aa)
 |[]=>some ([],[])
 |b::t=>if c1 (b::t) then some (b::t,[]) else
  if b=92 then match t with
   |[]=>some ([],[])
   |c::u=>gd u
  else if b=39 then match h:gb t with
   |none=>none
   |some r=>gd r
  else if b=36\/b=96 then none else
  if b=34 then match h:eA t with
   | .part=>some ([],[34])
   | .open_ o=>some ([],[34])
   | .closed o r=>gd r
  else gd t
termination_by r=>r.length
decreasing_by
 all_goals simp_wf
 ·omega
 ·have:=yt t r h;omega
 ·have:=EE t o r h;omega
theorem Yd:∀(n:Nat)(r:aa),r.length<=n->match gd r with
  |none=>dm r=none
  |some (q,a)=>∃w,r=w++q/\dm r=(dl (w++a) 0).map λd=>(d,q,a):=by
 intro n;induction n with
 |zero=>intro r h;have:r=[]:=nw.1 (by omega);subst this;rw[gd,dm];exact⟨[],rfl,by simp[E7]⟩
 |succ n C=>
  intro r ax;cases r with
  |nil=>grind
  |cons b t=>
   have D:t.length<=n:=by grind
   have go:∀(u p x:aa),u.length<=n->b::t=p++u->gd (b::t)=gd u->dm (b::t)=(dm u).map (λq=>(x++q.1,q.2))->(∀v,dl (p++v) 0=(dl v 0).map (x++·))->match gd (b::t) with
     |none=>dm (b::t)=none
     |some (q,a)=>∃w,b::t=w++q/\dm (b::t)=(dl (w++a) 0).map λd=>(d,q,a):=by
    intro u p x hu he ad k l;have:=C u hu;rw[ad,k];cases e:gd u with
    |none=>grind
    |some y=>obtain⟨q,a⟩:=y;rw[e] at this;obtain⟨w,rfl,E⟩:=this;refine⟨p++w,by grind,?_⟩;rw[E,uO,l];cases dl (w++a) 0<;>rfl
   by_cases F:c1 (b::t)=true
   ·have f:gd (b::t)=some (b::t,[]):=by rw[gd.eq_def];grind
    have g:dm (b::t)=some ([],b::t,[]):=by rw[dm.eq_def];grind
    rw[f,g];exact⟨[],rfl,by simp[E7]⟩
   by_cases m:b=92
   ·subst m;cases t with
    |nil=>
     have f:gd [92]=some ([],[]):=by rw[gd.eq_def];grind
     have g:dm [92]=none:=by rw[dm.eq_def];grind
     rw[f,g];exact⟨[92],rfl,by rw[rE,aj8 0 (.inl rfl)];rfl⟩
    |cons c u=>
     refine go u [92,c] (if c=10 then [] else [c]) (by grind) rfl (by rw[gd.eq_def];grind) (by rw[dm.eq_def];grind) λv=>?_;show dl (92::c::v) 0=_;rw[RQ 0 (.inl rfl)];by_cases aG:c=10
     ·simp[aG]
     grind
   by_cases s:b=39
   ·subst s;have z:=Is t;cases e:gb t with
    |none=>
     have f:gd (39::t)=none:=by rw[gd.eq_def];grind
     have g:dm (39::t)=none:=by rw[dm.eq_def];grind
     grind
    |some r=>
     rw[e] at z;obtain⟨i,ad,k,l⟩:=z
     refine go r (39::i++[39]) i (by grind) (by grind) (by
      rw[gd.eq_def];grind) (by
      rw[dm.eq_def];grind) λv=>?_
     grind[RR]
   by_cases aC:b=36\/b=96
   ·have f:gd (b::t)=none:=by rw[gd.eq_def];grind
    have g:dm (b::t)=none:=by rw[dm.eq_def];grind
    grind
   by_cases A:b=34
   ·subst A;have j:=Yc _ t (cX _);cases e:eA t with
    |closed o r=>
     rw[e] at j;obtain⟨i,ad,k⟩:=j
     refine go r (34::i) o (by grind) (by grind) (by
      rw[gd.eq_def];grind) (by
      rw[dm.eq_def];grind) λv=>?_
     grind[dl,Ct]
    |part=>
     rw[e] at j;have f:gd (34::t)=some ([],[34]):=by rw[gd.eq_def];grind
     have g:dm (34::t)=none:=by rw[dm.eq_def];grind
     grind[dl,Ct]
    |open_ o=>
     rw[e] at j;have f:gd (34::t)=some ([],[34]):=by rw[gd.eq_def];grind
     have g:dm (34::t)=some (o,[],[34]):=by rw[dm.eq_def];grind
     grind[dl,Ct]
   ·have B:b≠36/\b≠96:=by grind
    refine go t [b] [b] D rfl (by rw[gd.eq_def];grind) (by rw[dm.eq_def];grind) λv=>?_;show dl (b::v) 0=_;rw[Ir 0 (.inl rfl) b m B.1 B.2 A (λ_=>s)];rfl
def ti(S a:aa):jd->aa×Int
 | .closed o r=>(a++o,ay S r)
 |_=>([], -1)
theorem Ye(S a x:aa)(q:jd):ti S a (q.add x)=ti S (a++x) q:=by cases q<;>simp[jd.add,ti]
theorem aj9{S:aa}(dd:S.length<=1000000):∀(n:Nat)(r a:aa),r.length<n->r<:+S->a.length+r.length<=2000000->fixF (r3 S λ_=>some ([],(-1))) n (a,ay S r)=some (ti S a (eA r)):=by
 intro n;induction n with
 |zero=>omega
 |succ n f=>
  intro r a ax d p;rw[eZ];generalize fixF (r3 S _) n=k at f;unfold r3 a9;cases r with
  |nil=>simp[ig,eA,ti]
  |cons b t=>
   have q:t.length<n:=by grind
   have s:(b::t).length=t.length+1:=rfl;have i:=iK dd d;simp only[m4 d,bx,aK];rw[b8 ⟨(hR d).1,trivial⟩];simp only[jw d,i,nT,qf,nS,mC];by_cases g:b=34
   ·grind[L5,ti]
   simp only[g,bF,aS];by_cases aC:b=36\/b=96
   ·rw[RT b aC];rcases aC with rfl|rfl<;>simp[ti]
   have h:b≠36/\b≠96:=by grind
   simp only[h.1,h.2,bF,aS];by_cases e:b=92
   ·subst e;simp only[bx,aK];cases t with
    |nil=>simp[ig,RU,ti]
    |cons c u=>
     have bd:¬ay S (c::u)=(S.length:Int):=by simp[yz]
     have j:=iK dd (dY d);have l:(c::u).length=u.length+1:=rfl;have m:u.length<n:=by omega
     simp only[bd,bF,aS];rw[b8 (hR (dY d))];simp only[jw (dY d),j,pD];rw[L6,Ye];have v:=λx (w:x.length<=2)=>f u (a++x) m (dY (dY d)) (by grind);unfold Ac;by_cases aG:c=36\/c=34\/c=92\/c=96
     ·rw[bm aG];have:(bif bif bif decide (c=36) then true else decide (c=34) then true else decide (c=92) then true else decide (c=96))=true:=by grind
      rw[this];simp only[aK];grind[b8,List.length_singleton]
     ·rw[aW aG];have:(bif bif bif decide (c=36) then true else decide (c=34) then true else decide (c=92) then true else decide (c=96))=false:=by grind
      rw[this];by_cases o:c=10
      ·grind
      ·simp only[o,bF,e3,aK,aS,cm];grind[b8,List.length_cons,List.length_nil]
   ·simp only[e,bF,aS];rw[b8 ⟨(hR d).1,trivial⟩,b8 (by grind),L7 b g aC e,Ye];grind[dY,List.length_append,List.length_singleton]
theorem aj_{S r:aa}(dd:S.length<=1000000)(a:r<:+S):BJ S (ay S r) []=some (ti S [] (eA r)):=by unfold BJ a9;grind[eI,aj9,lk,Nat.le_trans,List.length_nil]
def Yf(S:aa)(st:Int)(pd:aq)(op:bs)(j:aa×Int->Option (bo an an))(y:Option (bo an an)):Option (aa×aa)->Prop
 |none=>∃s:an,y=some (.inl (2,st,s))
 |some (q,b)=>q<:+S/\∃a,(a=ay S q\/q=[]/\a=(S.length:Int)+1)/\y=j (b,a)
theorem aka{x0:an}{S:aa}{st a2 a3:Int}{j:aa×Int->Option (bo an an)}(dd:S.length<=1000000):∀(n:Nat)(r:aa),r.length+1<n->r<:+S->
  Yf S st x0.2.2.1 x0.2.2.2.2.1 j (fixF (x6 x0 S st a2 a3 j) n ([],ay S r)) (gd r):=by
 intro n;induction n with
 |zero=>omega
 |succ n h=>
  intro r ax d
  have i:∀(l:aa)(p:Int),n≠0->((S.length:Int)<=p/\p<=(S.length:Int)+1)->fixF (x6 x0 S st a2 a3 j) n (l,p)=j (l,p):=by
   intro l p D aC
   obtain⟨m,rfl⟩:∃m,n=m+1:=⟨n-1,by omega⟩
   rw[eZ];unfold x6;dsimp only;have:wx S p=some true:=by simp_all[wx,bx,aK,cR,a8]
   rw[this,aO rfl];rfl
  rw[eZ];generalize fixF (x6 x0 S st a2 a3 j) n=k at h i;unfold x6 a9;dsimp only;rw[RG dd d,aO rfl];have E:=eI d;cases r with
  |nil=>rw[gd];exact⟨d,_,.inl rfl,by rfl⟩
  |cons b t=>
   have F:(b::t).length=t.length+1:=rfl;have G:t.length+1<n:=by omega
   have A:=iK dd d;by_cases B:c1 (b::t)=true
   ·rw[B];have a:gd (b::t)=some (b::t,[]):=by rw[gd.eq_def];grind
    rw[a];exact⟨d,_,.inl rfl,by simp⟩
   have C:c1 (b::t)=false:=by grind
   rw[C];simp only[e3,aK,bx];rw[b8 (hR d)];simp only[jw d,mC,qQ,qf,nS,nT,A];by_cases s:b=92
   ·subst s;simp only[bx,aK];cases t with
    |nil=>
     have a:gd [92]=some ([],[]):=by rw[gd.eq_def];grind
     rw[a];have:W (ay S [92]+2)=(S.length:Int)+1:=by grind[ay,dU,List.length_singleton]
     rw[this];exact⟨ov,_,.inr ⟨rfl,rfl⟩,i _ _ (by omega) (by omega)⟩
    |cons c u=>
     have a:gd (92::c::u)=gd u:=by rw[gd.eq_def];grind
     have v:W (ay S (92::c::u)+2)=ay S u:=ko (w:=[92,c]) dd d;grind[List.length_cons,dY]
   simp only[s,bF,aS];by_cases x:b=39
   ·subst x;simp only[bx,aK];rw[X2 dd (dY d),aO rfl];cases f:gb t with
    |none=>
     have a:gd (39::t)=none:=by rw[gd.eq_def];grind
     rw[a];simp only[kS,show((-1:Int)<0) from by decide,bx,aK];exact⟨_,rfl⟩
    |some e=>
     have a:gd (39::t)=gd e:=by rw[gd.eq_def];grind
     rw[a];have g:=(Ag _ _ f).trans (dY d);have h0:¬ay S e<0:=by grind[eI,ay]
     simp only[kS,h0,bF,aS];exact h e (by have:=yt t e f;omega) g
   simp only[x,bF,aS];by_cases aC:b=36\/b=96
   ·have a:gd (b::t)=none:=by rw[gd.eq_def];grind
    rw[a];rcases aC with rfl|rfl
    ·simp only[bx,aK];exact⟨_,rfl⟩
    ·simp only[show¬((96:UInt8)=36) by decide,bx,bF,aK,aS];exact⟨_,rfl⟩
   have y:b≠36/\b≠96:=by grind
   simp only[y.1,y.2,bF,aS];by_cases z:b=34
   ·subst z;simp only[bx,aK];rw[aj_ dd (dY d),aO rfl]
    have H:∀q,eA t=q->(∀o r,q≠ .closed o r)->Yf S st x0.2.2.1 x0.2.2.2.2.1 j (bif decide ((ti S [] q).2<0) then k ([34],(S.length:Int)) else k ([],(ti S [] q).2)) (gd (34::t)):=by
     intro q g aG;have a:gd (34::t)=some ([],[34]):=by rw[gd.eq_def];grind
     rw[a];have v:(ti S [] q).2= -1:=by cases q with
      |closed o r=>grind
      |_=>rfl
     rw[v];simp only[show((-1:Int)<0) from by decide,bx,aK];exact⟨ov,_,.inl (ig S).symm,i _ _ (by omega) (by omega)⟩
    cases f:eA t with
    |closed o e=>
     have a:gd (34::t)=gd e:=by rw[gd.eq_def];grind
     rw[a];have g:=(Q9 _ _ _ _ (cX _) f).trans (dY d);have h0:¬ay S e<0:=by grind[eI,ay]
     simp only[ti,h0,bF,aS];exact h e (by have:=EE t o e f;omega) g
    |part=>grind
    |open_ o=>grind
   ·have a:gd (b::t)=gd t:=by rw[gd.eq_def];grind
    rw[a];simp only[z,bF,aS];grind[dY]
theorem L8(s:aa)(b:UInt8):(0<=Lib.indexByte s b)↔s.contains b=true:=by
 induction s with
 |nil=>simp[Lib.indexByte]
 |cons c t a=>unfold Lib.indexByte;grind
def Al(m:Option aa):aa×Bool:=match m with
 |some d=>if d.contains 10 then([],false) else(d,true)
 |none=>([],false)
theorem RV(l:aa)(hl:(l.length:Int)<=1048576):wI l=some (Al (dl l 0)):=by
 rw[ajI l hl];unfold nR Al;cases dl l 0 with
 |none=>rfl
 |some s=>
  simp only[tD];by_cases h:s.contains 10=true
  ·simp_all[bm,L8]
  simp_all[aW,L8]
theorem akb(l:aa)(hl:(l.length:Int)<=200000000):Ek l=some (Al (dl l 0)):=by
 rw[ajH l hl];unfold nR Al;cases dl l 0 with
 |none=>rfl
 |some s=>
  simp only[tD];by_cases h:s.contains 10=true
  ·simp_all[bm,L8]
  simp_all[aW,L8]
theorem Yg(r q a:aa)(h:gd r=some (q,a)):a.length<=1:=by
 fun_induction gd r<;>simp_all
 all_goals grind
theorem Yh{e:cH}{r:aa}{pd:aq}(tabs:Bool)(h:dP e r pd)(T:pd.length+r.length<e.S.length):aT e r (hi tabs r pd) (λ_=>e.st) (x7 (e.st r pd) tabs):=by
 unfold hi;cases f:bu r with
 |none=>unfold x7 a9;exact(((kR e).none h f).bind λ_=> .inr rfl).rr
 |some r'=>
  have v:=dT f;have a:=h.mono v;have z:=lD _ _ _ (cX _) f;simp only;by_cases m:∃w p,au r'= .word w p
  ·obtain⟨w,p,m⟩:=m;rw[m];simp only;unfold x7 a9;refine aT.dV ?_ (e1 ((kR e).some h f));have A:(jg (au r')).1=3:=by rw[m];rfl
   simp only[A,bx,gP,aS];generalize K:(λx:aa×Int=>_)=j;have g:=aka (x0:=e.st r pd) (S:=e.S) (st:=ay e.S r') (a2:=e.ne) (a3:=e.j1) (j:=j) h.bY bC r' (by have:=eI a.sfx;have:=h.bY;grind[gg]) a.sfx;have i:=Yd _ r' (cX _);show aT e r _ _ (fixF (x6 (e.st r pd) e.S (ay e.S r') e.ne e.j1 j) bC ([],ay e.S r'));generalize fixF (x6 (e.st r pd) e.S (ay e.S r') e.ne e.j1 j) bC ([],ay e.S r')=y at g;cases B:gd r' with
   |none=>rw[B] at g i;obtain⟨s,rfl⟩:=g;simp only at i;rw[i];exact⟨a.sfx,s,rfl⟩
   |some x=>
    obtain⟨q,b⟩:=x;rw[B] at g i;obtain⟨c,G,aH⟩:=i;obtain⟨L,k,aC,rfl⟩:=g;have C:q<:+r':=⟨c,G.symm⟩;have M:min k (e.S.length:Int)=ay e.S q:=by
     have:= @oQ q e.S;rcases aC with rfl|⟨rfl,rfl⟩
     ·omega
     grind[ig]
    have N:b9 e.S (ay e.S r') (ay e.S q)=c:=by rw[Il a.sfx C,G];simp
    have U:=eI a.sfx;have H:r'.length=c.length+q.length:=by grind
    have O:=v.length_le;have V:=h.bY;have W:b.length<=1:=Yg _ _ _ B;have D:((c++b).length:Int)<=1048576:=by grind
    rw[<-K];have E:min k ((e.st r' pd).1.length:Int)=ay e.S q:=M;simp only[E];have I:ay e.S r'<=ay e.S q/\0<=ay e.S r':=by grind[ay]
    refine aT.dV ?_ (b8 ⟨I.2,I.1,oQ⟩);show aT e r _ _ (a8 ((((b9 e.S (ay e.S r') (ay e.S q)).length+b.length:Nat):Int)<=9223372036854775807) (av (wI (b9 e.S (ay e.S r') (ay e.S q)++b)) _));rw[N];refine aT.dV ?_ (b8 (by omega));rw[aH];cases F:dl (c++b) 0 with
    |none=>
     have l:wI (c++b)=some ([],false):=by rw[RV _ D,F];rfl
     refine aT.dV ?_ (aO l);simp only[Option.map_none,e3,aK];refine aT.dV ?_ (b8 (λ_ n=>absurd n (by simp)));exact⟨a.sfx,_,rfl⟩
    |some d=>
     simp only[AS];by_cases t:d.contains 10=true
     ·have l:wI (c++b)=some ([],false):=by rw[RV _ D,F];exact mj some (bm t)
      refine aT.dV ?_ (aO l);rw[bm t];simp only[e3,aK];refine aT.dV ?_ (b8 (λ_ n=>absurd n (by simp)));exact⟨a.sfx,_,rfl⟩
     have l:wI (c++b)=some (d,true):=by rw[RV _ D,F];exact mj some (aW t)
     refine aT.dV ?_ (aO l);rw[aW t];simp only[gP,aS];have bq:(bif tabs then !decide (d=[]) else false)=true->(true:Bool)=true->(0:Int)<=0/\(0:Int)<(d.length:Int):=by
      intro n _;cases d with
      |nil=>grind
      |cons x y=>simp
     refine aT.dV ?_ (b8 (by grind))
     have P:(bif bif tabs then !decide (d=[]) else false then decide (((at' d 0).toNat:Int)=9) else false)=decide (tabs=true/\d.head?=some 9):=by
      cases tabs with
      |false=>simp
      |true=>
       cases d with
       |nil=>simp
       |cons x y=>simp[at',Ij]
     rw[P];by_cases u:tabs=true/\d.head?=some 9
     ·rw[bm u];simp only[u,nx,bx,aK];exact⟨a.sfx,_,rfl⟩
     rw[aW u];simp only[u,bF,aS];by_cases kb:b=[]
     ·subst kb;simp only[ne_eq,not_true,cm,bx,gP,aS];by_cases J:q=[]
      ·subst J;rw[bm rfl];have hle:decide ((e.S.length:Int)<=k)=true:=by
        rcases aC with rfl|⟨_,rfl⟩
        ·simp[ig]
        grind
       refine aT.dV ?_ (show(bif decide ((e.S.length:Int)<=k) then _ else _)=_ by rw[hle]);exact⟨_,rfl,by simp[cH.st]⟩
      ·rw[aW J];have Q:k=ay e.S q:=by grind
       subst Q;have hle:decide ((e.S.length:Int)<=ay e.S q)=false:=by grind[ay,yz,oQ]
       refine aT.dV ?_ (show(bif decide ((e.S.length:Int)<=ay e.S q) then _ else _)=_ by rw[hle]);have X:=h.RM;have Y:=C.length_le;refine aT.dV ?_ (b8 (show pd.length+[(d,tabs)].length<=536870912 by grind));exact⟨C.trans v,⟨h.bY,L,by grind,by have:=h.ops;omega⟩,rfl⟩
     ·rw[bm kb];simp only[kb,bF,e3,aK];exact LW rfl rfl h.w2 λ_=>rfl
  ·have A:decide ((jg (au r')).1=3)=false:=by grind[decide_eq_false_iff_not,L1]
   have R:x7 (e.st r pd) tabs=ba (ky (e.st r' pd)) (λx=>(x.1,x.2.1,pd,x.2.2.2.1,e.op,x.2.2.2.2.2)) λy=>Empty.elim y:=by unfold x7 a9;refine(e1 ((kR e).some h f)).trans ?_;simp only[A,e3,aK];rfl
   rw[R];cases hk:au r' with
   |word w p=>grind
   |eof=>exact(((te a z).1 hk).bind λ_=> .inr rfl).rr
   |line=>exact⟨a.sfx,_,hy ((te a z).2 (by grind))⟩
   |op o=>exact⟨a.sfx,_,hy ((te a z).2 (by grind))⟩
theorem Yk(b:UInt8):DV (b.toNat:Int)=some (cb b):=by
 unfold DV zF cb;have ad:((48:Int)<=(b.toNat:Int))=((48:UInt8)<=b):=by apply propext;rw[C6];grind
 have a:((b.toNat:Int)<=(57:Int))=(b<=(57:UInt8)):=by apply propext;rw[C6];grind
 grind[av]
theorem akd(w:aa)(d:w.length<=1000000):D0 w=some (!decide (w=[])&&w.all cb):=by
 have a:∀(n:Nat)(r:aa),r.length<n->r<:+w->fixF (Hn w λ_=>some (!(decide (w=[])))) n (ay w r)=some (!decide (w=[])&&r.all cb):=by
  intro n;induction n with
  |zero=>omega
  |succ n e=>
   intro r ax c;rw[eZ];generalize fixF (Hn w _) n=k at e;unfold Hn;cases r with
   |nil=>simp[ig]
   |cons b t=>
    have f:=iK d c;simp only[m4 c,bx,aK];rw[b8 ⟨(hR c).1,trivial⟩,jw c,Yk,aO rfl,f];cases g:cb b with
    |false=>grind
    |true=>simp only[gP,aS];grind[List.length_cons,dY]
 unfold D0 a9;have:=a bC w (lk d) fK;grind[Ii]
theorem Am{b:UInt8}(h:cb b=true):f_ b=false/\b≠10/\b≠92/\b≠39/\b≠34/\b≠96/\b≠36/\b≠35/\oN b=false:=by
 have ad:(48:UInt8)<=b/\b<=(57:UInt8):=by grind[cb]
 rw[C6,C6] at ad;have a:(48:UInt8).toNat=48:=rfl;have c:(57:UInt8).toNat=57:=rfl;rw[a,c] at ad;have d:b=UInt8.ofNat b.toNat:=by simp
 generalize b.toNat=n at*;subst d;have:n=48\/n=49\/n=50\/n=51\/n=52\/n=53\/n=54\/n=55\/n=56\/n=57:=by omega
 rcases this with rfl|rfl|rfl|rfl|rfl|rfl|rfl|rfl|rfl|rfl<;>decide
theorem Yl{b:UInt8}{t:aa}(h:cb b=true):c1 (b::t)=false:=by obtain⟨ad,a,_,_,_,_,_,_,c⟩:=Am h;show(f_ b||b==10||br (b::t)!=[])=false;grind[og]
theorem ake{b:UInt8}{t:aa}(h:cb b=true):ga (b::t)=false:=by simp_all[Am,sm]
theorem Ym:∀(r:aa),c1 (r.dropWhile cb)=true->c4 r=(r.takeWhile cb,true)
 |[],_=>by decide
 |b::t,h=>by
  cases a:cb b with
  |true=>rw[TK a] at h;obtain⟨ad,c,d,e,f,g,i,j,k⟩:=Am a;unfold c4;simp_all[Yl,aW,ake,Ym,List.takeWhile_cons_of_pos]
  |false=>simp_all[Ji,c4,bm,TP]
theorem RY:∀(r w:aa),c4 r=(w,true)->c1 (r.drop w.length)=true
 |[],w,h=>by simp[c4] at h;subst h;rfl
 |b::t,w,h=>by
  unfold c4 at h;split at h
  ·rename_i a;cases h;exact a
  ·split at h
   ·cases h
   ·split at h
    ·rename_i w' c;cases h;exact RY t w' c
    ·cases h
def uB(r:aa):aa:=match au r with
 | .word w true=>if(!decide (w=[])&&w.all cb) then r.drop w.length else r
 |_=>r
theorem akf{r:aa}(d:bu r=some r):(eV (br (r.dropWhile cb))=true->uB r=r.dropWhile cb)/\eV (br (uB r))=eV (br (r.dropWhile cb)):=by
 have g:eV []=false:=by decide
 by_cases i:c1 (r.dropWhile cb)=true
 ·have:uB r=r.dropWhile cb:=by
   cases r with
   |nil=>decide
   |cons b t=>
    cases e:cb b with
    |true=>
     obtain⟨ad,y,_,_,_,_,_,_,z⟩:=Am e;have a:au (b::t)= .word ((b::t).takeWhile cb) true:=by show(if b=10 then Tok.line else if br (b::t)≠[] then .op (br (b::t)) else .word (c4 (b::t)).1 (c4 (b::t)).2)=_;simp_all[aW,og,Ym]
     unfold uB;rw[a];simp only;have j:¬(b::t).takeWhile cb=[]:=by simp_all
     have k:((b::t).takeWhile cb).all cb=true:=List.all_takeWhile;rw[k];simp only[j,bF,e3,Bool.and_self,cG];have:=TO (p:=cb) (l:=b::t);grind
    |false=>
     rw[Ji (by grind)] at i⊢;unfold uB;cases a:au (b::t) with
     |word w p=>
      have m:f_ b=false:=by
       cases n:f_ b with
       |false=>rfl
       |true=>rw[E1 n] at d;have:=(dT d).length_le;grind
      grind[H_]
     |_=>rfl
  grind
 ·have o:c1 (r.dropWhile cb)=false:=by grind
  have q:br (r.dropWhile cb)=[]:=by
   cases A:r.dropWhile cb with
   |nil=>decide
   |cons c u=>grind[c1,Bool.or_eq_false_iff]
  rw[q,g];refine⟨λh=>absurd h (by decide),?_⟩;have s:uB r=r:=by
   unfold uB;cases a:au r with
   |word w p=>
    cases p with
    |true=>
     simp only;by_cases x:(!decide (w=[])&&w.all cb)=true
     ·exfalso;simp only[hE] at x;cases r with
      |nil=>grind[au]
      |cons b t=>
       have aC:c4 (b::t)=(w,true):=by have B:(if b=10 then Tok.line else if br (b::t)≠[] then .op (br (b::t)) else .word (c4 (b::t)).1 (c4 (b::t)).2)= .word w true:=a;grind
       obtain⟨v,f⟩:=(EL _ _ aC).1;have he:=RY _ _ aC;rw[<-f,o0] at he;rw[<-f,List.dropWhile_append_of_pos (by grind)] at o;cases v with
       |nil=>simp_all
       |cons c u=>grind[cb,Yl,List.dropWhile_cons_of_neg]
     grind
    |false=>rfl
   |_=>rfl
  rw[s];cases r with
  |nil=>simp_all
  |cons b t=>
   cases e:cb b with
   |true=>simp_all[og,Am]
   |false=>simp_all
theorem RZ{o:aa}(h:eV o=true):1<=o.length:=by
 cases o with
 |nil=>exact absurd h (by decide)
 |cons a b=>simp
theorem Iv{R:bh}{n:Nat}(hA:th R n){e:cH}(bd:e.ne=30- (n:Int)):qh e (dy (a_ false n)) (λb r pd=>(b,e.st r pd)) (x8 R):=by
 intro r pd h;unfold dy;cases d:bu r with
 |none=>
  have:fF r pd=Go.Eng.b6 [] r pd:=by grind[fF]
  rw[dc (nd:=(cO [] pd []).1) (ds:=(cO [] pd []).2) this];unfold x8;exact(((kR e).none h d).bind λ_=> .inr rfl).rr
 |some r'=>
  have g:=dT d;have f:=h.mono g;have I:=lD _ _ _ (cX _) d;obtain⟨i,w8⟩:=akf I;have J:r'.dropWhile cb<:+r':=Ch;have K:uB r'<:+r':=by grind[uB,List.drop_suffix]
  have Y:=eI f.sfx;have j:=h.bY;unfold x8 a9;refine aT.dV ?_ (e1 ((kR e).some h d));have L:∀(k:Int->Option (bo an (Bool×an)))(y:Option (bo an (Bool×an))),y=(cR ((bif(decide ((jg (au r')).1=3)) then(jg (au r')).2.2 else false)=true) (D0 (jg (au r')).2.1) false λ(M:Bool)=>
    (bif(bif(bif(decide ((jg (au r')).1=3)) then(jg (au r')).2.2 else false) then M else false) then
    k (W (ay e.S r'+((jg (au r')).2.1.length:Int)))
    else k (ay e.S r')))->y=k (ay e.S (uB r')):=by
   intro k y N;rw[N];unfold uB;cases O:au r' with
   |word w p=>
    cases p with
    |false=>rfl
    |true=>
     have l:=(qd O).1;have P:w.length<=1000000:=by grind
     simp only[jg,bx,aK];rw[akd w P,fV,bm trivial];cases aG:(!decide (w=[])&&w.all cb) with
     |false=>simp
     |true=>obtain⟨q,rfl⟩:=l;simp only[aK,cG,o0];rw[ko j f.sfx]
   |_=>rfl
  refine aT.dV ?_ (L (λs=>av (zv e.S s) λ(c:aa)=>
   (av (D1 c) λ(Q:Bool)=>
   (bif(!Q) then
   some (.inr (false,e.st r' pd))
   else
   (bif(bif(decide (c=([60,60]:aa))) then true else(decide (c=([60,60,45]:aa)))) then
   (ba (x7 (e.S,(W (s+(c.length:Int))),pd,e.ne,e.op,e.j1) (decide (c=([60,60,45]:aa)))) (λx=>x) λ(t:an)=>
   some (.inr (true,t)))
   else
   (ba (k5 R (e.S,(W (s+(c.length:Int))),pd,e.ne,e.op,e.j1)) (λx=>x) λ(S:an)=>
   some (.inr (true,S))))))) _ rfl)
  refine aT.dV ?_ (aO (RF j (K.trans f.sfx)));refine aT.dV ?_ (aO (ajV _));by_cases u:eV (br (r'.dropWhile cb))=true
  ·have z:fF r pd= .ok (some (br (r'.dropWhile cb))) ((r'.dropWhile cb).drop (br (r'.dropWhile cb)).length) pd:=by simp_all[fF,bm]
   rw[aY z,i u];rw[u];simp only[gP,aS];have D:=J.trans g;have A:=h.mono D;generalize r'.dropWhile cb=q at*;have l:br q<+:q:=Q7;have ad:=RZ u;generalize Z:br q=o at*;obtain⟨v,rfl⟩:=l;rw[o0];have E:v<:+o++v:=gQ o v;have B:=A.mono E;have T:W (ay e.S (o++v)+(o.length:Int))=ay e.S v:=ko j A.sfx;simp only[T]
   have C:∀(m:ak Unit)(y:Option (bo an an)),aT e v (m v pd) (λ_=>e.st) y->aT e r (ae m (λ_=>aU true) v pd) (λb r pd=>(b,e.st r pd)) (ba y (λx=>x) λt=>some (.inr (true,t))):=by intro m y hm;exact aT.iy c2.id (hm.mono (E.trans D)) (λ_=>rfl) λa r1 aF _ U V=>⟨U,V,rfl⟩
   have F:pd.length+v.length<e.S.length:=by have:=A.jJ;grind
   by_cases G:o=[60,60]
   ·subst G;simp only[bx,aK,cG,show¬(([60,60]:aa)=[60,60,45]) by decide,bF];exact C _ _ (Yh false B F)
   ·by_cases H:o=[60,60,45]
    ·subst H;simp only[bx,aK,cG,show¬(([60,60,45]:aa)=[60,60]) by decide,bF,aS,cm];exact C _ _ (Yh true B F)
    ·simp only[G,H,bF,aS,cm];exact C _ _ (RP hA bd _ v pd B)
  ·have z:fF r pd= .ok none r' pd:=by simp_all[fF,aW]
   have X:eV (br (uB r'))=false:=by grind
   rw[aY z,X];exact⟨g,f,rfl⟩
theorem Yo{R:bh}{n:Nat}(hA:th R n){e:cH}(bd:e.ne=30- (n:Int)):qh e (gO (a_ false n)) (λ_=>e.st) (D2 R):=by
 intro r pd h;unfold gO D2 a9;refine aT.rep (en:=λ_ r pd=>e.st r pd) (λk s r1 a ad hk=>?_) bC () r pd (lk (lF (eI h.sfx) h.bY)) h;unfold P0;refine aT.iy c2.k (Iv hA bd r1 a ad) (λ_=>rfl) λb c i d f g=>?_;cases b with
 |false=>exact aT.inr f g rfl
 |true=>
  rw[bm rfl];by_cases hl:c.length<r1.length
  ·grind[aT.inl]
  ·exact absurd (sh (w3 false n▸(pC false n).dl) d) hl
theorem l4(fr:Bool)(n:Nat):hP (a_ fr n):=w3 fr n▸(pC fr n).dl
theorem aT.tst{α b β c:Type}{C:dt α->dt b}(i:c2 C){e:cH}{r0 r:aa}{pd:aq}{x:aa}{k:Tok->ak α}{f:Tok->β}{F:an->Option (bo an (β×an))}{cv:b->aa->aq->c}{g:an->an}{K:β×an->Option (bo an c)}
  (d:oi e f F) (h:dP e r pd)
  (hk:∀r',bu r=some r'->r'<:+r->dP e r' pd->bu r'=some r'->aT e r0 (C (k (au r') r' pd)) cv (K (f (au r'),e.st r' pd))) (bq:∀st,(g st).2.2.2.2.1=st.2.2.2.2.1\/(g st).2.2.2.2.1=e.op:=by intro _;first|exact .inl rfl|exact .inr rfl):
  aT e r0 (C (Go.Eng.ae (bP x) k r pd)) cv (ba (F (e.st r pd)) g K):=by
 cases a:bu r with
 |none=>rw[dc (iw a),i.more];exact((d.none h a).bind bq).rr
 |some r'=>rw[aY (cA a),e1 (d.some h a)];exact hk r' a (dT a) (h.mono (dT a)) (lD _ _ _ (cX _) a)
theorem R3{b:Tok->Bool}{n:Nat}{r:aa}{pd:aq}{a:Unit}{r':aa}{d:aq}(h:m2 b n r pd= .ok a r' d):d=pd:=by
 unfold m2 at h;obtain⟨t,r1,e,ad,c⟩:=b0 h;obtain⟨_,_,rfl⟩:=Iq ad;split at c
 ·grind[b6]
 ·split at c
  ·cases c;rfl
  ·cases c
theorem R4{b:Tok->Bool}{n:Nat}{r:aa}{pd:aq}{op:bs}{nd:aa}{ds:aq}(h:m2 b n r pd= .more op nd ds):op=[]:=by
 unfold m2 at h;cases a:bu r with
 |none=>rw[dc (nd:=(cO [] pd []).1) (ds:=(cO [] pd []).2) (op:=[]) (by rw[iw a];rfl)] at h;grind
 |some r'=>
  rw[aY (cA a)] at h;split at h
  ·grind[b6]
  ·split at h<;>cases h
theorem aT.R5{α g i β j:Type}{C:dt g->dt i}(d:c2 C){e:cH}{r0 r:aa}{pd:aq}{m:ak α}{k:α->ak g}{cv:α->aa->aq->β}{cv':i->aa->aq->j}{y:Option (bo an β)}{k':β->Option (bo an j)}{f:an->an}
  (h:aT e r0 (m r pd) cv y) (hm:∀op nd ds,m r pd= .more op nd ds->op=[]) (hf:∀st,(f st).2.2.2.2.1=st.2.2.2.2.1\/(f st).2.2.2.2.1=e.op) (hk:∀a r1 b,m r pd= .ok a r1 b->r1<:+r0->dP e r1 b->aT e r0 (C (k a r1 b)) cv' (k' (cv a r1 b))):
  aT e r0 (C (Go.Eng.ae m k r pd)) cv' (ba y f k'):=by
 unfold Go.Eng.ae;cases c:m r pd with
 |ok a r1 b=>rw[c] at h;obtain⟨ad,l,rfl⟩:=h;exact hk a r1 b c ad l
 |more op nd ds=>rw[c] at h;obtain⟨st,rfl,l⟩:=h;rw[d.more];have:=hm op nd ds c;subst this;refine⟨f st,rfl,?_⟩;grind
 |bad q=>rw[c] at h;obtain⟨ad,st,rfl⟩:=h;rw[d.bad];exact⟨ad,f st,rfl⟩
 |deep q=>rw[d.deep];trivial
theorem akh{α:Type}{m:ak α}{x r:aa}{pd:aq}{op:bs}{nd:aa}{ds:aq}(h:m.aM x r pd= .more op nd ds):∃a b,m r pd= .more op a b:=by unfold ak.aM at h;grind
theorem aT.res{α d f:Type}{C:dt α->dt d}(i:c2 C){e:cH}{r0 r:aa}{pd:aq}{w x:aa}{k:Unit->ak α}{cv:d->aa->aq->f}{g:an->an}{K:an->Option (bo an f)}
  (j:0<w.length) (h:dP e r pd) (h0:r<:+r0) (hk:∀r1,r1<:+r->dP e r1 pd->r1.length<r.length->aT e r0 (C (k () r1 pd)) cv (K (e.st r1 pd))) (bq:∀st,(g st).2.2.2.2.1=st.2.2.2.2.1\/(g st).2.2.2.2.1=e.op:=by intro _;first|exact .inl rfl|exact .inr rfl):
  aT e r0 (C (Go.Eng.ae ((cV w).aM x) k r pd)) cv (ba (nb (e.st r pd) w) g K):=by
 refine aT.R5 i ((aT.aM (x:=x) (Im w h)).mono h0) (λop nd ds b=>by obtain⟨_,_,b⟩:=akh b;exact R4 b) bq λa r1 m c ad l=>?_;have:=R3 (jv.1 c);subst this;exact hk r1 ((ar.res _).sfx (jv.1 c)) l (Rb j (jv.1 c))
theorem Yp{α:Type}(m:ak α):m.aM []=m:=by
 funext r pd
 unfold ak.aM;cases m r pd<;>rfl
theorem aT.L_{α a b:Type}{C:dt α->dt a}(c:c2 C){e:cH}{r0 r:aa}{pd:aq}{w:aa}{k:Unit->ak α}{cv:a->aa->aq->b}{g:an->an}{K:an->Option (bo an b)}
  (d:0<w.length) (h:dP e r pd) (h0:r<:+r0) (hk:∀r1,r1<:+r->dP e r1 pd->r1.length<r.length->aT e r0 (C (k () r1 pd)) cv (K (e.st r1 pd))) (bq:∀st,(g st).2.2.2.2.1=st.2.2.2.2.1\/(g st).2.2.2.2.1=e.op:=by intro _;first|exact .inl rfl|exact .inr rfl):
  aT e r0 (C (Go.Eng.ae (cV w) k r pd)) cv (ba (nb (e.st r pd) w) g K):=by
 have:=aT.res (x:=[]) c d h h0 hk bq;grind[Yp]
theorem aT.Yq{e:cH}{r0 r:aa}{pd:aq}{w:aa}{g:an->an}{K:an->Option (bo an an)}(h:dP e r pd)(h0:r<:+r0)(i:∀r1,K (e.st r1 pd)=some (.inr (e.st r1 pd)))(bq:∀st,(g st).2.2.2.2.1=st.2.2.2.2.1\/(g st).2.2.2.2.1=e.op:=by intro _;first|exact .inl rfl|exact .inr rfl):
  aT e r0 (cV w r pd) (λ_=>e.st) (ba (nb (e.st r pd) w) g K):=by
 have:=aT.R5 (C:=λx=>x) (k:=λ_=>aU ()) (cv':=λ_=>e.st) (f:=g) (k':=K) c2.id ((Im w h).mono h0) (λop nd ds b=>R4 b) bq λa r1 j c ad d=>⟨ad,d,by rw[R3 c];grind⟩;grind[E5]
theorem aT.aki{e:cH}{r0 r:aa}{pd:aq}{w:aa}{g:an->an}{K:an->Option (bo an an)}(h:dP e r pd)(h0:r<:+r0)(i:∀r1,K (e.st r1 pd)=some (.inr (e.st r1 pd)))(bq:∀st,(g st).2.2.2.2.1=st.2.2.2.2.1\/(g st).2.2.2.2.1=e.op:=by intro _;first|exact .inl rfl|exact .inr rfl):
  aT e r0 (jI w r pd) (λ_=>e.st) (ba (rV (e.st r pd) w) g K):=by
 have:=aT.R5 (C:=λx=>x) (k:=λ_=>aU ()) (cv':=λ_=>e.st) (f:=g) (k':=K) c2.id ((LR w h).mono h0) (λop nd ds b=>R4 b) bq λa r1 j c ad d=>⟨ad,d,by rw[R3 c];grind⟩;grind[E5]
theorem aT.ls{α d f:Type}{C:dt α->dt d}(i:c2 C){R:bh}{n:Nat}(bk:w4 R n){e:cH}(bd:e.ne=30- (n:Int)){r0 r:aa}{pd:aq}{c:Ctx}{no:Bool}{x:aa}{k:Nat->ak α}{cv:d->aa->aq->f}{g:an->an}{K:Int×an->Option (bo an f)}
  (h:dP e r pd) (h0:r<:+r0) (hk:∀a r1 b,r1<:+r->dP e r1 b->aT e r0 (C (k a r1 b)) cv (K ((a:Int),e.st r1 b))) (bq:∀st,(g st).2.2.2.2.1=st.2.2.2.2.1:=by intro _;rfl) (j:c≠ .text:=by simp):
  aT e r0 (C (Go.Eng.ae (((aZ false n).ls c no).aM x) k r pd)) cv (ba (R.kg (e.st r pd) (Cr c) no) g K):=
 aT.iy i ((aT.aM (x:=x) (bk.im e c no j bd r pd h)).mono h0) bq λa r1 b l ad m=>hk a r1 b (((pC false n).ls c no).sfx (jv.1 l)) m
theorem aT.lines{α c d:Type}{C:dt α->dt c}(i:c2 C){e:cH}{r0 r:aa}{pd:aq}{x:aa}{k:Bool->ak α}{cv:c->aa->aq->d}{g:an->an}{K:Bool×an->Option (bo an d)}
  (h:dP e r pd) (h0:r<:+r0) (hk:∀a r1 b,cS r pd= .ok a r1 b->r1<:+r->dP e r1 b->aT e r0 (C (k a r1 b)) cv (K (a,e.st r1 b))) (bq:∀st,(g st).2.2.2.2.1=st.2.2.2.2.1:=by intro _;rfl):
  aT e r0 (C (Go.Eng.ae (cS.aM x) k r pd)) cv (ba (k3 (e.st r pd)) g K):=
 aT.iy i ((aT.aM (x:=x) (XZ h)).mono h0) bq λa r1 b f ad j=>hk a r1 b (jv.1 f) (ar.lines.sfx (jv.1 f)) j
theorem aT.An{α c d:Type}{C:dt α->dt c}(f:c2 C){e:cH}{r0 r:aa}{pd:aq}{k:Bool->ak α}{cv:c->aa->aq->d}{g:an->an}{K:Bool×an->Option (bo an d)}
  (h:dP e r pd) (h0:r<:+r0) (hk:∀a r1 b,cS r pd= .ok a r1 b->r1<:+r->dP e r1 b->aT e r0 (C (k a r1 b)) cv (K (a,e.st r1 b))) (bq:∀st,(g st).2.2.2.2.1=st.2.2.2.2.1:=by intro _;rfl):
  aT e r0 (C (Go.Eng.ae cS k r pd)) cv (ba (k3 (e.st r pd)) g K):=by
 have:=aT.lines (x:=[]) f h h0 hk bq;grind[Yp]
theorem Ma{R:bh}{n:Nat}(hA:th R n){e:cH}(bd:e.ne=30- (n:Int)):qh e (hv false (a_ false n)) (λ_=>e.st) (zO R):=by
 intro r pd h;unfold hv zO;refine aT.rep (en:=λ_ r pd=>e.st r pd) (λk s r1 q ad hk=>?_) bC () r pd (lk (lF (eI h.sfx) h.bY)) h;unfold P2 a9;refine aT.iy c2.k (Iv hA bd r1 q ad) (λ_=>rfl) λb u l v d m=>?_;cases b with
 |true=>have hl:=sh (l4 false n) v;rw[bm rfl];exact aT.inl hl (hk () u l d m hl)
 |false=>
  rw[aW (by simp)];dsimp only[cond_false];refine aT.tst c2.k (kR e) m λa C f g i=>?_;by_cases c:∃w p,au a= .word w p
  ·obtain⟨w,p,c⟩:=c;rw[c];refine aT.iy c2.k ((L2 hA bd g i c).mono (f.trans d)) (λ_=>rfl) λ_ D E x F G=>?_;have j:a≠[]:=by rintro rfl;grind[au]
   have z:c1 a=false:=by
    cases a with
    |nil=>grind
    |cons b t=>
     refine H_ ⟨w,p,c⟩ ?_;cases A:f_ b with
     |false=>rfl
     |true=>rw[E1 A] at i;have:=(dT i).length_le;grind
   have hl:=vx (l4 false n) j z x;grind[aT.inl]
  ·have B:decide ((jg (au a)).1=3)=false:=by grind[decide_eq_false_iff_not,L1]
   refine aT.dV (y:=some (.inr (e.st a l))) ?_ (by simp only[B,e3,aK];rfl);cases H:au a with
   |word w p=>grind
   |op o=>simp only[eC,false_and,cm];exact aT.inr (f.trans d) g rfl
   |_=>exact aT.inr (f.trans d) g rfl
theorem E9(a b:UInt8):((a.toNat:Int)<=(b.toNat:Int))↔a<=b:=by simp[C6]
theorem R6(b:UInt8):((97:Int)<=(b.toNat:Int))↔97<=b:=E9 97 b
theorem R7(b:UInt8):((b.toNat:Int)<=122)↔b<=122:=E9 b 122
theorem Yr(b:UInt8):((65:Int)<=(b.toNat:Int))↔65<=b:=E9 65 b
theorem Ys(b:UInt8):((b.toNat:Int)<=90)↔b<=90:=E9 b 90
theorem R8(b:UInt8):((48:Int)<=(b.toNat:Int))↔48<=b:=E9 48 b
theorem R9(b:UInt8):((b.toNat:Int)<=57)↔b<=57:=E9 b 57
theorem Yt(b:UInt8):((b.toNat:Int)=95)↔b=95:=qR (c:=95)
theorem akk(b:UInt8):Hj (b.toNat:Int)=some (decide (97<=b)&&decide (b<=122)):=by simp[Hj,zF,av,R6,R7]
theorem akl(b:UInt8):Hk (b.toNat:Int)=some (decide (65<=b)&&decide (b<=90)):=by simp[Hk,zF,av,Yr,Ys]
def E_(first:Bool)(b:UInt8):Bool:=yr b||(!first&&cb b)
theorem Mb{w:aa}(d:w.length<=1000000){j:Unit->Option Bool}{k:Int->Option Bool}{b:UInt8}{t:aa}(a:b::t<:+w):
  zG w j k (ay w (b::t))=(bif E_ (decide (b::t=w)) b then k (ay w t) else some false)/\z2 w j k (ay w (b::t))=(bif E_ (decide (b::t=w)) b then k (ay w t) else some false):=by
 have h0:decide (ay w (b::t)=0)=decide (b::t=w):=by
  by_cases h:b::t=w
  ·grind[Ii]
  ·have:ay w (b::t)≠0:=by intro e;refine h (a.eq_of_length ?_);grind[ay]
   grind
 have c:=iK d a;constructor
 ·unfold zG;simp only[m4 a,bx,aK];rw[b8 ⟨(hR a).1,trivial⟩];simp only[jw a,akk,akl,Yk,fV,h0,c,Yt];rw[aO rfl];unfold E_ yr;grind
 ·unfold z2;have bq:=hR a;have f:0<=ay w (b::t)/\ay w (b::t)<(w.length:Int):=bq;simp only[m4 a,bx,aK,bq.1,nx,implies_true];simp only[a8,cG,jw a,h0,c,Yt,R6,R7,Yr,Ys,R8,R9];unfold E_ yr cb;grind
theorem akm{w:aa}(d:w.length<=1000000){j:Unit->Option Bool}(i:j ()=some (!decide (w=[]))):∀(n:Nat)(r:aa),r.length<n->r<:+w->r≠w->fixF (zG w j) n (ay w r)=some (r.all λc=>yr c||cb c)/\fixF (z2 w j) n (ay w r)=some (r.all λc=>yr c||cb c):=by
 intro n;induction n with
 |zero=>omega
 |succ n e=>
  intro r ax a bd;rw[eZ,eZ];cases r with
  |nil=>grind[zG,ig,z2]
  |cons b t=>
   have f:t≠w:=by grind
   obtain⟨g,h⟩:=e t (by grind) (dY a) f;rw[(Mb d a).1,(Mb d a).2,g,h];grind[decide,E_,yr,cb]
theorem yF(w:aa)(a:w.length<=1000000):zH w=some (lZ w)/\z3 w=some (lZ w):=by
 have e:=Ii w
 have d:∀j:Unit->Option Bool,j ()=some (!decide (w=[]))->fixF (zG w j) bC 0=some (lZ w)/\fixF (z2 w j) bC 0=some (lZ w):=by
  intro j f
  obtain⟨n,ax⟩:∃n,bC=n+1:=⟨bC-1,by rw[gg]⟩
  rw[ax,eZ,eZ];cases w with
  |nil=>grind[zG,lZ,z2]
  |cons b t=>
   have bd:t≠b::t:=by simp
   have c:t.length<n:=by grind[lk,List.length_cons,gg]
   obtain⟨g,h⟩:=akm a f n t c (eb b t) bd;rw[<-e,(Mb a fK).1,(Mb a fK).2,g,h];grind[E_,lZ,yr]
 constructor
 ·unfold zH a9;exact(d (λ_=>some (!(decide (w=[])))) rfl).1
 ·unfold z3 a9;refine(d (λ_=>some (decide (0<(w.length:Int)))) ?_).2;cases w<;>simp
section
variable{R:bh}{n:Nat}(bk:w4 R n){e:cH}(bd:e.ne=30- (n:Int))
include bk bd
theorem R_(x:aa):qh e (iI (aZ false n) x) (λ_=>e.st) (sY R):=by intro r pd h;unfold iI sY;refine aT.res (C:=λx=>x) c2.id (by decide) h fK λr1 s1 b _=>?_;refine aT.ls (c:= .done) (C:=λx=>x) c2.id bk bd b s1 λa f g s2 d=>?_;exact aT.Yq d (s2.trans s1) λi=>rfl
theorem ako:qh e (qM (aZ false n)) (λ_=>e.st) (DY R):=by
 intro r pd h;unfold qM DY a9;refine aT.rep (en:=λ_ r pd=>e.st r pd) (λk s r1 M ad hk=>?_) bC () r pd (lk (lF (eI h.sfx) h.bY)) h;unfold PJ;refine aT.ls (c:= .rl) c2.k bk bd ad fK λa N O s2 F=>?_;refine aT.L_ c2.k (by decide) F s2 λP C G Q=>?_;refine aT.ls (c:= .p9) c2.k bk bd G (C.trans s2) λa S D H I=>?_;dsimp only;refine aT.tst c2.k (qS e _) I λd T J j K=>?_;have i:=J.trans (H.trans (C.trans s2));dsimp only;by_cases he:cE (au d) ib=true
 ·rw[bm he];have t:cE (au d) [101,108,105,102]=true:=he;rw[t];simp only[aS,gP];refine aT.L_ c2.k (by decide) j i λu l v w=>?_;have hl:u.length<r1.length:=by grind
  exact aT.inl hl (hk () u D (l.trans i) v hl)
 ·rw[aW he];have t:cE (au d) [101,108,105,102]=false:=F1.2 he;rw[t];simp only[aK,e3];have E:∀(f:Unit->ak (Unit⊕Unit))(g:aa)(b:aq),g<:+r1->dP e g b->aT e r1 (cN f r1 (ae (cV e8) (λ_=>aU (.inr ())) g b)) (λ_=>e.st)
    (ba (nb (e.st g b) [102,105]) (λx=>(x.1,x.2.1,b,x.2.2.2.1,e.op,x.2.2.2.2.2)) λm=>some (.inr (m.1,m.2.1,b,m.2.2.2.1,e.op,m.2.2.2.2.2))):=by
   intro f g b o y;refine aT.L_ c2.k (by decide) y o λU z A L=>?_;exact aT.inr (z.trans o) A rfl
  have p:=(qS e [101,108,115,101]).some j K;by_cases q:cE (au d) hM=true
  ·rw[bm q];have B:cE (au d) [101,108,115,101]=true:=q;rw[B] at p;refine aT.dV ?_ (e1 p);dsimp only[cond_true];refine aT.L_ c2.k (by decide) j i λu l v w=>?_;refine aT.ls (c:= .ke) c2.k bk bd v (l.trans i) λa g b o y=>?_;exact E _ g b (o.trans (l.trans i)) y
  ·rw[aW q];have B:cE (au d) [101,108,115,101]=false:=F1.2 q;rw[B] at p;refine aT.dV ?_ (e1 p);dsimp only[cond_false];exact E _ d D i j
end
theorem yG{r:aa}(a:bu r=some r){w:aa}{p:Bool}(c:au r= .word w p):r≠[]/\c1 r=false:=by
 cases r with
 |nil=>grind[au]
 |cons b t=>
  refine⟨by simp,H_ ⟨w,p,c⟩ ?_⟩;cases d:f_ b with
  |false=>rfl
  |true=>rw[E1 d] at a;have:=(dT a).length_le;grind
theorem aks{α j l:Type}{C:dt α->dt j}(i:c2 C){e:cH}{r0 r:aa}{pd:aq}{x:aa}{k:ak α}{cv:j->aa->aq->l}{g:an->an}{K:an->Option (bo an l)}(h:dP e r pd)
  (hk:∀r1,r1<:+r->dP e r1 pd->aT e r0 (C (k r1 pd)) cv (K (e.st r1 pd))) (bq:∀st,(g st).2.2.2.2.1=st.2.2.2.2.1\/(g st).2.2.2.2.1=e.op:=by intro _;first|exact .inl rfl|exact .inr rfl):
  aT e r0 (C (Go.Eng.ae (bP x) (λt=>match t with
   | .eof=>b6 x
   | .word w true=>if lZ w then Go.Eng.ae (bZ w.length) λ_=>k else bK
   |_=>bK) r pd)) cv (ba (r2 (e.st r pd)) g K):=by
 cases b:bu r with
 |none=>rw[dc (iw b),i.more];unfold r2;exact((((kR e).none h b).bind λ_=> .inl rfl).bind bq).rr
 |some r'=>
  rw[aY (cA b)];have n:=dT b;have c:=h.mono n;have s:=lD _ _ _ (cX _) b;have hm:=(kR e).some h b
  have d:∀(m:ak α),(au r'= .eof->m=b6 x)->(au r'≠ .eof->m=bK)->r2 (e.st r pd)=ba (ky (e.st r' pd)) (λx=>x) (λy=>Empty.elim y)->aT e r0 (C (m r' pd)) cv (ba (r2 (e.st r pd)) g K):=by
   intro m ad v z;rw[z];by_cases a:au r'= .eof
   ·rw[ad a];unfold b6;rw[i.more];exact((((te c s).1 a).bind λ_=> .inl rfl).bind bq).rr
   ·rw[v a];unfold bK;rw[i.bad];exact⟨c.sfx,_,hy (hy ((te c s).2 a))⟩
  cases a:au r' with
  |word w p=>
   cases p with
   |true=>
    have u:w.length<=1000000:=by have:=(qd a).1.length_le;have:=eI c.sfx;have:=h.bY;omega
    have A:=(qd a).1;by_cases ax:lZ w=true
    ·simp only;rw[bm ax];have B:r2 (e.st r pd)=some (.inr (e.st (r'.drop w.length) pd)):=by unfold r2 a9;refine(e1 hm).trans ?_;rw[a];simp only[jg,bx,gP,aS];rw[(yF w u).1,fV,bm trivial,ax];show some (Sum.inr (e.S,W (ay e.S r'+(w.length:Int)),pd,e.ne,e.op,e.j1))=_;obtain⟨q,rfl⟩:=A;rw[o0,ko h.bY c.sfx];rfl
     rw[B,e1 rfl];exact hk _ ((lE _ _).trans n) (c.mono (lE _ _))
    ·simp only;rw[aW ax];refine d bK (λf=>by grind) (λ_=>rfl) ?_;unfold r2 a9;refine(e1 hm).trans ?_;rw[a];simp only[jg,bx,gP,aS];have D:lZ w=false:=by grind
     rw[(yF w u).1,fV,bm trivial,D];rfl
   |false=>refine d bK (λf=>by grind) (λ_=>rfl) ?_;unfold r2 a9;refine(e1 hm).trans ?_;rw[a];rfl
  |eof=>refine d (b6 x) (λ_=>rfl) (λf=>absurd a f) ?_;unfold r2 a9;refine(e1 hm).trans ?_;rw[a];rfl
  |line=>refine d bK (λf=>by grind) (λ_=>rfl) ?_;unfold r2 a9;refine(e1 hm).trans ?_;rw[a];rfl
  |op o=>refine d bK (λf=>by grind) (λ_=>rfl) ?_;unfold r2 a9;refine(e1 hm).trans ?_;rw[a];rfl
noncomputable def Cw:an->Option (bo an an):=λy=>ba (na y [59]) (λx=>(x.1,x.2.1,y.2.2.1,x.2.2.2.1,y.2.2.2.2.1,x.2.2.2.2.2)) λz=>bif z.1 then some (.inr (z.2.1,W (z.2.2.1+1),y.2.2.1,z.2.2.2.2.1,y.2.2.2.2.1,z.2.2.2.2.2.2)) else
 ba (lU (z.2.1,z.2.2.1,y.2.2.1,z.2.2.2.2.1,y.2.2.2.2.1,z.2.2.2.2.2.2)) (λx=>(x.1,x.2.1,y.2.2.1,x.2.2.2.1,y.2.2.2.2.1,x.2.2.2.2.2)) λu=>bif !(decide (u.1.1=1)) then ba (ky (u.2.1,u.2.2.1,y.2.2.1,u.2.2.2.2.1,y.2.2.2.2.1,u.2.2.2.2.2.2)) (λx=>(x.1,x.2.1,y.2.2.1,x.2.2.2.1,y.2.2.2.2.1,x.2.2.2.2.2)) (λy=>Empty.elim y)
  else some (.inr (u.2.1,u.2.2.1,y.2.2.1,u.2.2.2.2.1,y.2.2.2.2.1,u.2.2.2.2.2.2))
section
variable{R:bh}{n:Nat}(hA:th R n){e:cH}(bd:e.ne=30- (n:Int))
include hA bd
theorem akt:
  ∀(r:aa)(pd:aq),dP e r pd->aT e r (pz (a_ false n) r pd) (λ_=>e.st) (fixF (vk R Cw) bC (e.st r pd)):=by
 intro r pd h;unfold pz;refine aT.rep (en:=λ_ r pd=>e.st r pd) (λk s r1 c ad hk=>?_) bC () r pd (lk (lF (eI h.sfx) h.bY)) h;unfold vk Cw;refine aT.tst c2.k (kR e) ad λa I s2 b g=>?_;dsimp only;by_cases i:∃w p,au a= .word w p
 ·obtain⟨w,p,i⟩:=i;rw[i];simp only[jg,bx,aK];refine aT.iy c2.k ((L2 hA bd b g i).mono s2) (λ_=>rfl) λ_ B J C K L=>?_;obtain⟨D,E⟩:=yG g i;have hl:B.length<r1.length:=by have:=vx (l4 false n) D E C;grind
  grind[aT.inl]
 ·have F:decide ((jg (au a)).1=3)=false:=by grind[decide_eq_false_iff_not,L1]
  simp only[F,aS];refine aT.dV ?_ (e1 ((ru e [59]).some b g));dsimp only;have aC:=(kR e).some b g;have l:∀(m:ak (Unit⊕Unit))(f:Unit->ak (Unit⊕Unit)),au a≠ .line->au a≠ .op [59]->(au a= .eof->m=b6 [])->(au a≠ .eof->m=bK)->aT e r1 (cN f r1 (m a c)) (λ_=>e.st)
    (ba (lU (e.st a c)) (λx=>(x.1,x.2.1,c,x.2.2.2.1,e.op,x.2.2.2.2.2)) λu=>bif !(decide (u.1.1=1)) then ba (ky (u.2.1,u.2.2.1,c,u.2.2.2.2.1,e.op,u.2.2.2.2.2.2)) (λx=>(x.1,x.2.1,c,x.2.2.2.1,e.op,x.2.2.2.2.2)) (λy=>Empty.elim y) else some (.inr (u.2.1,u.2.2.1,c,u.2.2.2.2.1,e.op,u.2.2.2.2.2.2))):=by
   intro m f M N G H;refine aT.dV ?_ (e1 aC);have:decide ((jg (au a)).1=1)=false:=by
    rw[F8];cases d:au a with
    |line=>grind
    |_=>simp[jg]
   simp only[this,e3,aK];by_cases d:au a= .eof
   ·rw[G d];exact(((te b g).1 d).bind λ_=> .inr rfl).rr
   ·rw[H d];exact⟨b.sfx,_,hy ((te b g).2 d)⟩
  cases d:au a with
  |word w p=>grind
  |eof=>
   have:=l (b6 []) (λ_=>ae (bP []) λt=>match t with
    | .eof=>b6 []
    | .word _ _=>ae (cP (a_ false n)) λ_=>aU (.inl ())
    | .line=>aU (.inr ())
    | .op o=>if o=[59] then ae (bZ 1) λ_=>aU (.inr ()) else bK) (by grind) (by grind) (λ_=>rfl) (λv=>absurd d v)
   exact this
  |line=>
   refine aT.dV (y:=some (.inr (e.st a c))) ?_ ?_
   ·exact aT.inr s2 b rfl
   ·have j:((Tok.line==Tok.op [59]):Bool)=false:=by simp
    rw[j];simp only[aS];refine(e1 aC).trans ?_;rw[d];rfl
  |op o=>
   by_cases z:o=[59]
   ·subst z;simp only[beq_self_eq_true,aK,cG];obtain⟨q,rfl⟩:=(ic d).2.1;have A:q<:+[59]++q:=gQ [59] q;refine aT.dV (y:=some (.inr (e.st q c))) ?_ ?_
    ·exact aT.inr (A.trans s2) (b.mono A) rfl
    ·show some (Sum.inr (e.S,W (ay e.S ([59]++q)+1),c,e.ne,e.op,e.j1))=_;have:=ko (w:=[59]) (t:=q) b.bY b.sfx;rw[show(([59]:aa).length:Int)=1 from rfl] at this;rw[this];rfl
   ·have j:((Tok.op o==Tok.op [59]):Bool)=false:=by grind
    rw[j];simp only[aS,aW z];exact l bK _ (by grind) (by grind) (λv=>by grind) (λ_=>rfl)
end
theorem oj{σ τ α β b:Type}{m:Option (bo σ α)}{f:σ->τ}{k:α->Option (bo τ β)}{K:β->Option (bo τ b)}:ba (ba m f k) (λx=>x) K=ba m f (λa=>ba (k a) (λx=>x) K):=by unfold ba;grind
theorem Yv{R:bh}{J:an->Option (bo an an)}{K:an->Option (bo an an)}:∀(n:Nat)(x:an),fixF (vk R λy=>ba (J y) (λx=>x) K) n x=ba (fixF (vk R J) n x) (λx=>x) K
 |0,x=>rfl
 |n+1,x=>by
  rw[eZ,eZ];have a:=Yv (R:=R) (J:=J) (K:=K) n;generalize fixF (vk R λy=>ba (J y) (λx=>x) K) n=b at a;generalize fixF (vk R J) n=c at a;unfold vk;dsimp only;rw[oj];congr 1
  funext y
  cases decide (y.1.1=3) with
  |true=>simp_all[aK,oj]
  |false=>rfl
theorem aT.Yw{α β b:Type}{m:ak α}{x:aa}{k:α->ak β}{e:cH}{r0 r:aa}{pd:aq}{cv:β->aa->aq->b}{y:Option (bo an b)}(h:aT e r0 (Go.Eng.ae m k r pd) cv y):aT e r0 (Go.Eng.ae (m.aM x) k r pd) cv y:=by
 unfold Go.Eng.ae ak.aM at*;cases hm:m r pd with
 |ok a r1 c=>grind
 |more op nd ds=>rw[hm] at h;exact h
 |bad q=>grind
 |deep q=>trivial
theorem aku(K:an->Option (bo an an))(y:an):ba (Cw y) (λx=>x) K=ba (na y [59]) (λx=>(x.1,x.2.1,y.2.2.1,x.2.2.2.1,y.2.2.2.2.1,x.2.2.2.2.2)) λz=>bif z.1 then K (z.2.1,W (z.2.2.1+1),y.2.2.1,z.2.2.2.2.1,y.2.2.2.2.1,z.2.2.2.2.2.2) else
   ba (lU (z.2.1,z.2.2.1,y.2.2.1,z.2.2.2.2.1,y.2.2.2.2.1,z.2.2.2.2.2.2)) (λx=>(x.1,x.2.1,y.2.2.1,x.2.2.2.1,y.2.2.2.2.1,x.2.2.2.2.2)) λu=>bif !(decide (u.1.1=1)) then ba (ky (u.2.1,u.2.2.1,y.2.2.1,u.2.2.2.2.1,y.2.2.2.2.1,u.2.2.2.2.2.2)) (λx=>(x.1,x.2.1,y.2.2.1,x.2.2.2.1,y.2.2.2.2.1,x.2.2.2.2.2)) (λy=>Empty.elim y)
    else K (u.2.1,u.2.2.1,y.2.2.1,u.2.2.2.2.1,y.2.2.2.2.1,u.2.2.2.2.2.2):=by
 unfold Cw;rw[oj];congr 1
 funext z
 cases z.1 with
 |true=>rfl
 |false=>
  simp only[aS];rw[oj];congr 1
  funext u
  cases decide (u.1.1=1) with
  |true=>rfl
  |false=>simp only[e3,aK];grind[oj,Empty.elim]
theorem akv{R:bh}{n:Nat}(hA:th R n)(bk:w4 R n){e:cH}(bd:e.ne=30- (n:Int)):qh e (pA (aZ false n) (a_ false n)) (λ_=>e.st) (DW R):=by
 intro r pd h;unfold DW;refine aks (C:=λx=>x) c2.id h λr1 s1 E=>?_;refine aT.Yw ?_;rw[kn];refine aT.tst (C:=λx=>x) c2.id (ru e [59]) E λk U s2 g V=>?_;dsimp only;rw[yx];by_cases l:au k= .op [59]
 ·rw[bm l];have m:((au k==Tok.op [59]):Bool)=true:=by grind
  rw[m];simp only[aK];obtain⟨q,rfl⟩:=(ic l).2.1;have o:q<:+[59]++q:=gQ [59] q;have F:W (ay e.S ([59]++q)+1)=ay e.S q:=ko (w:=[59]) g.bY g.sfx;rw[kn];show aT e r (ae (ae cS λ_=>aU ()) (λ_=>iI (aZ false n) eh) q pd) _ (ba (k3 (e.S,W (ay e.S ([59]++q)+1),pd,e.ne,e.op,e.j1)) _ _);rw[F,kn];refine aT.An (C:=λx=>x) c2.id (g.mono o) (o.trans (s2.trans s1)) λb p c _ s t=>?_;dsimp only;refine aT.dV ((R_ bk bd _ p c t).mono (s.trans (o.trans (s2.trans s1)))) ?_;generalize sY R (e.st p c)=y;unfold ba;grind
 ·rw[aW l];have m:((au k==Tok.op [59]):Bool)=false:=by grind
  rw[m];simp only[aS];rw[kn];refine aT.An (C:=λx=>x) c2.id g (s2.trans s1) λb p c _ s t=>?_;dsimp only;unfold a9
  have A:∀a d,a<:+r->dP e a d->aT e r (iI (aZ false n) eh a d) (λ_=>e.st) (ba (sY R (e.st a d)) (λx=>x) λy=>some (.inr y)):=by intro a d i f;refine aT.dV ((R_ bk bd _ a d f).mono i) ?_;generalize sY R (e.st a d)=y;unfold ba;grind
  have B:=s.trans (s2.trans s1);rw[kn];refine aT.tst (C:=λx=>x) c2.id (qS e _) t λa X i f G=>?_;dsimp only;rw[yx];by_cases j:cE (au a) fl=true
  ·rw[bm j];have u:cE (au a) [105,110]=true:=j;rw[u];simp only[aK];have v:au a= .word [105,110] true:=by grind[cE]
   have H:nb (e.st a c) [105,110]=some (.inr (e.st (a.drop 2) c)):=by
    have:=Im [105,110] f;have I:cV [105,110] a c= .ok () (a.drop 2) c:=by unfold cV m2;rw[aY (cA G),v];rfl
    rw[I] at this;exact this.2.2
   refine aT.dV ?_ (e1 H);have aH:a.drop 2<:+a:=lE _ _;rw[kn];show aT e r (ae (ae (pz (a_ false n)) λ_=>ae cS λ_=>aU ()) (λ_=>iI (aZ false n) eh) (a.drop 2) c) _ _;rw[kn]
   have L:∀(J K:an->Option (bo an an))(x:an),(∀y,J y=ba (Cw y) (λx=>x) K)->fixF (vk R J) bC x=ba (fixF (vk R Cw) bC x) (λx=>x) K:=by intro J K x M;have:J=λy=>ba (Cw y) (λx=>x) K:=funext M;grind[Yv]
   refine aT.dV ?_ (L _ (λz=>ba (k3 z) (λx=>x) λy=>ba (sY R y.2) (λx=>x) λy=>some (.inr y)) _ (λy=>(aku (λz=>ba (k3 z) (λx=>x) λy=>ba (sY R y.2) (λx=>x) λy=>some (.inr y)) y).symm));have N:=aH.trans (i.trans B);refine aT.iy (C:=λx=>x) c2.id ((akt hA bd (a.drop 2) c (f.mono aH)).mono N) (λ_=>rfl) λ_ Y Z _ D O=>?_;rw[kn];refine aT.An (C:=λx=>x) c2.id O D λb P Q _ S T=>?_;exact A P Q (S.trans D) T
  ·rw[aW j];have u:cE (au a) [105,110]=false:=F1.2 j;rw[u];simp only[aS];exact A a c (i.trans B) f
theorem Yx{J K:an->Option (bo an an)}{L:(an->Option (bo an an))->(an->Option (bo an an))->an->Option (bo an an)}
  (bk:∀(a b:an->Option (bo an an)),(∀x,a x=ba (b x) (λx=>x) K)->∀x,L (λy=>ba (J y) (λx=>x) K) a x=ba (L J b x) (λx=>x) K):
  ∀(n:Nat)(x:an),fixF (L λy=>ba (J y) (λx=>x) K) n x=ba (fixF (L J) n x) (λx=>x) K
 |0,x=>rfl
 |n+1,x=>by rw[eZ,eZ];exact bk _ _ (Yx bk n) x
noncomputable def yH:an->Option (bo an an):=λy=>ba (rV y [41]) (λx=>(x.1,x.2.1,y.2.2.1,x.2.2.2.1,y.2.2.2.2.1,x.2.2.2.2.2)) λz=>some (.inr (z.1,z.2.1,y.2.2.1,z.2.2.2.1,y.2.2.2.2.1,z.2.2.2.2.2))
section
variable{R:bh}{n:Nat}(hA:th R n){e:cH}(bd:e.ne=30- (n:Int))
include hA bd
theorem akx{α s u:Type}{C:dt α->dt s}(d:c2 C){r0 r:aa}{pd:aq}{x y:aa}{k:Unit->ak α}{cv:s->aa->aq->u}{K:an->Option (bo an u)}(h:dP e r pd)(h0:r<:+r0)
  (hk:∀r1 i,r1<:+r->r1.length<r.length->dP e r1 i->aT e r0 (C (k () r1 i)) cv (K (e.st r1 i))):
  aT e r0 (C (Go.Eng.ae (bP x) (λt=>match t with
   | .eof=>b6 x
   | .word _ _=>Go.Eng.ae ((cP (a_ false n)).aM y) k
   |_=>bK) r pd)) cv (ba (k5 R (e.st r pd)) (λx=>x) K):=by
 have b:=(RP hA bd x r pd h).mono h0;unfold jH at b;unfold Go.Eng.ae at b⊢;cases aC:bP x r pd with
 |ok t r1 i=>
  rw[aC] at b;simp only at b⊢;obtain⟨m,rfl,rfl⟩:=Iq aC;have v:=lD _ _ _ (cX _) m;cases j:au r1 with
  |word w p=>
   rw[j] at b;simp only at b⊢;unfold ak.aM;cases l:cP (a_ false n) r1 i with
   |ok a z A=>rw[l] at b;obtain⟨c,f,B⟩:=b;rw[e1 B];obtain⟨D,E⟩:=yG v j;have F:=vx (l4 false n) D E l;have G:=(dT m).length_le;exact hk z A (((ar.word (l4 false n)).sfx l).trans (dT m)) (by omega) f
   |more op nd ds=>rw[l] at b;obtain⟨st,c,f⟩:=b;simp only;rw[d.more];exact⟨st,hy c,f⟩
   |bad q=>rw[l] at b;obtain⟨g,st,c⟩:=b;simp only;rw[d.bad];exact⟨g,st,hy c⟩
   |deep q=>simp only;rw[d.deep];trivial
  |eof=>rw[j] at b;unfold b6 at b⊢;simp only at b⊢;obtain⟨st,c,f⟩:=b;rw[d.more];exact⟨st,hy c,f⟩
  |line=>rw[j] at b;unfold bK at b⊢;obtain⟨g,st,c⟩:=b;simp only;rw[d.bad];exact⟨g,st,hy c⟩
  |op o=>rw[j] at b;unfold bK at b⊢;obtain⟨g,st,c⟩:=b;simp only;rw[d.bad];exact⟨g,st,hy c⟩
 |more op nd ds=>rw[aC] at b;obtain⟨st,c,f⟩:=b;simp only;rw[d.more];exact⟨st,hy c,f⟩
 |bad q=>rw[aC] at b;obtain⟨g,st,c⟩:=b;simp only;rw[d.bad];exact⟨g,st,hy c⟩
 |deep q=>simp only;rw[d.deep];trivial
theorem aky:qh e (kO (a_ false n)) (λ_=>e.st) (λx=>ba (k5 R x) (λx=>x) λy=>fixF (vj R yH) bC y):=by
 have j:∀(N:Nat)(r:aa)(pd:aq),r.length<N->dP e r pd->aT e r (kO (a_ false n) r pd) (λ_=>e.st) (ba (k5 R (e.st r pd)) (λx=>x) λy=>fixF (vj R yH) N y):=by
  intro N;induction N with
  |zero=>omega
  |succ N v=>
   intro r pd O h;unfold kO;rw[cF];refine akx hA bd c2.k h fK λr1 b s1 P E=>?_;rw[eZ];generalize hk:fixF (vj R yH) N=k at v;unfold vj yH;refine aT.tst c2.k (ru e [124]) E λa Q s2 g A=>?_;dsimp only;have B:=s2.trans s1;have l:∀(m:ak (Unit⊕Unit))(f:Unit->ak (Unit⊕Unit))(c:Bool),au a≠ .op [41]->c=false->(au a= .eof->m=b6 [41])->(au a≠ .eof->m=bK)->aT e r (cN f r (m a b)) (λ_=>e.st)
     (bif c then ba (k5 R (e.S,W (ay e.S a+1),b,e.ne,e.op,e.j1)) (λx=>x) (λy=>k y) else ba (rV (e.st a b) [41]) (λx=>(x.1,x.2.1,b,x.2.2.2.1,e.op,x.2.2.2.2.2)) λz=>some (.inr (z.1,z.2.1,b,z.2.2.2.1,e.op,z.2.2.2.2.2))):=by
    intro m f c F G H I;subst G;simp only[aS];have i:=LR [41] g;have bd:∀q,au a=q->q≠ .op [41]:=λq s=>s▸F
    unfold jI m2 at i;rw[aY (cA A)] at i;by_cases d:au a= .eof
    ·rw[H d];rw[bm d] at i;obtain⟨st,u,S⟩:=i;exact⟨_,hy u,by simp⟩
    ·rw[I d];rw[aW d,aW (by grind)] at i;obtain⟨J,st,u⟩:=i;exact⟨J,_,hy u⟩
   cases d:au a with
   |word w p=>exact l bK _ _ (by grind) (by simp) (λt=>by grind) (λ_=>rfl)
   |eof=>exact l (b6 [41]) _ _ (by grind) (by simp) (λ_=>rfl) (λt=>absurd d t)
   |line=>exact l bK _ _ (by grind) (by simp) (λt=>by grind) (λ_=>rfl)
   |op o=>
    by_cases ad:o=[124]
    ·subst ad;simp only[beq_self_eq_true,aK,cG];obtain⟨q,rfl⟩:=(ic d).2.1;have s:q<:+[124]++q:=gQ [124] q;have K:W (ay e.S ([124]++q)+1)=ay e.S q:=ko (w:=[124]) g.bY g.sfx;have hl:q.length<r.length:=by grind
     have bg:=v q b (by omega) (g.mono s);show aT e r (cN _ r (ae (bZ 1) (λ_=>aU (.inl ())) ([124]++q) b)) _ (ba (k5 R (e.S,W (ay e.S ([124]++q)+1),b,e.ne,e.op,e.j1)) _ _);rw[K];exact aT.inl hl (bg.mono (s.trans B))
    ·by_cases C:o=[41]
     ·subst C;have L:((Tok.op [41]==Tok.op [124]):Bool)=false:=by simp
      rw[L];simp only[aS,cG,show¬(([41]:aa)=[124]) by decide,cm];obtain⟨D,M⟩:=X7 g A d;refine aT.dV (y:=some (.inr (e.st (a.drop 1) b))) ?_ ?_
      ·exact aT.inr (D.trans B) (g.mono D) rfl
      ·exact(e1 M).trans rfl
     ·simp only[aW ad,aW C];exact l bK _ _ (by grind) (by grind) (λt=>by grind) (λ_=>rfl)
 intro r pd h;exact j bC r pd (lk (lF (eI h.sfx) h.bY)) h
end
def Iy(l:dS)(D:ak Unit):ak (Unit⊕Unit):=ae (bP []) λt=>if t= .eof then b6 [] else if cE t ep then ae (bZ 4) λ_=>aU (.inr ()) else
 ae ((if t= .op [40] then bZ 1 else aU ())) λ_=>ae (kO D) λ_=>ae (l.ls .item true) λ_=>ae (bP []) λt=>if t= .op [59,59] then ae (bZ 2) λ_=>aU (.inl ()) else aU (.inl ())
def uC(l:dS)(D:ak Unit):Unit->ak (Unit⊕Unit):=λ_=>ae cS λ_=>Iy l D
theorem akz(l:dS)(D:ak Unit):nn l D=ca (uC l D) ():=rfl
noncomputable def Iz:an->Option (bo an an):=λy=>ba (nb y ep) (λx=>(x.1,x.2.1,y.2.2.1,x.2.2.2.1,y.2.2.2.2.1,x.2.2.2.2.2)) λz=>some (.inr (z.1,z.2.1,y.2.2.1,z.2.2.2.1,y.2.2.2.2.1,z.2.2.2.2.2))
theorem Mc{r:aa}{pd:aq}(a:bu r=some r)(b:au r≠ .line):cS r pd= .ok false r pd:=by rw[si,cF,rm a b];rfl
theorem Ap(fr:Bool)(n:Nat):∃ao,(aZ fr n).ls=λc no=>od ao c no:=by
 cases n with
 |zero=>exact⟨_,rfl⟩
 |succ n=>exact⟨_,rfl⟩
theorem akA{e:cH}{v:aa}{pd:aq}{w:aa}(h:dP e v pd)(b:bu v=some v)(c:au v= .word w true):cV w v pd= .ok () (v.drop w.length) pd/\v.drop w.length<:+v/\nb (e.st v pd) w=some (.inr (e.st (v.drop w.length) pd)):=by
 have a:cV w v pd= .ok () (v.drop w.length) pd:=by unfold cV m2;rw[aY (cA b),c];simp[cE,bZ]
 have:=Im w h;rw[a] at this;exact⟨a,this.1,this.2.2⟩
theorem Cx{σ α:Type}(y:Option (bo σ α)):ba y (λx=>x) (λa=>some (.inr a))=y:=by unfold ba;grind
section
variable{R:bh}{n:Nat}(hA:th R n)(bk:w4 R n){e:cH}(bd:e.ne=30- (n:Int))
include hA bk bd
theorem akB:∀(N:Nat)(r0 r:aa)(pd:aq),r<:+r0->r.length<N->dP e r pd->aT e r0 (cN (uC (aZ false n) (a_ false n)) r0 (Iy (aZ false n) (a_ false n) r pd)) (λ_=>e.st) (fixF (He R Iz) N (e.st r pd)):=by
 intro N;induction N with
 |zero=>omega
 |succ N O=>
  intro r0 r pd C nQ h;rw[eZ];generalize fixF (He R Iz) N=k at O;unfold He a9;unfold Iy;refine aT.tst c2.k (qS e _) h λr1 qa s1 l D=>?_;dsimp only;have P:=s1.trans C
  have Q:∀(c:aa)(v:aq),c<:+r0->dP e c v->bu c=some c->cE (au c) ep=true->aT e r0 (cN (uC (aZ false n) (a_ false n)) r0 (ae (bZ 4) (λ_=>aU (.inr ())) c v)) (λ_=>e.st) (Iz (e.st c v)):=by
   intro c v s2 A Z ht;have uA:au c= .word ep true:=by grind[cE]
   obtain⟨_,S,aX⟩:=akA A Z uA;unfold Iz;rw[e1 aX];exact aT.inr (S.trans s2) (A.mono S) rfl
  by_cases he:cE (au r1) ep=true
  ·have ax:au r1≠ .eof:=by intro o;rw[o] at he;cases he
   have E:cE (au r1) [101,115,97,99]=true:=he;rw[aW ax,bm he,E];simp only[gP,aS];exact Q r1 pd P l D he
  have E:cE (au r1) [101,115,97,99]=false:=F1.2 he;rw[E,aW he];simp only[e3,aK];refine aT.dV ?_ (e1 ((ru e [40]).some l D));dsimp only;have T:∀c,c<:+r1->dP e c pd->aT e r0 (cN (uC (aZ false n) (a_ false n)) r0 (ae (kO (a_ false n)) (λ_=>ae ((aZ false n).ls .item true) λ_=>ae (bP []) λt=>if t= .op [59,59] then ae (bZ 2) λ_=>aU (.inl ()) else aU (.inl ())) c pd)) (λ_=>e.st)
    (ba (k5 R (e.st c pd)) (λx=>x) λy=>fixF (vj R (λy=>ba (yH y) (λx=>x) λBC=>(ba (R.kg BC 8 true) (λx=>x) λ(VJ,i)=>(ba (na i ([59,59]:aa)) (λx=>(x.1,x.2.1,i.2.2.1,x.2.2.2.1,i.2.2.2.2.1,x.2.2.2.2.2)) λ(BD,f)=>(bif(!BD) then Iz (f.1,f.2.1,i.2.2.1,f.2.2.2.1,i.2.2.2.2.1,f.2.2.2.2.2) else(ba (k3 (f.1,(W (f.2.1+2)),i.2.2.1,f.2.2.2.1,i.2.2.2.2.1,f.2.2.2.2.2)) (λx=>x) λ(VK,m)=>k (m.1,m.2.1,m.2.2.1,m.2.2.2.1,m.2.2.2.2.1,m.2.2.2.2.2))))))) bC y):=by
   intro c s2 A
   have a1:∀(K:an->Option (bo an an)),(ba (k5 R (e.st c pd)) (λx=>x) λy=>fixF (vj R (λy=>ba (yH y) (λx=>x) K)) bC y)=ba (ba (k5 R (e.st c pd)) (λx=>x) λy=>fixF (vj R yH) bC y) (λx=>x) K:=by
    intro K;rw[oj];congr 1
    funext y
    refine Yx (L:=vj R) (λcn cD hk x=>?_) bC y;unfold vj;dsimp only;rw[oj];congr 1
    funext z
    cases z.1 with
    |true=>simp_all[aK,oj]
    |false=>rfl
   rw[a1];refine aT.iy c2.k ((aky hA bd c pd A).mono (s2.trans P)) (λ_=>rfl) λ_ B b3 Md jr eT=>?_;have EP:=Re (l4 false n) Md;have ary:B.length<r.length:=by grind
   have arz:B.length<r0.length:=by grind
   obtain⟨ao,e2⟩:=Ap false n;have UA:=bk.im e .item true (by simp) bd B b3 eT;refine aT.iy c2.k (UA.mono jr) (λ_=>rfl) λa d g F U p=>?_;dsimp only;have arA:=((pC false n).ls .item true).sfx F;rw[e2] at F;obtain⟨s,t4⟩:=yC (by simp) F;rw[aY (cA s)];refine aT.dV ?_ (e1 ((ru e [59,59]).some p s));dsimp only;by_cases G:au d= .op [59,59]
   ·rw[bm G];have j:((au d==Tok.op [59,59]):Bool)=true:=by grind
    rw[j];simp only[gP,aS];obtain⟨q,rfl⟩:=(ic G).2.1;have u:q<:+[59,59]++q:=gQ [59,59] q;have H:W (ay e.S ([59,59]++q)+2)=ay e.S q:=ko (w:=[59,59]) p.bY p.sfx;have arB:q.length<B.length:=by grind
    show aT e r0 (cN _ r0 (.ok (.inl ()) q g)) _ (ba (k3 (e.S,W (ay e.S ([59,59]++q)+2),g,e.ne,e.op,e.j1)) _ _);rw[H];have I:=p.mono u;have J:cN (uC (aZ false n) (a_ false n)) r0 (.ok (.inl ()) q g)=ca (uC (aZ false n) (a_ false n)) () q g:=by show(if q.length<r0.length then _ else _)=_;grind
    rw[J,cF];refine aT.mono ?_ ((u.trans U));unfold uC;refine aT.An c2.k I fK λb eO lf _ ns me=>?_;exact O q eO lf ns (by grind) me
   ·rw[aW G];have j:((au d==Tok.op [59,59]):Bool)=false:=by grind
    rw[j];simp only[e3,aK];have V:cE (au d) ep=true:=by grind[dR]
    have X:au d≠ .line/\au d≠ .eof:=by grind[au,ep,cE]
    have nu:d.length<r0.length:=by grind
    have J:cN (uC (aZ false n) (a_ false n)) r0 (aU (.inl ()) d g)=cN (uC (aZ false n) (a_ false n)) d (ae (bZ 4) (λ_=>aU (.inr ())) d g):=by show(if d.length<r0.length then _ else _)=_;rw[bm nu,cF];congr 1;show ae cS (λ_=>Iy (aZ false n) (a_ false n)) d g=_;rw[aY (Mc s X.1)];unfold Iy;rw[aY (cA s),aW X.2,bm V]
    rw[J];have:=Q d g U p s V;exact this
  by_cases aC:au r1= .op [40]
  ·have j:((au r1==Tok.op [40]):Bool)=true:=by grind
   rw[bm aC,aW (by grind),j];simp only[cond_true];obtain⟨q,rfl⟩:=(ic aC).2.1;have u:q<:+[40]++q:=List.suffix_append [40] q;have H:W (ay e.S ([40]++q)+1)=ay e.S q:=ko (w:=[40]) l.bY l.sfx;have:=T q u (l.mono u);show aT e r0 (cN _ r0 (ae (kO (a_ false n)) _ q pd)) _ (ba (k5 R (e.S,W (ay e.S ([40]++q)+1),pd,e.ne,e.op,e.j1)) _ _);rw[H];refine aT.dV this ?_;congr 1
   funext y
   congr 2
   funext z
   unfold yH;rw[oj];rfl
  ·have j:((au r1==Tok.op [40]):Bool)=false:=by grind
   rw[j];simp only[aS];have M:=T r1 fK l;have bz:∀(y Y:Option (bo an an)),Y=y->aT e r0 (cN (uC (aZ false n) (a_ false n)) r0 (ae (kO (a_ false n)) (λ_=>ae ((aZ false n).ls .item true) λ_=>ae (bP []) λt=>if t= .op [59,59] then ae (bZ 2) λ_=>aU (.inl ()) else aU (.inl ())) r1 pd)) (λ_=>e.st) y->
     aT e r0 (cN (uC (aZ false n) (a_ false n)) r0 ((if au r1= .eof then b6 [] else ae (if au r1= .op [40] then bZ 1 else aU ()) λ_=>ae (kO (a_ false n)) λ_=>ae ((aZ false n).ls .item true) λ_=>ae (bP []) λt=>if t= .op [59,59] then ae (bZ 2) λ_=>aU (.inl ()) else aU (.inl ()):ak (Unit⊕Unit)) r1 pd)) (λ_=>e.st) Y:=by
    rintro y _ rfl o;by_cases hf:au r1= .eof
    ·rw[bm hf]
     have aC:∃nd ds,kO (a_ false n) r1 pd= .more [] nd ds:=by unfold kO;rw[cF,aY (cA D),hf];exact⟨_,_,rfl⟩
     obtain⟨nd,ds,aC⟩:=aC;rw[dc aC] at o;exact o
    ·rw[aW hf,aW aC];exact o
   refine bz _ _ ?_ M;congr 1
   funext y
   congr 2
   funext z
   unfold yH;rw[oj];rfl
theorem akF:qh e (qN (aZ false n) (a_ false n)) (λ_=>e.st) (DT R):=by
 intro r pd h;unfold DT;have a:=RP hA bd ([120,32]++fl++[10]++ep) r pd h;unfold qN;unfold jH at a;cases aC:bP ([120,32]++fl++[10]++ep) r pd with
 |more op nd ds=>rw[dc aC] at a⊢;obtain⟨st,c,i⟩:=a;exact⟨st,hy c,i⟩
 |bad q=>rw[gY aC] at a⊢;obtain⟨g,st,c⟩:=a;exact⟨g,st,hy c⟩
 |deep q=>
  have:ae (bP ([120,32]++fl++[10]++ep)) (λt=>match t with
   | .eof=>b6 ([120,32]++fl++[10]++ep)
   | .word _ _=>cP (a_ false n)
   |_=>bK) r pd= .deep q:=by grind[ae]
  unfold ae;rw[aC];trivial
 |ok t r1 K=>
  rw[aY aC] at a⊢;obtain⟨A,rfl,rfl⟩:=Iq aC;have s1:=dT A;cases k:au r1 with
  |eof=>rw[k] at a;obtain⟨st,c,i⟩:=a;exact⟨st,hy c,i⟩
  |line=>rw[k] at a;obtain⟨g,st,c⟩:=a;exact⟨g,st,hy c⟩
  |op o=>rw[k] at a;obtain⟨g,st,c⟩:=a;exact⟨g,st,hy c⟩
  |word w p=>
   rw[k] at a;dsimp only at a⊢;refine aT.Yw ?_;rw[kn];refine aT.iy (C:=λx=>x) c2.id a (λ_=>rfl) λ_ L M _ s2 B=>?_;rw[kn];refine aT.An (C:=λx=>x) c2.id B s2 λb y m _ D s=>?_;dsimp only;rw[kn];have E:=D.trans s2;cases j:bu y with
   |none=>rw[dc (iw j)];unfold nb;exact((((qS e _).none s j).bind λ_=> .inl rfl).bind λ_=> .inr rfl).rr
   |some d=>
    rw[aY (cA j)];have z:=dT j;have F:=s.mono z;have N:=lD _ _ _ (cX _) j;have f:=Im [105,110] s;have he:cV [105,110] y m=(if au d= .eof then b6 [] else if cE (au d) [105,110] then bZ 2 else bK:ak Unit) d m:=by unfold cV m2;grind[aY,cA]
    rw[he] at f;by_cases ad:au d= .eof
    ·rw[bm ad] at f⊢;obtain⟨st,c,i⟩:=f;exact⟨_,hy c,by simp;rfl⟩
    rw[aW ad] at f⊢;rw[show ae (aU (au d)) (λt=>if cE t fl=true then ae (bZ 2) λ_=>(nn (aZ false n) (a_ false n)).aM (10::ep) else bK)=(if cE (au d) fl=true then ae (bZ 2) λ_=>(nn (aZ false n) (a_ false n)).aM (10::ep) else bK) from rfl];by_cases l:cE (au d) fl=true
    ·have u:cE (au d) [105,110]=true:=l;rw[bm u] at f;rw[bm l];obtain⟨c,i,G⟩:=f;refine aT.dV ?_ (e1 G);have aH:d.drop 2<:+d:=lE _ _;show aT e r ((nn (aZ false n) (a_ false n)).aM (10::ep) (d.drop 2) m) _ _;refine aT.aM ?_;rw[akz,cF];refine aT.mono ?_ (aH.trans (z.trans E));unfold uC;refine aT.An c2.k (F.mono aH) fK λb H I _ J v=>?_;have:=akB hA bk bd bC (d.drop 2) H I J (lk (lF (eI v.sfx) v.bY)) v;exact this
    ·have u:¬cE (au d) [105,110]=true:=l;rw[aW u] at f;rw[aW l];obtain⟨g,st,c⟩:=f;exact⟨g,_,hy c⟩
end
theorem YC{t:Tok}(h:hs t=true):(jg t).2.1=mx t/\0<(mx t).length:=by
 cases t with
 |eof=>cases h
 |line=>cases h
 |op o=>
  have:o=[40]:=by grind[hs]
  subst this;decide
 |word w p=>
  cases p with
  |false=>cases h
  |true=>
   refine⟨rfl,?_⟩;cases w with
   |nil=>exact absurd h (by decide)
   |cons a b=>simp[mx]
def Cy(l:dS)(t:Tok):ak Unit:=match t with
 | .op _=>ae ((l.ls .paren false).aM [41]) λ_=>jI [41]
 | .word w _=>
  if w=[123] then ae ((l.ls .qL false).aM [10,125]) λ_=>cV [125]
  else if w=m1 then qM l
  else if w=nj then pA l l.dl
  else if w=px then qN l l.dl
  else ae ((l.ls .py false).aM eh) λ_=>iI l eh
 |_=>bK
theorem YD{l:dS}{t:Tok}(h:hs t=true)(r:aa)(pd:aq):hN l t r pd=Cy l t (r.drop (mx t).length) pd:=by
 cases t with
 |eof=>cases h
 |line=>cases h
 |op o=>rfl
 |word w p=>rfl
theorem YE{R:bh}{n:Nat}(ax:n<=30)(hA:∀m,n=m+1->th R m/\w4 R m){e:cH}(bd:e.ne=30- (n:Int)){r:aa}{pd:aq}(h:dP e r pd)(K:bu r=some r)(aG:hs (au r)=true):
  aT e r ((aZ false n).cp (au r) r pd) (λ_=>e.st) (BG R (e.st r pd)):=by
 cases n with
 |zero=>trivial
 |succ m=>
  obtain⟨E,g⟩:=hA m rfl;obtain⟨L,R0⟩:=YC aG;have M:mx (au r)<+:r:=by
   cases b:au r with
   |eof=>rw[b] at aG;cases aG
   |line=>rw[b] at aG;cases aG
   |op o=>
    rw[b] at aG;have:o=[40]:=by grind[hs]
    subst this;exact(ic b).2.1
   |word w p=>
    rw[b] at aG;cases p with
    |false=>cases aG
    |true=>exact(qd b).1
  unfold BG a9;refine aT.dV ?_ (e1 ((kR e).some h K));dsimp only;rw[L];generalize l:mx (au r)=x at*;have N:=LX (p:=ay e.S r) (x:=x) h (by omega) (by omega);refine aT.dV ?_ (e1 N);show aT e r ((hN (aZ false m) (au r)).named (mx (au r)) r pd) _ _;rw[l];obtain⟨q,rfl⟩:=M;have d:q<:+x++q:=gQ x q;have hl:q.length<(x++q).length:=by grind
  have O:W (ay e.S (x++q)+(x.length:Int))=ay e.S q:=ko h.bY h.sfx;have j:=h.fj (x:=x) d hl;have P:(((e.fj x).st (x++q) pd).1,(W (((e.fj x).st (x++q) pd).2.1+(x.length:Int))),((e.fj x).st (x++q) pd).2.2.1,((e.fj x).st (x++q) pd).2.2.2.1,((e.fj x).st (x++q) pd).2.2.2.2.1,((e.fj x).st (x++q) pd).2.2.2.2.2)=(e.fj x).st q pd:=by show(e.S,W (ay e.S (x++q)+(x.length:Int)),pd,e.ne+1,e.op++[x],e.j1)=_;rw[O];rfl
  rw[P];have i:(e.fj x).ne=30- (m:Int):=by show e.ne+1=_;omega
  have Q:hN (aZ false m) (au (x++q)) (x++q) pd=Cy (aZ false m) (au (x++q)) q pd:=by grind[YD,List.drop_left]
  have f:∀(y:Option (bo an an))(z:Option (bo an an)),aT (e.fj x) (x++q) (Cy (aZ false m) (au (x++q)) q pd) (λ_=>(e.fj x).st) y->z=ba y (λx=>x) (λy=>av (tV y) λy=>some (.inr y))->aT e (x++q) ((hN (aZ false m) (au (x++q))).named x (x++q) pd) (λ_=>e.st) z:=by
   rintro y _ F rfl;rw[<-Q] at F;have k:=F.named;cases hk:((hN (aZ false m) (au (x++q))).named x) (x++q) pd with
   |ok a r1 S=>rw[hk] at k;obtain⟨s,t,T⟩:=k;refine⟨s,t.out,?_⟩;rw[e1 T];exact(aO (LY (r:=r1) (pd:=S) (x:=x) h.w2 (show 0<=e.ne by omega) (by omega))).trans rfl
   |more op nd ds=>rw[hk] at k;obtain⟨st,s,t⟩:=k;exact⟨st,hy s,t⟩
   |bad U=>rw[hk] at k;obtain⟨s,st,t⟩:=k;exact⟨s,st,hy t⟩
   |deep U=>trivial
  have G:(aZ false m).dl=a_ false m:=w3 false m;cases b:au (x++q) with
  |eof=>rw[b] at aG;cases aG
  |line=>rw[b] at aG;cases aG
  |op o=>
   rw[b] at aG f l;have v:x=[40]:=l.symm;subst v;simp only[bx,aK];refine f (ba (R.kg ((e.fj [40]).st q pd) 1 false) (λx=>x) λy=>ba (rV y.2 [41]) (λx=>(x.1,x.2.1,y.2.2.2.1,x.2.2.2.1,y.2.2.2.2.2.1,x.2.2.2.2.2)) λz=>some (.inr (z.1,z.2.1,y.2.2.2.1,z.2.2.2.1,y.2.2.2.2.2.1,z.2.2.2.2.2))) _ ?_ ?_
   ·refine aT.ls (c:= .paren) (C:=λx=>x) c2.id g i j d λa A B s2 u=>?_;exact aT.aki u (s2.trans d) λV=>rfl
   ·rw[oj];congr 1
    funext y
    rw[oj];rfl
  |word w p=>
   rw[b] at aG f l;have v:x=w:=l.symm;subst v;have D:qK x=true:=by
    cases p with
    |true=>exact aG
    |false=>cases aG
   have X:decide (x=[40])=false:=by rw[F8];rintro rfl;exact absurd D (by decide)
   simp only[X,aS];by_cases ad:x=[123]
   ·subst ad;simp only[bx,aK];refine f (ba (R.kg ((e.fj [123]).st q pd) 2 false) (λx=>x) λy=>ba (nb y.2 [125]) (λx=>(x.1,x.2.1,y.2.2.2.1,x.2.2.2.1,y.2.2.2.2.2.1,x.2.2.2.2.2)) λz=>some (.inr (z.1,z.2.1,y.2.2.2.1,z.2.2.2.1,y.2.2.2.2.2.1,z.2.2.2.2.2))) _ ?_ ?_
    ·refine aT.ls (c:= .qL) (C:=λx=>x) c2.id g i j d λa A B s2 u=>?_;exact aT.Yq u (s2.trans d) λV=>rfl
    ·rw[oj];congr 1
     funext y
     rw[oj];rfl
   simp only[ad,bF,aS];by_cases H:x=m1
   ·subst H;rw[show decide (m1=[105,102])=true from rfl];simp only[aK];refine f (DY R ((e.fj m1).st q pd)) _ ((ako g i q pd j).mono d) ?_;rfl
   have Y:decide (x=[105,102])=false:=F8.2 H;rw[Y];simp only[aS];by_cases I:x=nj
   ·subst I;rw[show decide (nj=[102,111,114])=true from rfl];simp only[aK];refine f (DW R ((e.fj nj).st q pd)) _ ?_ rfl;have:=(akv E g i q pd j).mono d;rw[<-G] at this;exact this
   have Z:decide (x=[102,111,114])=false:=F8.2 I;rw[Z];simp only[aS];by_cases J:x=px
   ·subst J;rw[show decide (px=[99,97,115,101])=true from rfl];simp only[aK];refine f (DT R ((e.fj px).st q pd)) _ ?_ rfl;have:=(akF E g i q pd j).mono d;rw[<-G] at this;exact this
   have U3:decide (x=[99,97,115,101])=false:=F8.2 J;rw[U3];simp only[aS];refine f (ba (R.kg ((e.fj x).st q pd) 6 false) (λx=>x) λy=>ba (sY R y.2) (λx=>x) λz=>some (.inr z)) _ ?_ ?_
   ·have:Cy (aZ false m) (.word x p)=ae (((aZ false m).ls .py false).aM eh) λ_=>iI (aZ false m) eh:=by simp_all[Cy,aW]
    rw[this];refine aT.ls (c:= .py) (C:=λx=>x) c2.id g i j d λa A B s2 u=>?_;dsimp only;rw[Cx];exact(R_ g i _ A B u).mono (s2.trans d)
   ·rw[oj];congr 1
    funext y
    rw[oj];rfl
def vH(R:bh)(n:Nat):Prop:=∀m,m<=n->th R m
theorem vH.at{R:bh}{n:Nat}(h:vH R n):th R n:=h n (cX _)
theorem vH.low{R:bh}{n:Nat}(h:vH R n):∀m,n=m+1->th R m/\w4 R m:=λm hm=>⟨h m (by omega),(h n (cX _)).ls m hm⟩
def js(fr:Bool):Nat->Option dS
 |0=>none
 |n+1=>some (aZ fr n)
theorem YG(fr:Bool)(n:Nat):(aZ fr n).cp=se (js fr n):=by cases n<;>rfl
theorem Fe(fr:Bool)(n:Nat):a_ fr n=dH (js fr n):=by cases n<;>rfl
theorem akH{R:bh}{n:Nat}(hA:vH R n){e:cH}(bd:e.ne=30- (n:Int)){u:aa}{pd:aq}(h:dP e (40::u) pd):
  aT e (40::u) (l1 false (js false n) (40::u) pd) (λ_=>e.st) (Hs R (e.st (40::u) pd)):=by
 have hle:=hA.at.le;cases n with
 |zero=>trivial
 |succ m=>
  cases m with
  |zero=>trivial
  |succ k=>
   show aT e (40::u) (l1 false (some (aZ false (k+1))) (40::u) pd) _ _;unfold l1;dsimp only;rw[bm (show(aZ false (k+1)).has=true from rfl)];unfold Hs a9;have Mf:W (e.ne+2)=e.ne+2:=dU (by omega) (by omega);have N:decide (30<W ((e.st (40::u) pd).2.2.2.1+2))=false:=by show decide (30<W (e.ne+2))=false;grind
   rw[N];simp only[aS];have O:=LX (p:=ay e.S (40::u)) (x:=[102,40,41]) h (by omega) (by omega);refine aT.dV ?_ (e1 O);have hu:u<:+40::u:=eb 40 u;have q:=h.fj (x:=[102,40,41]) hu (by simp);have P:W (ay e.S (40::u)+1)=ay e.S u:=iK h.bY h.sfx;have Q:(e.fj [102,40,41]).ne=30- ((k+1:Nat):Int):=by show e.ne+1=_;omega
   have S:(((e.fj [102,40,41]).st (40::u) pd).1,(W (((e.fj [102,40,41]).st (40::u) pd).2.1+1)),((e.fj [102,40,41]).st (40::u) pd).2.2.1,((e.fj [102,40,41]).st (40::u) pd).2.2.2.1,((e.fj [102,40,41]).st (40::u) pd).2.2.2.2.1,((e.fj [102,40,41]).st (40::u) pd).2.2.2.2.2)=(e.fj [102,40,41]).st u pd:=by show(e.S,W (ay e.S (40::u)+1),pd,e.ne+1,e.op++[[102,40,41]],e.j1)=_;rw[P];rfl
   rw[S];generalize T:(ae (bZ 1) λ_=>ae (bP [41,32,123,32,120,10,125]) λt=>if t= .eof then b6 [41,32,123,32,120,10,125] else if t= .op [41] then
    ae (bZ 1) λ_=>ae (cS.aM [123,32,120,10,125]) λ_=>ae (bP [123,32,120,10,125]) λt=>if t= .eof then b6 [123,32,120,10,125] else
     if hs t then ae ((aZ false (k+1)).cp t) λ_=>if false=true then(aZ false (k+1)).rd else aU () else bK
    else bK:ak Unit)=B
   have U:∀K:an->Option (bo an an),(∀r1 c,K ((e.fj [102,40,41]).st r1 c)=some (.inr (e.st r1 c)))->
     ∀y,aT (e.fj [102,40,41]) (40::u) (B (40::u) pd) (λ_=>(e.fj [102,40,41]).st) y->aT e (40::u) ((B.named [102,40,41]) (40::u) pd) (λ_=>e.st) (ba y (λx=>x) K):=by
    intro K l6 y V;have f:=V.named;cases hk:(B.named [102,40,41]) (40::u) pd with
    |ok a r1 c=>rw[hk] at f;obtain⟨g,l,A⟩:=f;exact⟨g,l.out,by grind[e1]⟩
    |more op nd ds=>rw[hk] at f;obtain⟨st,g,l⟩:=f;exact⟨st,hy g,l⟩
    |bad X=>rw[hk] at f;obtain⟨g,st,l⟩:=f;exact⟨g,st,hy l⟩
    |deep X=>trivial
   have D:∀r1 c,(av (tV ((e.fj [102,40,41]).st r1 c)) λ(E:an)=>(some (.inr E):Option (bo an an)))=some (.inr (e.st r1 c)):=λr1 c=>
    (aO (LY (r:=r1) (pd:=c) (x:=[102,40,41]) h.w2 (show 0<=e.ne by omega) (by omega))).trans rfl
   have F:=U (λY=>av (tV Y) λ(E:an)=>some (.inr E)) D
    (ba (rV ((e.fj [102,40,41]).st u pd) ([41]:aa)) (λx=>(x.1,x.2.1,pd,x.2.2.2.1,e.op++[[102,40,41]],x.2.2.2.2.2)) λ(s:an)=>
     (ba (k3 (s.1,s.2.1,pd,s.2.2.2.1,e.op++[[102,40,41]],s.2.2.2.2.2)) (λx=>x) λy=>
     (ba (DM y.2) (λx=>(x.1,x.2.1,y.2.2.2.1,x.2.2.2.1,y.2.2.2.2.2.1,x.2.2.2.2.2)) λz=>
     (bif(!z.1) then
     ba (ky (z.2.1,z.2.2.1,y.2.2.2.1,z.2.2.2.2.1,y.2.2.2.2.2.1,z.2.2.2.2.2.2)) (λx=>(x.1,x.2.1,y.2.2.2.1,x.2.2.2.1,y.2.2.2.2.2.1,x.2.2.2.2.2)) λy=>Empty.elim y
     else
     BG R (z.2.1,z.2.2.1,y.2.2.2.1,z.2.2.2.2.1,y.2.2.2.2.2.1,z.2.2.2.2.2.2)))))
   have G:=F (by
    rw[<-T];show aT (e.fj [102,40,41]) (40::u) (ae (bP [41,32,123,32,120,10,125]) _ u pd) _ _;have Z:=q;cases i:bu u with
    |none=>rw[dc (iw i)];unfold rV;exact((((ru _ _).none q i).bind λ_=> .inl rfl).bind λ_=> .inr rfl).rr
    |some r1=>
     rw[aY (cA i)];have s1:=dT i;have v1:=q.mono s1;have g:=lD _ _ _ (cX _) i;have d:=LR [41] q;have he:jI [41] u pd=(if au r1= .eof then b6 [] else if(au r1==Tok.op [41])=true then bZ 1 else bK:ak Unit) r1 pd:=by unfold jI m2;rw[aY (cA i)];rfl
     rw[he] at d;by_cases ad:au r1= .eof
     ·rw[bm ad] at d⊢;obtain⟨st,v,aX⟩:=d;exact⟨_,hy v,by simp;rfl⟩
     rw[aW ad] at d⊢;by_cases I:au r1= .op [41]
     ·rw[bm (by grind)] at d;rw[if_pos I];obtain⟨v,aX,gx⟩:=d;refine aT.dV ?_ (e1 gx);have aH:r1.drop 1<:+r1:=List.drop_suffix _ _;show aT (e.fj [102,40,41]) (40::u) (ae (cS.aM [123,32,120,10,125]) _ (r1.drop 1) pd) _ _;have J:r1.drop 1<:+40::u:=aH.trans (s1.trans hu);refine aT.lines (C:=λx=>x) c2.id (v1.mono aH) J λb az dr _ s2 v2=>?_;refine aT.tst (C:=λx=>x) c2.id (X0 _) v2 λL rn jr M A=>?_;dsimp only;cases aG:hs (au L) with
      |true=>
       have ax:au L≠ .eof:=by intro o;rw[o] at aG;cases aG
       rw[aW ax];simp only[cG,gP,aS,eC,cm]
       have:=YE (R:=R) (n:=k+1) (by omega) (λm hm=>by
        have H:vH R (k+1):=λj cr=>hA j (by omega);exact H.low m hm) Q M A aG
       rw[E5];exact this.mono (jr.trans (s2.trans J))
      |false=>simp only[e3,aK,eC,cm];exact L3 (x:=[123,32,120,10,125]) M A (λo=>bm o) (λo=>aW o) λ_=> .inr rfl
     ·rw[aW (by grind)] at d;rw[if_neg I];obtain⟨nV,st,v⟩:=d;exact⟨nV,_,hy v⟩)
   refine aT.dV G ?_;rw[oj];congr 1
   funext y
   rw[oj];congr 1
   funext z
   rw[oj];congr 1
   funext w
   cases w.1 with
   |true=>rfl
   |false=>simp only[Bool.not_false,cond_true];rw[oj];grind
theorem uD{D:ak Unit}{r r':aa}{pd:aq}(b:bu r=some r')(ax:eV (br (r'.dropWhile cb))=false):dy D r pd= .ok false r' pd:=by
 have a:fF r pd= .ok none r' pd:=by simp_all[fF,aW]
 unfold dy;rw[aY a];rfl
theorem YH{D:ak Unit}{r r':aa}{pd:aq}(d:bu r=some r')(ax:eV (br (r'.dropWhile cb))=true){b:Bool}{r1:aa}{a:aq}(h:dy D r pd= .ok b r1 a):b=true:=by
 have c:fF r pd= .ok (some (br (r'.dropWhile cb))) ((r'.dropWhile cb).drop (br (r'.dropWhile cb)).length) pd:=by simp_all[fF,bm]
 unfold dy at h;rw[aY c] at h;obtain⟨_,_,_,_,h⟩:=b0 h;cases h;rfl
theorem akM{b:UInt8}{t:aa}(h:br (b::t)≠[]):cb b=false:=by
 cases a:cb b with
 |false=>rfl
 |true=>simp_all[absurd,og,Am]
theorem YI{R:bh}{n:Nat}(hA:vH R n){e:cH}(bd:e.ne=30- (n:Int)):qh e (gk false (js false n) (a_ false n)) (λ_=>e.st) (zP R):=by
 intro r pd h;unfold gk zP;have a:=hA.at;refine aT.tst (C:=λx=>x) c2.id (X0 e) h λr1 qa s1 c d=>?_;dsimp only;by_cases aG:hs (au r1)=true
 ·have ax:au r1≠ .eof:=by intro g;rw[g] at aG;cases aG
  rw[aW ax,bm aG,aG];simp only[aK];have J:=YE (R:=R) (n:=n) a.le (λm hm=>hA.low m hm) bd c d aG;rw[YG] at J;refine aT.iy (C:=λx=>x) c2.id (J.mono s1) (λ_=>rfl) λ_ l q _ s2 i=>?_;rw[Cx];exact(Yo a bd l q i).mono s2
 have E:hs (au r1)=false:=by grind
 rw[E];simp only[aS,eC,cm];refine aT.dV ?_ (e1 ((kR e).some c d));dsimp only;unfold a9;have F:∀(m:ak Unit)(z:Bool)(K:an->Option (bo an an)),eV (br (r1.dropWhile cb))=false->(au r1= .eof->m=b6 [120])->(au r1≠ .eof->m=bK)->z=false->aT e r (m r1 pd) (λ_=>e.st)
   (bif z then ba (ky ((e.st r1 pd).1,(e.st r1 pd).2.1,(e.st r pd).2.2.1,(e.st r1 pd).2.2.2.1,(e.st r pd).2.2.2.2.1,(e.st r1 pd).2.2.2.2.2)) (λx=>(x.1,x.2.1,(e.st r pd).2.2.1,x.2.2.2.1,(e.st r pd).2.2.2.2.1,x.2.2.2.2.2)) λy=>Empty.elim y
    else ba (x8 R ((e.st r1 pd).1,(e.st r1 pd).2.1,(e.st r pd).2.2.1,(e.st r1 pd).2.2.2.1,(e.st r pd).2.2.2.2.1,(e.st r1 pd).2.2.2.2.2)) (λx=>x) λw=>bif w.1 then ba (zO R w.2) (λx=>x) (λO=>some (.inr O)) else
     ba (ky w.2) (λx=>(x.1,x.2.1,w.2.2.2.1,x.2.2.2.1,w.2.2.2.2.2.1,x.2.2.2.2.2)) λy=>Empty.elim y):=by
  rintro m _ K v P Q rfl;simp only[aS];have j:=Iv a bd r1 pd c;rw[uD d v] at j;refine aT.dV ?_ (e1 j.2.2);simp only[aS];exact L3 (x:=[120]) c d P Q λ_=> .inr rfl
 have S:eV []=false:=by decide
 cases f:au r1 with
 |eof=>
  have mD:r1=[]:=by
   cases r1 with
   |nil=>rfl
   |cons b t=>exfalso;have uA:(if b=10 then Tok.line else if br (b::t)≠[] then .op (br (b::t)) else .word (c4 (b::t)).1 (c4 (b::t)).2)=Tok.eof:=f;grind
  simp only[jg,cR,show¬((0:Int)=3) by decide,bF,aS,cG,eC,cm,e3,aK];have:=F (b6 [120]) false (λ_=>none) (by simp_all[br,la,xv,List.isPrefixOf]) (λ_=>rfl) (λg=>absurd f g) rfl;exact this
 |line=>obtain⟨t,rfl⟩:=vB f;simp only[jg,cR,show¬((1:Int)=3) by decide,bF,aS,cG,eC,cm,e3,aK,reduceCtorEq];have fo:br (10::t)=[]:=og (by decide);have:=F bK false (λ_=>none) (by rfl) (λg=>by grind) (λ_=>rfl) rfl;exact this
 |op o=>
  simp only[jg,cR,show¬((2:Int)=3) by decide,bF,aS,cG,eC,cm,e3,aK,reduceCtorEq];have T:=(ic f).1;have Cu:r1.dropWhile cb=r1:=by
   cases r1 with
   |nil=>rfl
   |cons b t=>exact Ji (by rw[akM (b:=b) (t:=t) (by rw[<-T];exact(ic f).2.2.2)];simp)
  by_cases v:eV o=true
  ·rw[bm v];have j:=Iv a bd r1 pd c;refine aT.iy (C:=λx=>x) c2.id (j.mono s1) (λ_=>rfl) λb l q A s2 i=>?_;have s:=YH d (by grind) A;subst s;simp only[aK];rw[Cx];exact(Ma a bd l q i).mono s2
  ·rw[aW v];have:=F bK false (λ_=>none) (by grind) (λg=>by grind) (λ_=>rfl) rfl;exact this
 |word w p=>
  simp only[jg,bx,aK,reduceCtorEq,cm,gP,aS];rw[ajU,fV];have U:(bif p then(if p=true then rk w else false) else false)=(p&&rk w):=by simp
  rw[U];cases Mg:(p&&rk w) with
  |true=>simp only[aK,cG];exact L3 (x:=[]) c d (λg=>by grind) (λ_=>rfl) λ_=> .inr rfl
  |false=>
   simp only[aS,eC,cm];have j:=Iv a bd r1 pd c;refine aT.iy (C:=λx=>x) c2.id (j.mono s1) (λ_=>rfl) λb l q A s2 i=>?_;cases b with
   |true=>simp only[aK,cG];rw[Cx];exact(Ma a bd l q i).mono s2
   |false=>
    simp only[aS,eC,cm];have V:eV (br (r1.dropWhile cb))=false:=by grind[eV,br,cb,YH]
    rw[uD d V] at A;cases A;refine aT.iy (C:=λx=>x) c2.id ((L2 a bd i d f).mono s2) (λ_=>rfl) λ_ G B _ H L=>?_;have W:aT e r (hv false (a_ false n) G B) (λ_=>e.st) (ba (zO R (e.st G B)) (λx=>x) λX=>some (.inr X)):=by rw[Cx];exact(Ma a bd G B L).mono H
    have Y:zH w=some (lZ w)\/p=false:=by
     cases p with
     |false=>simp
     |true=>left;have:=(qd f).1.length_le;have:=eI c.sfx;have:=h.bY;grind[yF]
    have Z:∀(k:Bool->Option (bo an an)),cR (p=true) (zH w) false k=k (p&&lZ w):=by
     intro k;rcases Y with ad|rfl
     ·grind[fV]
     rfl
    refine aT.dV ?_ (Z _);cases Aq:(p&&lZ w) with
    |false=>simp_all[aT.dV,XV,aS,eC,cm]
    |true=>
     have aC:p=true:=by grind
     subst aC;refine aT.dV ?_ (yA rfl);simp only[cG];refine aT.tst (C:=λx=>x) c2.id (ru e [40]) L λD Ao M N i4=>?_;dsimp only[cond_true];by_cases I:au D= .op [40]
     ·have s:((au D==Tok.op [40]):Bool)=true:=by grind
      rw[bm I,s];simp only[aK];obtain⟨u,rfl⟩:=(ic I).2.1;refine aT.iy (C:=λx=>x) c2.id ((akH hA bd N).mono (M.trans H)) (λ_=>rfl) λ_ eO lf _ ns me=>?_;rw[Cx];exact(Yo a bd eO lf me).mono ns
     ·have s:((au D==Tok.op [40]):Bool)=false:=by grind
      rw[aW I,s];simp only[aS];rw[Cx];exact(Ma a bd D B N).mono (M.trans H)
theorem Sc{e:cH}{r o:aa}{pd:aq}(v:dP e r pd)(b:au r= .op o):r.drop o.length<:+r/\(r.drop o.length).length<r.length/\dP e (r.drop o.length) pd/\W (ay e.S r+(o.length:Int))=ay e.S (r.drop o.length):=by obtain⟨_,⟨q,rfl⟩,_,bd⟩:=ic b;have hl:0<o.length:=No.2 bd;rw[o0];have a:q<:+o++q:=gQ o q;exact⟨a,by grind,v.mono a,ko v.bY v.sfx⟩
def qU(fr:Bool)(n:Nat):ak Unit:=gk fr (js fr n) (a_ fr n)
theorem YJ(fr:Bool)(n:Nat):ar (qU fr n):=by
 unfold qU;refine ar.command (λl hl=>?_) (l4 fr n);cases n with
 |zero=>cases hl
 |succ m=>cases hl;simp[pC]
theorem YK(fr:Bool)(n:Nat):ar (fi (qU fr n)):=ar.pipe (YJ fr n)
section
variable{R:bh}{n:Nat}(hA:vH R n){e:cH}(bd:e.ne=30- (n:Int))
include hA bd
theorem YL:qh e (fi (qU false n)) (λ_=>e.st) (BM R):=by
 intro r pd h;unfold fi BM a9;refine aT.tst (C:=λx=>x) c2.id (qS e [33]) h λr1 X s1 d Y=>?_;dsimp only;have u:∀c,c<:+r->dP e c pd->aT e r (ae (qU false n) (λ_=>ca (λ_=>ae (bP []) λt=>if t= .op [124] then ae (bZ 1) λ_=>ae (cS.aM [120]) λ_=>ae (qU false n) λ_=>aU (.inl ()) else aU (.inr ())) ()) c pd) (λ_=>e.st)
   (ba (zP R (e.st c pd)) (λx=>x) λ(E:an)=>fixF (KL R λy=>some (.inr y)) bC E):=by
  intro c s2 F;refine aT.iy (C:=λx=>x) c2.id ((YI hA bd c pd F).mono s2) (λ_=>rfl) λ_ G H _ I f=>?_;refine aT.mono ?_ I;refine aT.rep (en:=λ_ r pd=>e.st r pd) (λk s g v J hk=>?_) bC () G H (lk (lF (eI f.sfx) f.bY)) f;unfold KL;refine aT.tst c2.k (ru e [124]) J λa Z i z i5=>?_;dsimp only;by_cases j:au a= .op [124]
  ·have l:((au a==Tok.op [124]):Bool)=true:=by grind
   rw[bm j,l];simp only[aK];obtain⟨m,K,A,B⟩:=Sc z j;show aT e g (cN _ g (ae (cS.aM [120]) _ (a.drop 1) v)) _ (ba (k3 (e.S,W (ay e.S a+1),v,e.ne,e.op,e.j1)) _ _);rw[show([124]:aa).length=1 from rfl] at m K A B;have L:W (ay e.S a+1)=ay e.S (a.drop 1):=B;rw[L];refine aT.lines c2.k A (m.trans i) λb M N _ O P=>?_;have Q:=O.trans (m.trans i);refine aT.iy c2.k ((YI hA bd M N P).mono Q) (λ_=>rfl) λ_ S qO T Fb Ix=>?_;have U:S.length<g.length:=by have cU:=((YJ false n).sfx T).length_le;grind
   grind[aT.inl]
  ·have l:((au a==Tok.op [124]):Bool)=false:=by grind
   rw[aW j,l];exact aT.inr i z rfl
 by_cases o:cE (au r1) [33]=true
 ·rw[bm o,o];simp only[aK];have p:au r1= .word [33] true:=by grind[cE]
  obtain⟨q,rfl⟩:=(qd p).1;have D:q<:+[33]++q:=gQ [33] q;have V:W (ay e.S ([33]++q)+1)=ay e.S q:=ko (w:=[33]) d.bY d.sfx;have:=u q (D.trans s1) (d.mono D);show aT e r (ae (qU false n) _ q pd) _ (ba (zP R (e.S,W (ay e.S ([33]++q)+1),pd,e.ne,e.op,e.j1)) _ _);rw[V];exact this
 ·have p:cE (au r1) [33]=false:=by grind
  rw[aW o,p];exact u r1 s1 d
theorem Se:qh e (hj (fi (qU false n))) (λ_=>e.st) (zQ R):=by
 intro r pd h;unfold hj zQ a9;refine aT.iy (C:=λx=>x) c2.id (YL hA bd r pd h) (λ_=>rfl) λ_ z A _ B f=>?_;refine aT.mono ?_ B;refine aT.rep (en:=λ_ r pd=>e.st r pd) (λk s c g D hk=>?_) bC () z A (lk (lF (eI f.sfx) f.bY)) f;unfold P5;refine aT.tst c2.k (ru e [38,38]) D λa S i j E=>?_;dsimp only;have q:∀o:aa,o.length=2->au a= .op o->aT e c (cN (λ_=>ae (bP []) λt=>if t= .op [38,38]\/t= .op [124,124] then ae (bZ 2) λ_=>ae (cS.aM [120]) λ_=>ae (fi (qU false n)) λ_=>aU (.inl ()) else aU (.inr ())) c (ae (bZ 2) (λ_=>ae (cS.aM [120]) λ_=>ae (fi (qU false n)) λ_=>aU (.inl ())) a g)) (λ_=>e.st)
   (ba (k3 (e.S,W (ay e.S a+2),g,e.ne,e.op,e.j1)) (λx=>x) λy=>ba (BM R y.2) (λx=>x) λF=>k F):=by
  intro o G d;obtain⟨l,H,u,v⟩:=Sc j d;rw[G] at l H u v;have I:W (ay e.S a+2)=ay e.S (a.drop 2):=v;rw[I];show aT e c (cN _ c (ae (cS.aM [120]) _ (a.drop 2) g)) _ _;refine aT.lines c2.k u (l.trans i) λb J K _ L M=>?_;have N:=L.trans (l.trans i);refine aT.iy c2.k ((YL hA bd J K M).mono N) (λ_=>rfl) λ_ O T P U V=>?_;have Q:O.length<c.length:=by have X:=((YK false n).sfx P).length_le;grind
  grind[aT.inl]
 by_cases d:au a= .op [38,38]
 ·have m:((au a==Tok.op [38,38]):Bool)=true:=by grind
  rw[bm (.inl d),m];simp only[m8,tB,cm,aK];exact q _ rfl d
 ·have m:((au a==Tok.op [38,38]):Bool)=false:=by grind
  rw[m];refine aT.dV ?_ ((yA rfl).trans (e1 ((ru e [124,124]).some j E)));dsimp only;by_cases w:au a= .op [124,124]
  ·have p:((au a==Tok.op [124,124]):Bool)=true:=by grind
   rw[bm (.inr w),p];simp only[aK,aS];exact q _ rfl w
  ·have p:((au a==Tok.op [124,124]):Bool)=false:=by grind
   rw[aW (by grind),p];simp only[cond_false];exact aT.inr i j rfl
end
def mF(fr:Bool)(n:Nat):ak Unit:=hj (fi (qU fr n))
theorem akP(fr:Bool)(n:Nat):ar (mF fr n):=ar.pB (YK fr n)
theorem YM(fr:Bool)(n:Nat)(c:Ctx)(no:Bool):(aZ fr n).ls c no=od (mF fr n) c no:=by cases n<;>rfl
theorem YN{c:Ctx}:dR c .eof=decide (c= .text):=by cases c<;>simp[dR,cE]
theorem akQ{r:aa}{pd:aq}{b:Bool}{r':aa}{a:aq}(c:bu r=some r)(h:cS r pd= .ok b r' a):(au r= .line->b=true/\r'.length<r.length)/\(au r≠ .line->b=false/\r'=r/\a=pd):=by
 constructor
 ·intro d;obtain⟨t,rfl⟩:=vB d;refine⟨?_,Xh h⟩;rw[si,cF,ux c] at h;unfold cN at h;cases hm:ae jb (λ_=>(aU (.inl true):ak (Bool⊕Bool))) (10::t) pd with
  |ok x r1 g=>
   have f:x=(Sum.inl true:Bool⊕Bool):=by obtain⟨_,_,_,_,e⟩:=b0 hm;cases e;rfl
   subst f;rw[hm] at h;simp only at h;split at h
   ·have:∀(N:Nat)(r:aa)(pd:aq)(b:Bool)(r':aa)(a:aq),r.length<=N->ca h2 true r pd= .ok b r' a->b=true:=by
     intro N;induction N with
     |zero=>intro r pd b r' a i h;have:r=[]:=nw.1 (by omega);subst this;rw[cF,rm (r1:=[]) (by rw[l2]) (by decide)] at h;cases h;rfl
     |succ N k=>
      intro r pd b r' a i h;rw[cF] at h;cases c:bu r with
      |none=>have:h2 true r pd= .more [] (cO [] pd []).1 (cO [] pd []).2:=dc (iw c);rw[this] at h;cases h
      |some j=>
       by_cases d:au j= .line
       ·obtain⟨t,rfl⟩:=vB d;rw[ux c] at h;unfold cN at h;cases hm:ae jb (λ_=>(aU (.inl true):ak (Bool⊕Bool))) (10::t) pd with
        |ok x r1 g=>
         have f:x=(Sum.inl true:Bool⊕Bool):=by obtain⟨_,_,_,_,e⟩:=b0 hm;cases e;rfl
         grind
        |more _ _ _=>grind
        |bad _=>grind
        |deep _=>grind
       ·rw[rm c d] at h;cases h;rfl
    exact this _ _ _ _ _ _ (cX _) h
   grind
  |more _ _ _=>grind
  |bad _=>grind
  |deep _=>grind
 ·intro d;rw[Mc c d] at h;cases h;exact⟨rfl,rfl,rfl⟩
theorem YO(fr:Bool)(n:Nat){r r':aa}{pd:aq}(a:bu r=some r'):mF fr n r pd=mF fr n r' pd:=by have b:=lD _ _ _ (cX _) a;unfold mF hj fi;rw[kn];rw[aY (cA a),aY (cA b)]
theorem YP(fr:Bool)(n:Nat){r:aa}{pd:aq}(a:bu r=none):∃nd ds,mF fr n r pd= .more [] nd ds:=by unfold mF hj fi;rw[kn];exact⟨_,_,dc (iw a)⟩
theorem YQ(fr:Bool)(n:Nat)(pd:aq):∃nd ds,mF fr n [] pd= .more [] nd ds:=by
 have a:bu []=some []:=l2;unfold mF hj fi;rw[kn,aY (cA a),kn];have ad:cE (au []) [33]=false:=rfl;rw[ad];simp only[eC,cm];show∃nd ds,ae (ae (qU fr n) _) _ [] pd=_
 have b:∃nd ds,qU fr n [] pd= .more [] nd ds:=by unfold qU gk;rw[aY (cA a)];exact⟨_,_,rfl⟩
 grind[dc]
theorem YR{R:bh}{n:Nat}(hA:vH R n){e:cH}(bd:e.ne=30- (n:Int))(c:Ctx)(no:Bool)(E8:c≠ .text\/no=true):qh e (od (mF false n) c no) (λa r pd=>((a:Int),e.st r pd)) (λx=>D5 R x (Cr c) no):=by
 intro r pd h;rw[uw];unfold D5;refine aT.lines (C:=λx=>x) c2.id h fK λb r1 aF _ s1 q=>?_;dsimp only;refine aT.mono ?_ s1
 have O:∀(N:Nat)(k:Nat)(r pd),r.length<N->k+r.length<=2000000->dP e r pd->aT e r (ca (ed (mF false n) c no) k r pd) (λa r pd=>((a:Int),e.st r pd)) (fixF (Hu R (Cr c) no) N ((k:Int),e.st r pd)):=by
  intro N;induction N with
  |zero=>omega
  |succ N P=>
   intro k r pd nQ hk h;rw[eZ,cF];generalize fixF (Hu R (Cr c) no) N=K at P;unfold Hu a9;have hW:k<2000000->W ((k:Int)+1)=((k+1:Nat):Int):=by grind[dU]
   have Q:∀g,r≠[]->g<:+r->dP e g pd->aT e r (cN (ed (mF false n) c no) r (ae (mF false n) (λ_=>ae (bP []) (hQ c k)) g pd)) (λa r pd=>((a:Int),e.st r pd))
     (ba (zQ R (e.st g pd)) (λx=>x) λ(i:an)=>(ba (na i ([59]:aa)) (λx=>(x.1,x.2.1,i.2.2.1,x.2.2.2.1,i.2.2.2.2.1,x.2.2.2.2.2)) λ(r6,v)=>(m8 (r6=false) (na (v.1,v.2.1,i.2.2.1,v.2.2.2.1,i.2.2.2.2.1,v.2.2.2.2.2) ([38]:aa)) (λx=>(x.1,x.2.1,i.2.2.1,x.2.2.2.1,i.2.2.2.2.1,x.2.2.2.2.2)) (false,(v.1,v.2.1,i.2.2.1,v.2.2.2.1,i.2.2.2.2.1,v.2.2.2.2.2)) λ(j9,z)=>(bif(bif r6 then true else j9) then(ba (k3 (z.1,(W (z.2.1+1)),i.2.2.1,z.2.2.2.1,i.2.2.2.2.1,z.2.2.2.2.2)) (λx=>x) λ(iC,A)=>K ((W ((k:Int)+1)),A.1,A.2.1,A.2.2.1,A.2.2.2.1,A.2.2.2.2.1,A.2.2.2.2.2)) else(ba (k3 (z.1,z.2.1,i.2.2.1,z.2.2.2.1,i.2.2.2.2.1,z.2.2.2.2.2)) (λx=>x) λ(oJ,d)=>(bif oJ then K ((W ((k:Int)+1)),d.1,d.2.1,d.2.2.1,d.2.2.2.1,d.2.2.2.2.1,d.2.2.2.2.2) else(ba (lU d) (λx=>(x.1,x.2.1,d.2.2.1,x.2.2.2.1,d.2.2.2.2.1,x.2.2.2.2.2)) λ(mY,B)=>(m8 ((decide (mY.1=3))=false) (DL (B.1,B.2.1,d.2.2.1,B.2.2.2.1,d.2.2.2.2.1,B.2.2.2.2.2) (Cr c)) (λx=>(x.1,x.2.1,d.2.2.1,x.2.2.2.1,d.2.2.2.2.1,x.2.2.2.2.2)) (false,(B.1,B.2.1,d.2.2.1,B.2.2.2.1,d.2.2.2.2.1,B.2.2.2.2.2)) λ(gW,D)=>(bif(bif(decide (mY.1=3)) then true else(!gW)) then ba (ky (D.1,D.2.1,d.2.2.1,D.2.2.2.1,d.2.2.2.2.1,D.2.2.2.2.2)) (λx=>(x.1,x.2.1,d.2.2.1,x.2.2.2.1,d.2.2.2.2.1,x.2.2.2.2.2)) λy=>Empty.elim y else some (.inr ((W ((k:Int)+1)),(D.1,D.2.1,d.2.2.1,D.2.2.2.1,d.2.2.2.2.1,D.2.2.2.2.2)))))))))))):=by
    intro g mD s2 S;refine aT.iy c2.k ((Se hA bd g pd S).mono s2) (λ_=>rfl) λ_ ct s Md jr eT=>?_;have EP:=((akP false n).sfx Md).length_le;dsimp only;refine aT.tst c2.k (ru e [59]) eT λf Ao pE j t=>?_;dsimp only;have G:=pE.trans jr;have T:au f≠ .eof->k<2000000:=by
     intro I;have:f≠[]:=by rintro rfl;exact I rfl
     grind[List.length_pos_iff]
    have YS:∀o:aa,o.length=1->(o=[59]\/o=[38])->au f= .op o->aT e r (cN (ed (mF false n) c no) r (hQ c k (.op o) f s)) (λa r pd=>((a:Int),e.st r pd))
      (ba (k3 (e.S,W (ay e.S f+1),s,e.ne,e.op,e.j1)) (λx=>x) λ(iC,A)=>K ((W ((k:Int)+1)),A)):=by
     intro o U V E;obtain⟨X,cy,eF,ch⟩:=Sc j E;rw[U] at X cy eF ch;have IB:W (ay e.S f+1)=ay e.S (f.drop 1):=ch;rw[IB];unfold hQ;dsimp only;rw[bm V];show aT e r (cN _ r (ae cS _ (f.drop 1) s)) _ _;refine aT.An c2.k eF (X.trans G) λb J Y _ Z me=>?_;have Ar:J.length<r.length:=by grind
     rw[hW (T (by grind))];exact aT.inl Ar ((P (k+1) J Y (by omega) (by omega) me).mono (Z.trans (X.trans G)))
    by_cases kT:au f= .op [59]
    ·have hb:((au f==Tok.op [59]):Bool)=true:=by grind
     rw[hb,kT];simp only[m8,tB,cm,aK];exact YS [59] rfl (.inl rfl) kT
    have hb:((au f==Tok.op [59]):Bool)=false:=by grind
    rw[hb];refine aT.dV ?_ ((yA rfl).trans (e1 ((ru e [38]).some j t)));dsimp only;by_cases YT:au f= .op [38]
    ·have oy:((au f==Tok.op [38]):Bool)=true:=by grind
     rw[oy,YT];simp only[aK,aS];exact YS [38] rfl (.inr rfl) YT
    have oy:((au f==Tok.op [38]):Bool)=false:=by grind
    rw[oy];simp only[aS];by_cases hl:au f= .line
    ·rw[hl];unfold hQ;dsimp only;refine aT.An c2.k j G λb J Y akU Z me=>?_;obtain⟨akV,Ar⟩:=(akQ t akU).1 hl;subst akV;simp only[aK];have akW:J.length<r.length:=by grind
     rw[hW (T (by grind))];exact aT.inl akW ((P (k+1) J Y (by omega) (by omega) me).mono (Z.trans G))
    have Dk:=Mc (pd:=s) t hl;have L9:=XZ j;rw[Dk] at L9;refine aT.dV ?_ (e1 L9.2.2);dsimp only;simp only[aS];refine aT.dV ?_ (e1 ((kR e).some j t));dsimp only
    have YU:∀(m:ak (Nat⊕Nat)),au f≠ .eof->m=bK->aT e r (cN (ed (mF false n) c no) r (m f s)) (λa r pd=>((a:Int),e.st r pd)) (ba (ky (e.st f s)) (λx=>(x.1,x.2.1,s,x.2.2.2.1,e.op,x.2.2.2.2.2)) λy=>(Empty.elim y:Option (bo an (Int×an)))):=by rintro m I rfl;exact⟨j.sfx,_,hy ((te j t).2 I)⟩
    cases E:au f with
    |line=>grind
    |word w p=>simp only[jg,bx,m8,tB,cm,aK];exact YU bK (by grind) rfl
    |op o=>
     have l:(decide ((jg (Tok.op o)).1=3))=false:=rfl;refine aT.dV ?_ ((yA l).trans (e1 ((RI e c).some j t)));dsimp only;rw[l,E];simp only[aS];have U:¬(o=[59]\/o=[38]):=by grind
     unfold hQ;dsimp only;rw[aW U];cases yD:dR c (.op o) with
     |true=>simp only[gP,aS,cG];rw[hW (T (by grind))];exact aT.inr G j rfl
     |false=>simp only[Bool.not_false,cond_true,Bool.false_eq_true,if_false];exact YU bK (by grind) rfl
    |eof=>
     have uy:f=[]:=by
      cases f with
      |nil=>rfl
      |cons b u=>exfalso;have uA:(if b=10 then Tok.line else if br (b::u)≠[] then .op (br (b::u)) else .word (c4 (b::u)).1 (c4 (b::u)).2)=Tok.eof:=E;grind
     subst uy;have l:(decide ((jg Tok.eof).1=3))=false:=rfl;refine aT.dV ?_ ((yA l).trans (e1 ((RI e c).some j t)));dsimp only;rw[l,E,YN];simp only[aS];have mE:k<2000000:=by grind[List.length_pos_iff]
     have o7:cN (ed (mF false n) c no) r (hQ c k .eof [] s)=cN (ed (mF false n) c no) [] ((if c= .text then aU (.inr (k+1)) else b6 (if no||k+1>0 then [] else [120]):ak (Nat⊕Nat)) [] s):=by show(if([]:aa).length<r.length then _ else _)=_;rw[bm (by grind),cF];congr 1;unfold ed;rw[aY (cA t),E,if_pos rfl]
     rw[o7];by_cases aG:c= .text
     ·rw[if_pos aG];simp only[aG,decide_true,Bool.not_true,cond_false];rw[hW mE];exact⟨G,j,rfl⟩
     ·rw[if_neg aG];simp only[aG,decide_false,Bool.not_false,cond_true];exact(((te j t).1 E).bind λ_=> .inr rfl).rr
   unfold ed;have RH:(0<(k:Int))↔k>0:=by omega
   have bq:(bif no then true else decide (0<(k:Int)))=(no||decide (k>0)):=by simp
   have mc:=Q;dsimp only;have arF:bu r=none->aT e r (cN (ed (mF false n) c no) r (ae (mF false n) (λ_=>ae (bP []) (hQ c k)) r pd)) (λa r pd=>((a:Int),e.st r pd)) (ba (zQ R (e.st r pd)) (λx=>x) λ_=>none):=by intro F;obtain⟨nd,ds,ad⟩:=YP false n (pd:=pd) F;have L:=Se hA bd r pd h;have Cz:hj (fi (qU false n)) r pd= .more [] nd ds:=ad;rw[Cz] at L;rw[dc ad];obtain⟨st,bD,aX⟩:=L;exact⟨st,hy bD,aX⟩
   have Sf:∀(g:aa)(H:aq)(YV:an->Option (bo an (Int×an)))(x:dt (Nat⊕Nat)),dP e g H->(∃nd ds,mF false n g H= .more [] nd ds)->(∃nd ds,x= .more [] nd ds)->aT e r (cN (ed (mF false n) c no) r x) (λa r pd=>((a:Int),e.st r pd)) (ba (zQ R (e.st g H)) (λx=>x) YV):=by rintro g H YV x S ⟨nd,ds,ad⟩ ⟨arG,arH,rfl⟩;have L:=Se hA bd g H S;have Cz:hj (fi (qU false n)) g H= .more [] nd ds:=ad;rw[Cz] at L;obtain⟨st,bD,aX⟩:=L;exact⟨st,hy bD,aX⟩
   have pF:∀{g:aa},g<:+r->au g≠ .eof->r≠[]:=by rintro g s2 I rfl;have:g=[]:=List.suffix_nil.1 s2;subst this;exact I rfl
   cases arI:(no||decide (k>0)) with
   |true=>
    have M:(bif no then true else decide (0<(k:Int)))=true:=by grind
    refine aT.dV ?_ (yA M);refine aT.tst c2.k (RI e c) h λr1 qa s1 q i1=>?_;dsimp only;rw[M];simp only[aK,Jf];by_cases hf:au r1= .eof
    ·rw[bm hf,hf,YN];by_cases aG:c= .text
     ·rw[bm aG];simp only[aG,bx,aK];exact aT.inr s1 q rfl
     ·rw[aW aG];simp only[aG,bF,aS];have kA:r1=[]:=by
       cases r1 with
       |nil=>rfl
       |cons b u=>exfalso;have uA:(if b=10 then Tok.line else if br (b::u)≠[] then .op (br (b::u)) else .word (c4 (b::u)).1 (c4 (b::u)).2)=Tok.eof:=hf;grind
      subst kA;exact Sf [] pd _ _ q (YQ false n pd) ⟨_,_,rfl⟩
    ·rw[aW hf];cases yD:dR c (au r1) with
     |true=>simp only[aK,cG];exact aT.inr s1 q rfl
     |false=>simp only[aS,eC,cm];exact mc r1 (pF s1 hf) s1 q
   |false=>
    have M:(bif no then true else decide (0<(k:Int)))=false:=by grind
    refine aT.dV ?_ (XV (by grind));dsimp only;rw[M];simp only[aS,Bool.false_and,eC,cm];cases F:bu r with
    |none=>rw[dc (nd:=(cO [] pd [120]).1) (ds:=(cO [] pd [120]).2) (op:=[]) (by rw[iw F];rfl)];exact Sf r pd _ _ h (YP false n F) ⟨_,_,rfl⟩
    |some r1=>
     rw[aY (cA F)];have s1:=dT F;by_cases hf:au r1= .eof
     ·rw[bm hf];have kA:r1=[]:=by
       cases r1 with
       |nil=>rfl
       |cons b u=>exfalso;have uA:(if b=10 then Tok.line else if br (b::u)≠[] then .op (br (b::u)) else .word (c4 (b::u)).1 (c4 (b::u)).2)=Tok.eof:=hf;grind
      subst kA
      have e2:∃nd ds,mF false n r pd= .more [] nd ds:=by rw[YO false n F];simp[YQ]
      by_cases aG:c= .text
      ·grind
      ·rw[aW aG];exact Sf r pd _ _ h e2 ⟨_,_,rfl⟩
     ·rw[aW hf];have:=mc r (pF s1 hf) fK h;have a1:ae (mF false n) (λ_=>ae (bP []) (hQ c k)) r1 pd=ae (mF false n) (λ_=>ae (bP []) (hQ c k)) r pd:=by grind[YO,ae]
      rw[a1];exact this
 exact O bC 0 r1 aF (lk (lF (eI q.sfx) q.bY)) (by have:=eI q.sfx;have:=q.bY;omega) q
theorem akX{k n:Nat}(hA:vH (kz k) n):w4 (kz (k+1)) n:=⟨λe c no aG bd=>by have:=YR hA bd c no (.inl aG);intro r pd h;rw[YM];exact this r pd h⟩
theorem iY:∀(k n:Nat),n<=30->(2*n+1<=k->Cs (kz k) n)/\(2*n+2<=k->LZ (kz k) n/\w4 (kz k) n):=by
 intro k;induction k with
 |zero=>omega
 |succ k b=>
  have a:∀n,n<=30->2*n<=k->Below (kz k) n:=λn ax h=>
   ⟨ax,λm hm=>((b m (by omega)).2 (by omega)).1,λm hm=>((b m (by omega)).2 (by omega)).2⟩
  intro n ax;refine⟨λh=>aj4 (a n ax (by omega)),λh=>⟨aj5 (a n ax (by omega)) ((b n ax).1 (by omega)),akX λm hm=>?_⟩⟩;exact {toBelow:=a m (by omega) (by omega),u0:=(b m (by omega)).1 (by omega)}
theorem akY{S:aa}(dd:S.length<=1000000):aT ⟨S,0,[],0⟩ S (hO false 30 S) (λa r pd=>((a:Int),(⟨S,0,[],0⟩:cH).st r pd)) (sc.kg (S,0,[],0,[],0) 0 true):=by
 have b:dP ⟨S,0,[],0⟩ S []:=⟨dd,fK,by simp,by simp⟩
 have hk:∃k,bC=k+1/\62<=k:=by
  refine⟨bC-1,?_,?_⟩
  ·rw[gg]
  simp[gg]
 obtain⟨k,hk,c⟩:=hk;have hA:vH (kz k) 30:=by intro m hm;exact {le:=by omega,u1:=λj d=>((iY k j (by omega)).2 (by omega)).1,ls:=λj d=>((iY k j (by omega)).2 (by omega)).2,u0:=(iY k m hm).1 (by omega)}
 have:=YR hA (e:=⟨S,0,[],0⟩) (show(0:Int)=30- ((30:Nat):Int) by decide) .text true (.inr rfl) S [] b;unfold hO;rw[YM];have f:(⟨S,0,[],0⟩:cH).st S []=(S,0,[],0,[],0):=by show(S,ay S S,([]:aq),(0:Int),([]:bs),(0:Int))=_;rw[Ii]
 rw[f] at this;have g:sc.kg (S,0,[],0,[],0) 0 true=D5 (kz k) (S,0,[],0,[],0) 0 true:=by unfold sc;rw[hk];rfl
 rw[g];exact this
def dv(s:aa):aa:=if s.getLast?=some 10 then s else s++[10]
theorem ak0(s:aa)(d:s.length<=1000000):H3 s [10]=some (decide (s.getLast?=some 10)):=by
 unfold H3;rcases List.eq_nil_or_concat s with rfl|⟨t,b,rfl⟩
 ·decide
 ·rw[List.concat_eq_append] at*;have hl:(t++[b]).length=t.length+1:=by simp
  have a:W (((t++[b]).length:Int)- (([10]:aa).length:Int))=(t.length:Int):=by grind[dU,List.length_singleton]
  simp only[a];have c:b9 (t++[b]) (t.length:Int) ((t++[b]).length:Int)=[b]:=by simp[b9]
  rw[c,b8 (by omega)];have ad:(([10]:aa).length:Int)<=((t++[b]).length:Int):=by grind
  simp_all
theorem ak1(s:aa)(a:s.length<=1000000):(((s.length+([10]:aa).length:Nat):Int)<=9223372036854775807):=by grind
theorem YW(s:aa)(a:s.length<=1000000):a8 (((s.length+([10]:aa).length:Nat):Int)<=9223372036854775807) (some (s++[10]))=some (s++[10]):=by exact bm (ak1 s a)
theorem ak2(s:aa)(a:s.length<=1000000)(b:Bool):(av (av (some b) λ(c:Bool)=>some c) λ(d:Bool)=>
 (bif d then
 some s
 else
 (a8 (((s.length+([10]:aa).length:Nat):Int)<=9223372036854775807)<|
 some (s++([10]:aa)))))=some (bif b then s else s++[10]):=by
 cases b with
 |true=>rfl
 |false=>exact(aO (aO rfl)).trans ((aS _ _).trans (YW s a))
theorem YX(s:aa)(a:s.length<=1000000):Ca s=some (dv s):=by unfold Ca Lt;rw[ak0 s a,ak2 s a];simp[dv,bm,decide_eq_true,aW,e4]
theorem YY(s:aa)(c:(dv s).length<=1000000):match hO false 30 (dv s) with
  | .ok a _ _=>z9 s=some (((0:Int),((dv s).length:Int)),([]:bs),(a:Int))
  | .more op _ _=>z9 s=some (((1:Int),((dv s).length:Int)),op,(0:Int))
  | .bad r=>r<:+dv s/\∃op,z9 s=some (((2:Int),ay (dv s) r),op,(0:Int))
  | .deep _=>True:=by
 have hl:s.length<=(dv s).length:=by grind[dv]
 have h:=akY c;unfold z9;rw[YX s (by omega),aO rfl];cases aC:hO false 30 (dv s) with
 |ok a r pd=>rw[aC] at h;obtain⟨ad,b,d⟩:=h;simp only;rw[d];rfl
 |more op nd ds=>rw[aC] at h;obtain⟨st,ad,b⟩:=h;grind
 |bad r=>rw[aC] at h;obtain⟨ad,st,b⟩:=h;grind
 |deep q=>trivial
end Go.Eng
namespace Go.Eng
def ei(pd:aq):Nat:=(lB pd).length
theorem YZ:∀(a b:aq),lB (a++b)=lB a++lB b
 |[],b=>rfl
 |d::a,b=>by simp[lB,YZ]
theorem Y0(a b:aq):ei (a++b)=ei a+ei b:=by simp[ei,YZ]
theorem As:∀(x nd:aa)(ds:aq),(cO nd ds x).1.length+ei (cO nd ds x).2=nd.length+ei ds+x.length
 |[],nd,ds=>rfl
 |b::x,nd,ds=>by
  unfold cO;split
  ·rw[As x];grind[List.length_append,List.length_cons,ei,lB,List.length_nil]
  ·rw[As x];simp only[C2,mi,C3];omega
def dZ(c:Nat){α:Type}(r:aa)(pd:aq):dt α->Prop
 | .ok _ r' a=>ei a+100*r'.length<=ei pd+100*r.length
 | .more _ nd ds=>nd.length+ei ds<=ei pd+100*r.length+c
 | .bad _=>True
 | .deep _=>True
def aI(c:Nat){α:Type}(f:ak α):Prop:=∀r pd,dZ c r pd (f r pd)
section
theorem aI.mono{α:Type}{c b:Nat}{f:ak α}(h:aI c f)(aG:c<=b):aI b f:=by
 intro r pd;have:=h r pd;cases hm:f r pd with
 |more op nd ds=>grind[dZ]
 |ok a r1 d=>rw[hm] at this;exact this
 |bad _=>trivial
 |deep _=>trivial
theorem aI.ae{α β:Type}{c:Nat}{m:ak α}{k:α->ak β}(hm:aI c m)(hk:∀a,aI c (k a)):aI c (Go.Eng.ae m k):=by
 intro r pd;unfold Go.Eng.ae;have:=hm r pd;cases h:m r pd with
 |ok a r1 b=>rw[h] at this;simp only[dZ] at this⊢;have d:=hk a r1 b;grind[dZ]
 |more op nd ds=>rw[h] at this;exact this
 |bad _=>trivial
 |deep _=>trivial
theorem aI.aM{α:Type}{c:Nat}{m:ak α}(h:aI c m)(x:aa):aI (c+x.length) (m.aM x):=by
 intro r pd;unfold ak.aM;have:=h r pd;cases hm:m r pd with
 |more op nd ds=>grind[dZ,As]
 |ok a r1 b=>rw[hm] at this;exact this
 |bad _=>trivial
 |deep _=>trivial
theorem aI.named{α:Type}{c:Nat}{m:ak α}(h:aI c m)(x:aa):aI c (m.named x):=by
 intro r pd;unfold ak.named;have:=h r pd;cases hm:m r pd with
 |more op nd ds=>rw[hm] at this;exact this
 |ok a r1 b=>grind
 |bad _=>trivial
 |deep _=>trivial
theorem aI.b6{α:Type}{c:Nat}{x:aa}(h:x.length<=c):aI c (Go.Eng.b6 x:ak α):=by intro r pd;grind[Go.Eng.b6,dZ,As,List.length_nil]
theorem aI.bK{α:Type}{c:Nat}:aI c (Go.Eng.bK:ak α):=λr pd=>trivial
theorem aI.ret{α:Type}{c:Nat}(a:α):aI c (aU a):=λr pd=>cX _
theorem aI.ite{α:Type}{c:Nat}{p:Prop}[Decidable p]{f g:ak α}(hf:aI c f)(bq:aI c g):aI c (if p then f else g):=by grind
theorem aI.h4{c:Nat}{f:ak Unit}(hf:∀r pd,match f r pd with| .ok _ r' b=>r'.length<=r.length/\b=pd| .more _ nd ds=>nd.length<=c/\ds=pd|_=>True):aI c f:=by
 intro r pd;have:=hf r pd;cases hm:f r pd with
 |ok a r1 d=>rw[hm] at this;obtain⟨ad,rfl⟩:=this;grind[dZ]
 |more op nd ds=>rw[hm] at this;obtain⟨ad,rfl⟩:=this;grind[dZ]
 |bad _=>trivial
 |deep _=>trivial
theorem aI.dg{c:Nat}(k:Nat):aI c (bZ k):=aI.h4 λr pd=>⟨by simp,rfl⟩
theorem aI.dD{c:Nat}{x:aa}(h:x.length<=c):aI c (bP x):=by
 intro r pd;cases a:bu r with
 |none=>rw[iw a];exact aI.b6 (α:=Tok) h r pd
 |some r'=>rw[cA a];have:=(dT a).length_le;grind[dZ]
theorem aI.rep{σ α:Type}{c:Nat}{f:σ->ak (σ⊕α)}(hf:∀s,aI c (f s))(s:σ):aI c (ca f s):=by
 have d:∀(N:Nat)(s:σ)(r:aa)(pd:aq),r.length<=N->dZ c r pd (ca f s r pd):=by
  intro N;induction N with
  |zero=>
   intro s r pd g;rw[cF];have:=hf s r pd;unfold cN;cases hm:f s r pd with
   |ok x r1 e=>
    rw[hm] at this;cases x with
    |inl s'=>simp only;rw[aW (by omega)];trivial
    |inr a=>exact this
   |more _ _ _=>rw[hm] at this;exact this
   |bad _=>trivial
   |deep _=>trivial
  |succ N h=>
   intro s r pd g;rw[cF];have:=hf s r pd;unfold cN;cases hm:f s r pd with
   |ok x r1 e=>
    rw[hm] at this;cases x with
    |inl s'=>
     simp only[dZ] at this;simp only;split
     ·have i:=h s' r1 e (by omega);cases j:ca f s' r1 e with
      |ok b k l=>grind[dZ]
      |more op nd ds=>grind[dZ]
      |bad _=>trivial
      |deep _=>trivial
     ·trivial
    |inr a=>exact this
   |more _ _ _=>rw[hm] at this;exact this
   |bad _=>trivial
   |deep _=>trivial
 exactλr pd=>d _ s r pd (cX _)
theorem aI.exp{c:Nat}(b:Tok->Bool)(k:Nat):aI c (m2 b k):=(aI.dD (by simp)).ae λt=>aI.ite (aI.b6 (by simp)) (aI.ite (aI.dg _) aI.bK)
theorem aI.jI{c:Nat}(o:aa):aI c (Go.Eng.jI o):=aI.exp _ _
theorem aI.cV{c:Nat}(o:aa):aI c (Go.Eng.cV o):=aI.exp _ _
theorem Sg:∀(pd:aq)(t nd:aa),lY pd t= .inr nd->nd.length<=ei pd
 |[],t,nd,h=>by cases h
 |d::ds,t,nd,h=>by
  unfold lY at h;split at h
  ·have:=Sg ds _ nd h;grind[ei,lB,List.length_append,List.length_cons]
  ·cases h;exact cX _
theorem aI.nl{c:Nat}:aI c jb:=by
 intro r pd;cases r with
 |nil=>exact cX _
 |cons b t=>
  unfold jb;simp only;cases a:lY pd t with
  |inl r'=>have:=((vw pd t [] r' a).1).length_le;grind[dZ,ei,lB,List.length_nil,List.length_cons]
  |inr nd=>have:=Sg pd t nd a;grind[dZ,ei,lB,List.length_nil]
theorem aI.lines{c:Nat}:aI c cS:=aI.rep (λ_=>(aI.dD (by simp)).ae λt=>aI.ite (aI.nl.ae λ_=>aI.ret _) (aI.ret _)) _
theorem aI.part{D:ak Unit}(hD:aI 10 D){dq:Option (ak Unit)}(d:∀q,dq=some q->aI 50 q):aI 11 (cC D dq):=by
 intro r pd;cases r with
 |nil=>exact cX _
 |cons b t=>
  have e:∀(f:aa->Option aa)(x:UInt8),(∀r q,f r=some q->q.length<=r.length)->dZ 11 (b::t) pd (jq f [x] t pd):=by grind[jq,dZ,List.length_cons,List.length_nil]
  unfold cC;simp only;split
  ·grind[dZ,List.length_drop,List.length_cons]
  ·split
   ·exact e _ _ λr q g=>(c r q g)
   ·split
    ·exact hD.mono (by decide) _ _
    ·cases dq with
     |none=>grind[dZ,List.length_cons]
     |some q=>
      simp only;split
      ·grind[Nat.le_of_lt,yt]
      ·split
       ·have:=d q rfl t pd;cases hm:q t pd with
        |ok a r1 i=>grind[dZ,List.length_cons]
        |more op nd ds=>grind[dZ,List.length_cons]
        |bad _=>trivial
        |deep _=>trivial
       grind[dZ,List.length_cons]
where
 c:∀(r q:aa),gX r=some q->q.length<=r.length:=by
  intro r q h
  have:∀(n:Nat)(r q:aa),r.length<=n->gX r=some q->q.length<=r.length:=by
   intro n;induction n with
   |zero=>simp_all[nw,Nat.le_zero,gX]
   |succ n j=>
    intro r q ax h;cases r with
    |nil=>grind
    |cons b t=>unfold gX at h;grind
  exact this _ r q (cX _) h
theorem aI.Cm{p:ak Unit}{n:Nat}(aC:aI n p)(c:UInt8):aI n (jc c p):=by
 refine aI.rep (λ_=>?_) _;intro r pd;cases r with
 |nil=>exact aI.b6 (α:=Unit⊕Unit) (by simp) [] pd
 |cons b t=>
  simp only;split
  ·grind[dZ,List.length_cons]
  ·exact(aC.ae (λ_=>aI.ret _)) _ _
end
theorem dZ.mono{c:Nat}{α:Type}{r0 r:aa}{b pd:aq}{x:dt α}(h:dZ c r pd x)(ad:ei pd+100*r.length<=ei b+100*r0.length):dZ c r0 b x:=by
 cases x with
 |ok a r1 d=>grind[dZ]
 |more op nd ds=>grind[dZ]
 |bad _=>trivial
 |deep _=>trivial
theorem dZ.pO{c b:Nat}{α:Type}{r:aa}{pd:aq}{x:dt α}(h:dZ c r pd x)(ad:c<=b):dZ b r pd x:=by
 cases x with
 |ok a r1 d=>exact h
 |more op nd ds=>grind[dZ]
 |bad _=>trivial
 |deep _=>trivial
theorem dZ.less{c b k:Nat}{α:Type}{r0 r:aa}{pd:aq}{x:dt α}(h:dZ c r pd x)(hl:r.length+k<=r0.length)(aG:c<=b+100*k):dZ b r0 pd x:=by
 cases x with
 |ok a r1 d=>grind[dZ]
 |more op nd ds=>grind[dZ]
 |bad _=>trivial
 |deep _=>trivial
theorem dZ.ae{c:Nat}{α β:Type}{m:ak α}{k:α->ak β}{r v:aa}{pd:aq}(h:dZ c r pd (m v pd))(hk:∀a,aI c (k a)):dZ c r pd (Go.Eng.ae m k v pd):=by
 unfold Go.Eng.ae;cases hm:m v pd with
 |ok a r1 b=>rw[hm] at h;have:=hk a r1 b;exact this.mono (by grind[dZ])
 |more op nd ds=>rw[hm] at h;exact h
 |bad _=>trivial
 |deep _=>trivial
theorem aI.Sh{c a:Nat}{α:Type}{k:Nat}{f:ak α}(hf:aI c f){r:aa}{pd:aq}(hl:k<=r.length)(aG:c<=a+100*k):dZ a r pd (Go.Eng.ae (bZ k) (λ_=>f) r pd):=
 (hf (r.drop k) pd).less (by grind) aG
section
variable{D:ak Unit}(hD:aI 10 D)
include hD
theorem aI.double:aI 50 (eH D):=((((aI.Cm (n:=11) (aI.part hD (dq:=none) (λq h=>by cases h)) 34)).aM [34]).named [34]).mono (by decide)
theorem aI.yy:aI 11 (cC D (some (eH D))):=aI.part hD λq h=>by grind[aI.double]
theorem aI.param:aI 12 (qJ D):=(aI.Cm (aI.yy hD) 125).aM [125]
theorem aI.cP:aI 11 (Go.Eng.cP D):=by
 refine aI.rep (λ_=>?_) _;intro r pd;cases r with
 |nil=>exact aI.b6 (α:=Unit⊕Unit) (by simp) [] pd
 |cons b t=>
  simp only;split
  ·exact cX _
  ·exact((aI.yy hD).ae (λ_=>aI.ret _)) _ _
theorem aI.jH{x:aa}(a:x.length<=11):aI 11 (Go.Eng.jH D x):=(aI.dD a).ae λt=>by grind[aI.b6,aI.cP,aI.bK]
omit hD in
theorem ak4{r:aa}{x:aa×aa×aa}(h:dm r=some x):x.1.length+x.2.1.length<=r.length+1/\x.2.2.length<=1:=by
 have a:=Yd _ r (cX _);cases aG:gd r with
 |none=>grind
 |some y=>
  obtain⟨q,c⟩:=y;rw[aG] at a;obtain⟨w,e,aH⟩:=a;rw[h] at aH;have f:=Yg _ _ _ aG;cases b:dl (w++c) 0 with
  |none=>grind
  |some d=>rw[b] at aH;cases aH;have:=XO _ _ (cX _) 0 d b;grind
omit hD in
theorem aI.sg{tabs:Bool}{r0 v:aa}{pd:aq}(hl:v.length+1<=r0.length):dZ 10 r0 pd (hi tabs v pd):=by
 have b:∀d:aa,ei (pd++[(d,tabs)])=ei pd+d.length+1:=by intro d;rw[Y0];grind[ei,lB]
 have ad:dZ 10 r0 pd (.more [] [120] (pd++[([120],tabs)]):dt Unit):=by grind[dZ,List.length_cons,List.length_nil]
 unfold hi;cases a:bu v with
 |none=>exact ad
 |some r'=>
  have c:=(dT a).length_le;simp only;cases e:au r' with
  |eof=>exact ad
  |line=>trivial
  |op o=>trivial
  |word w p=>
   simp only;cases aH:dm r' with
   |none=>trivial
   |some x=>obtain⟨d,q,f⟩:=x;obtain⟨g,h⟩:=ak4 aH;have i:=(Q_ _ _ _ (cX _) aH).length_le;grind[dZ,List.length_nil]
theorem aI.je:aI 11 (dy D):=by
 intro r pd;unfold dy;cases d:bu r with
 |none=>
  have:fF r pd=Go.Eng.b6 [] r pd:=by grind[fF]
  rw[dc (nd:=(cO [] pd []).1) (ds:=(cO [] pd []).2) (op:=[]) this];exact aI.b6 (α:=Bool) (x:=[]) (by simp) r pd
 |some r'=>
  have f:=(dT d).length_le;have g:(r'.dropWhile cb).length<=r'.length:=(Ch).length_le;by_cases e:eV (br (r'.dropWhile cb))=true
  ·have a:fF r pd= .ok (some (br (r'.dropWhile cb))) ((r'.dropWhile cb).drop (br (r'.dropWhile cb)).length) pd:=by simp_all[fF,bm]
   rw[aY a];have ad:=RZ e;have h:=Q6 (r:=r'.dropWhile cb);generalize r'.dropWhile cb=q at*;have hl:(q.drop (br q).length).length+1<=r.length:=by grind
   generalize q.drop (br q).length=v at*;simp only;refine dZ.ae ?_ λ_=>aI.ret _;by_cases b:br q=[60,60]
   ·rw[bm b];exact(aI.sg (tabs:=false) (pd:=pd) hl).pO (by decide)
   ·rw[aW b];by_cases c:br q=[60,60,45]
    ·rw[bm c];exact(aI.sg (tabs:=true) (pd:=pd) hl).pO (by decide)
    ·rw[aW c];exact(aI.jH hD (by decide) v pd).less hl (by decide)
  ·have a:fF r pd= .ok none r' pd:=by simp_all[fF,aW]
   rw[aY a];show ei pd+100*r'.length<=ei pd+100*r.length;omega
theorem aI.mA:aI 11 (gO D):=aI.rep (λ_=>(aI.je hD).ae λb=>aI.ret _) _
theorem aI.simple(fr:Bool):aI 11 (hv fr D):=aI.rep (λ_=>(aI.je hD).ae λb=>aI.ite (aI.ret _) ((aI.dD (by simp)).ae λt=>by
 cases t with
 |word _ _=>grind[aI.cP,aI.ae,aI.ret]
 |op o=>simp[aI.ite,aI.bK,aI.ret]
 |_=>simp[aI.ret])) _
end
theorem aI.Mh{c:Nat}(x:aa)(h:x.length<=c):aI c (cS.aM x):=((aI.lines (c:=0)).aM x).mono (by omega)
theorem aI.pipe{da:ak Unit}(h:aI 50 da):aI 50 (fi da):=(aI.dD (by decide)).ae λt=>(aI.ite (aI.dg _) (aI.ret _)).ae λ_=>h.ae λ_=>
 aI.rep (λ_=>(aI.dD (by simp)).ae λt=>aI.ite ((aI.dg _).ae λ_=>(aI.Mh _ (by decide)).ae λ_=>h.ae λ_=>aI.ret _) (aI.ret _)) _
theorem aI.pB{a:ak Unit}(h:aI 50 a):aI 50 (hj a):=h.ae λ_=>
 aI.rep (λ_=>(aI.dD (by simp)).ae λt=>aI.ite ((aI.dg _).ae λ_=>(aI.Mh _ (by decide)).ae λ_=>h.ae λ_=>aI.ret _) (aI.ret _)) _
theorem aI.list{ao:ak Unit}(h:aI 50 ao)(c:Ctx)(no:Bool):aI 50 (od ao c no):=(aI.Mh _ (by grind)).ae λ_=>aI.rep (λk=>(aI.dD (by grind)).ae λt=>
 aI.ite (aI.ite (aI.ret _) (aI.b6 (by grind))) (aI.ite (aI.ret _) (h.ae λ_=>(aI.dD (by simp)).ae λt=>by
  cases t with
  |eof=>simp[aI.ret]
  |line=>exact aI.lines.ae λ_=>aI.ret _
  |word _ _=>exact aI.bK
  |op o=>exact aI.ite ((aI.dg _).ae λ_=>aI.lines.ae λ_=>aI.ret _) (aI.ite (aI.ret _) aI.bK)))) _
structure yI(l:dS):Prop where
 ls:∀c no,aI 50 (l.ls c no)
 pm:aI 12 l.pm
 cp:∀r pd,hs (au r)=true->dZ 50 r pd (l.cp (au r) r pd)
 rd:aI 11 l.rd
 dl:aI 10 l.dl
section
variable{l:dS}(hl:yI l)
include hl
theorem aI.body{x:aa}(a:x.length<=60):aI 60 (iI l x):=(((aI.cV (c:=0) gN).aM x).mono (by omega)).ae λ_=>(((hl.ls _ _).aM _).mono (by decide)).ae λ_=>aI.cV _
theorem aI.cond:aI 70 (qM l):=aI.rep (λ_=>(((hl.ls _ _).aM _).mono (by decide)).ae λ_=>(aI.cV _).ae λ_=>(((hl.ls _ _).aM _).mono (by decide)).ae λ_=>(aI.dD (by simp)).ae λt=>
 aI.ite ((aI.cV _).ae λ_=>aI.ret _) (aI.ite ((aI.cV _).ae λ_=>(((hl.ls _ _).aM _).mono (by decide)).ae λ_=>(aI.cV _).ae λ_=>aI.ret _) ((aI.cV _).ae λ_=>aI.ret _))) _
theorem aI.words:aI 11 (pz l.dl):=aI.rep (λ_=>(aI.dD (by simp)).ae λt=>by
 cases t with
 |eof=>simp[aI.b6]
 |word _ _=>exact(aI.cP hl.dl).ae λ_=>aI.ret _
 |line=>simp[aI.ret]
 |op o=>simp[aI.ite,aI.dg,aI.ae,aI.ret,aI.bK]) _
theorem aI.for_:aI 60 (pA l l.dl):=(aI.dD (by decide)).ae λt=>by
 cases t with
 |eof=>exact aI.b6 (by decide)
 |word w p=>
  cases p with
  |true=>
   refine aI.ite ((aI.dg _).ae λ_=>((aI.aM (c:=11) ((aI.dD (by simp)).ae λt=>?_) eh).mono (by decide)).ae λ_=>aI.body hl (by decide)) aI.bK
   exact aI.ite ((aI.dg _).ae λ_=>aI.lines.ae λ_=>aI.ret _) (aI.lines.ae λ_=>(aI.dD (by simp)).ae λt=>
    aI.ite ((aI.dg _).ae λ_=>(aI.words hl).ae λ_=>aI.lines.ae λ_=>aI.ret _) (aI.ret _))
  |false=>exact aI.bK
 |_=>exact aI.bK
theorem aI.wX:aI 12 (kO l.dl):=aI.rep (λ_=>(aI.dD (by decide)).ae λt=>by
 cases t with
 |eof=>simp[aI.b6]
 |word _ _=>
  refine((aI.cP hl.dl).aM [41]).ae λ_=>(aI.dD (by decide)).ae λt=>?_;cases t with
  |op o=>exact aI.ite ((aI.dg _).ae λ_=>aI.ret _) (aI.ite ((aI.dg _).ae λ_=>aI.ret _) aI.bK)
  |eof=>simp[aI.b6]
  |_=>exact aI.bK
 |_=>exact aI.bK) _
theorem aI.items:aI 50 (nn l l.dl):=aI.rep (λ_=>aI.lines.ae λ_=>(aI.dD (by simp)).ae λt=>aI.ite (aI.b6 (by simp)) (aI.ite ((aI.dg _).ae λ_=>aI.ret _)
 ((aI.ite (aI.dg _) (aI.ret _)).ae λ_=>((aI.wX hl).mono (by decide)).ae λ_=>(hl.ls _ _).ae λ_=>(aI.dD (by simp)).ae λt=>aI.ite ((aI.dg _).ae λ_=>aI.ret _) (aI.ret _)))) _
theorem aI.wY:aI 60 (qN l l.dl):=(aI.dD (by decide)).ae λt=>by
 cases t with
 |eof=>exact aI.b6 (by decide)
 |word _ _=>refine((aI.aM (c:=11) ((aI.cP hl.dl).ae λ_=>aI.lines.ae λ_=>(aI.dD (by simp)).ae λt=>aI.ite (aI.b6 (by simp)) (aI.ret _)) ([32]++fl++[10]++ep)).mono (by decide)).ae λt=>?_;exact aI.ite ((aI.dg _).ae λ_=>((aI.items hl).aM _).mono (by decide)) aI.bK
 |_=>exact aI.bK
theorem dZ.kind{r:aa}{pd:aq}(aG:hs (au r)=true):dZ 50 r pd (hN l (au r) r pd):=by
 obtain⟨c,d⟩:=YC aG;have e:(mx (au r)).length<=r.length:=by
  cases a:au r with
  |eof=>rw[a] at aG;cases aG
  |line=>rw[a] at aG;cases aG
  |op o=>
   have:=(ic a).2.1.length_le;rw[a] at aG;have b:o=[40]:=by grind[hs]
   subst b;exact this
  |word w p=>
   rw[a] at aG;cases p with
   |false=>cases aG
   |true=>exact(qd a).1.length_le
 rw[YD aG];have hk:aI 70 (Cy l (au r)):=by
  unfold Cy;cases a:au r with
  |op o=>exact(((hl.ls _ _).aM _).mono (by decide)).ae λ_=>aI.jI _
  |word w p=>refine aI.ite ((((hl.ls _ _).aM _).mono (by decide)).ae λ_=>aI.cV _) (aI.ite (aI.cond hl) (aI.ite ((aI.for_ hl).mono (by decide)) (aI.ite ((aI.wY hl).mono (by decide)) ?_)));exact(((hl.ls _ _).aM _).mono (by decide)).ae λ_=>(aI.body hl (by decide)).mono (by decide)
  |_=>exact aI.bK
 exact(hk _ pd).less (k:=1) (by grind) (by decide)
end
theorem aI.Si:∀(t:aa)(d n:Nat),hL d t= .more n->n<=d+t.length+2
 |[],d,n,h=>by grind[hL]
 |b::t,d,n,h=>by have a:=aI.Si t;unfold hL at h;grind
theorem aI.vC{lo:Option dS}(hl:∀l,lo=some l->yI l):aI 10 (dH lo):=by
 intro r pd;unfold dH;split
 ·rename_i h;rw[C1] at h;obtain⟨t,rfl⟩:=h;show dZ 10 _ pd (nk t pd);unfold nk;cases a:hL 0 t with
  |ok q=>have:=(Ae 0 t q a).length_le;grind[dZ,List.length_append]
  |more n=>have:=aI.Si t 0 n a;grind[dZ,List.length_append,List.length_replicate,List.length_cons,List.length_nil]
  |bad q=>trivial
 ·split
  ·rename_i h;rw[C1] at h;have b:=h.length_le;cases lo with
   |none=>trivial
   |some l=>have c:=hl l rfl;have aC:aI 60 (uq l):=((((c.ls _ _).aM _).mono (by decide)).named _).ae λ_=>aI.jI _;exact aI.Sh aC (k:=2) (by omega) (by decide)
  ·split
   ·rename_i h;rw[C1] at h;have b:=h.length_le;cases lo with
    |none=>trivial
    |some l=>exact aI.Sh ((hl l rfl).pm.named _) (k:=2) (by omega) (by decide)
   grind[dZ,List.length_drop]
theorem aI.function{fr:Bool}{lo:Option dS}(hl:∀l,lo=some l->yI l){u:aa}{pd:aq}:dZ 50 (40::u) pd (l1 fr lo (40::u) pd):=by
 unfold l1;cases lo with
 |none=>trivial
 |some l=>
  have d:=hl l rfl;dsimp only;split
  ·have ax:∀{α:Type}{c:Nat}{m:ak α}{r:aa}{pd:aq}{x:aa},dZ c r pd (m r pd)->dZ c r pd (m.named x r pd):=by
    intro α c m r pd x h;unfold ak.named;cases hm:m r pd with
    |more op nd ds=>rw[hm] at h;exact h
    |ok a r1 e=>grind
    |bad _=>trivial
    |deep _=>trivial
   refine ax ?_;refine aI.Sh (c:=60) (k:=1) ?_ (by simp) (by decide);refine(aI.dD (by decide)).ae λt=>aI.ite (aI.b6 (by decide)) (aI.ite ((aI.dg _).ae λ_=>(aI.Mh _ (by decide)).ae λ_=>?_) aI.bK);intro r pd;cases b:bu r with
   |none=>rw[dc (iw b)];exact aI.b6 (α:=Unit) (by decide) r pd
   |some r'=>
    rw[aY (cA b)];have f:=(dT b).length_le;refine dZ.mono (r:=r') (pd:=pd) ?_ (by omega);split
    ·exact aI.b6 (α:=Unit) (by decide) _ _
    ·split
     ·rename_i aG;exact(dZ.ae ((d.cp r' pd aG).pO (by decide)) λ_=>aI.ite (d.rd.mono (by decide)) (aI.ret _))
     ·trivial
  ·trivial
theorem aI.command{fr:Bool}{lo:Option dS}(hl:∀l,lo=some l->yI l):aI 50 (gk fr lo (dH lo)):=by
 have hD:=aI.vC hl;intro r pd;unfold gk;cases c:bu r with
 |none=>rw[dc (iw c)];exact aI.b6 (α:=Unit) (by decide) r pd
 |some r'=>
  rw[aY (cA c)];have f:=(dT c).length_le;refine dZ.mono (r:=r') (pd:=pd) ?_ (by omega);by_cases ad:au r'= .eof
  ·rw[bm ad];exact aI.b6 (α:=Unit) (by decide) _ _
  rw[aW ad];by_cases aG:hs (au r')=true
  ·rw[bm aG];refine dZ.ae ?_ λ_=>(aI.mA hD).mono (by decide);cases lo with
   |none=>trivial
   |some l=>
    have:=dZ.kind (hl l rfl) aG (r:=r') (pd:=pd);show dZ 50 r' pd ((hN l (au r')).named _ r' pd);unfold ak.named;cases hm:hN l (au r') r' pd with
    |more op nd ds=>rw[hm] at this;exact this
    |ok a r1 g=>grind
    |bad _=>trivial
    |deep _=>trivial
  ·rw[aW aG];cases h:au r' with
   |eof=>grind
   |line=>trivial
   |op o=>exact aI.ite (((aI.je hD).mono (by decide)).ae λ_=>(aI.simple hD fr).mono (by decide)) aI.bK _ _
   |word w p=>
    refine aI.ite aI.bK (((aI.je hD).mono (by decide)).ae λb=>aI.ite ((aI.simple hD fr).mono (by decide)) (((aI.cP hD).mono (by decide)).ae λ_=>aI.ite ?_ ((aI.simple hD fr).mono (by decide)))) _ _;intro r pd;cases c:bu r with
    |none=>rw[dc (iw c)];exact aI.b6 (α:=Unit) (by decide) r pd
    |some e=>
     rw[aY (cA c)];have f:=(dT c).length_le;refine dZ.mono (r:=e) (pd:=pd) ?_ (by omega);by_cases d:au e= .op [40]
     ·rw[bm d];obtain⟨u,rfl⟩:=(ic d).2.1;exact dZ.ae (aI.function hl) λ_=>aI.ite (aI.ret _) ((aI.mA hD).mono (by decide))
     ·rw[aW d];exact(aI.simple hD fr).mono (by decide) _ _
theorem Y1{fr:Bool}{lo:Option dS}(hl:∀l,lo=some l->yI l)(b:Bool):yI {ls:=od (hj (fi (gk fr lo (dH lo)))),pm:=qJ (dH lo),cp:=se lo,rd:=gO (dH lo),dl:=dH lo,has:=b}:=by
 have hD:=aI.vC hl;refine⟨λc no=>aI.list (aI.pB (aI.pipe (aI.command hl))) c no,aI.param hD,λr pd aG=>?_,aI.mA hD,hD⟩;cases lo with
 |none=>trivial
 |some l=>
  have:=dZ.kind (hl l rfl) aG (r:=r) (pd:=pd);show dZ 50 r pd ((hN l (au r)).named _ r pd);unfold ak.named;cases hm:hN l (au r) r pd with
  |more op nd ds=>rw[hm] at this;exact this
  |ok a r1 d=>grind
  |bad _=>trivial
  |deep _=>trivial
theorem tm(fr:Bool):∀n,yI (aZ fr n)
 |0=>Y1 (λl h=>by cases h) false
 |n+1=>Y1 (λl h=>by cases h;exact tm fr n) true
end Go.Eng
namespace Go.Eng
open Go Go.Proofs
theorem Mi{S r:aa}(a:r<:+S):zT (ay S r) S.length=some (ay S r):=by grind[zT,ay,eI,oQ]
theorem ak5{S:aa}(dd:S.length<=1000000):∀(n:Nat)(r:aa),r.length<n->r<:+S->fixF (HI S λ_=>some (-1)) n (ay S r)=some (kS S (gb r)):=by
 intro n;induction n with
 |zero=>omega
 |succ n c=>
  intro r ax a;rw[eZ];generalize fixF (HI S _) n=k at c;unfold HI;cases r with
  |nil=>simp[ig,gb,kS]
  |cons b t=>
   have d:=iK dd a;simp only[m4 a,bx,aK];rw[b8 ⟨(hR a).1,trivial⟩];simp only[jw a,d,qQ];unfold gb;by_cases e:b=39
   ·grind[kS]
   ·simp only[e,bF,aS,cm];grind[List.length_cons,dY]
theorem ak6{S r:aa}(dd:S.length<=1000000)(a:r<:+S):BU S (ay S r)=some (kS S (gb r)):=by unfold BU a9;rw[Mi a,aO rfl];grind[ak5,lk,Nat.le_trans,eI]
theorem ak7{S:aa}(dd:S.length<=1000000):∀(n:Nat)(r:aa),r.length+1<n->r<:+S->fixF (BS S λ_=>some (-1)) n (ay S r)=some (kS S (gX r)):=by
 intro n;induction n with
 |zero=>omega
 |succ n f=>
  intro r ax a;have i:=eI a;have d:n≠0->fixF (BS S λ_=>some (-1)) n ((S.length:Int)+1)=some (-1):=by
   intro h0
   obtain⟨m,rfl⟩:∃m,n=m+1:=⟨n-1,by omega⟩
   grind[eZ,BS]
  rw[eZ];generalize fixF (BS S _) n=k at f d;unfold BS a9;cases r with
  |nil=>simp[ig,gX,kS]
  |cons b t=>
   have g:=iK dd a;have j:(b::t).length=t.length+1:=rfl;simp only[m4 a,bx,aK];rw[b8 ⟨(hR a).1,trivial⟩];simp only[jw a,g,nS,mC];unfold gX;by_cases h:b=96
   ·grind[kS]
   simp only[h,bF,aS,cm];rw[b8 ⟨(hR a).1,trivial⟩];by_cases e:b=92
   ·subst e;simp only[bx,aK,cG];cases t with
    |nil=>
     have:W (ay S []+1)=(S.length:Int)+1:=by grind[ig,dU]
     rw[this];exact d (by omega)
    |cons c u=>grind[iK,dY,List.length_cons]
   ·simp only[e,bF,aS,cm];grind[dY]
theorem ak8{S r:aa}(dd:S.length<=1000000)(a:r<:+S):zX S (ay S r)=some (kS S (gX r)):=by unfold zX a9;rw[Mi a,aO rfl];grind[ak7,eI,gg]
theorem ak9(l:aa)(hl:(l.length:Int)<=1048576)(j g:Int->Option (Int×Int))(z:∀d,j d=g d)(A:∀d,∃v,g d=some v):∀(m:Nat)(d k:Int),0<=d->d<=k->k<=2000000->(l.length:Int)-k<m->0<m->
  ∃v,fixF (Lj l j) m (d,k)=some v/\fixF (Bv l g) m (d,k)=some v:=by
 intro m;induction m with
 |zero=>omega
 |succ m o=>
  intro d k aH p B hm _;have hk:0<=k:=by omega
  simp only[fixF,Lj,Bv,a8,a9];by_cases ad:k<(l.length:Int)
  ·simp only[ad,hk,bx,aK,cG,nx];rw[dU (x:=k+1) (by omega) (by omega),dU (x:=k+2) (by omega) (by omega),dU (x:=d+1) (by omega) (by omega),dU (x:=d-1) (by omega) (by omega)];have h:0<=k+1:=by omega
   have a:=λ(e:Int)(ad:0<=e)(c:e<=k+1)=>o e (k+1) ad c (by omega) (by omega) (by omega);have u0:=a d (by omega) (by omega);have u1:=a (d+1) (by omega) (by omega);by_cases c:k+1<(l.length:Int)
   ·have f:¬k+1=(l.length:Int):=by omega
    simp only[c,f,h,bx,bF,aK,aS,cG,nx,implies_true];generalize ((at' l k).toNat:Int)=b;generalize ((at' l (k+1)).toNat:Int)=n;by_cases q:b=39
    ·grind
    by_cases r:b=34
    ·grind
    by_cases s:b=92
    ·grind
    by_cases t:b=96
    ·grind
    by_cases u:b=40
    ·grind
    by_cases i:b=41
    ·subst i;by_cases aC:0<d
     ·have w:=a (d-1) (by omega) (by omega);grind
     grind
    grind
   ·have y:((0:UInt8).toNat:Int)=0:=rfl;simp only[c,bF,aS,y,eC,false_implies,implies_true,cG];generalize ((at' l k).toNat:Int)=b;have f:k+1=(l.length:Int):=by omega
    simp only[f,bx];rw[<-f];by_cases q:b=39
    ·grind
    by_cases r:b=34
    ·grind
    by_cases s:b=92
    ·grind
    by_cases t:b=96
    ·grind
    by_cases u:b=40
    ·grind
    by_cases i:b=41
    ·subst i;by_cases aC:0<d
     ·have w:=a (d-1) (by omega) (by omega);grind
     grind
    grind
  ·simp only[ad,bF,aS];simp_all
theorem ala{S r:aa}(dd:S.length<=1000000)(a:r<:+S):Ew S (ay S r)=some (qg S (hL 0 r)):=by
 have bg:=X3 dd a;have h0:0<=ay S r:=by grind[eI,ay]
 have hle:= @oQ r S;obtain⟨v,ad,b⟩:=ak9 S (by omega) (λx=>some ((-1),(W (x+2)))) (λx=>some ((-1),(W (x+2)))) (λ_=>rfl) (λd=>⟨_,rfl⟩) bC 0 (ay S r) (by omega) h0 (by omega) (by grind[gg]) (by simp[gg]);have c:Ew S (ay S r)=some v:=by unfold Ew a9;rw[Mi a,aO rfl];exact ad
 have e:Bw S (ay S r)=some v:=by unfold Bw a9;rw[Ip a,aO rfl];exact b
 grind
theorem alb{S d:aa}{tabs:Bool}{r:aa}(dd:S.length<=1000000)(a:r<:+S):Eb S (ay S r) d tabs=some (match ni d tabs r with|some q=>ay S q|none=> -1):=by
 have bg:=XY (d:=d) (tabs:=tabs) dd a;have h0:0<=ay S r:=by grind[eI,ay]
 have hle:= @oQ r S;obtain⟨v,r1,b⟩:=ajy S d tabs (by omega) bC (ay S r) h0 hle (by grind[gg]) (by simp[gg]);have c:Eb S (ay S r) d tabs=some v:=by unfold Eb;rw[Mi a,aO rfl];exact r1
 have e:Bp S (ay S r) d tabs=some v:=by unfold Bp;rw[Ip a,aO rfl];exact b
 grind
theorem Sm{S r:aa}(dd:S.length<=1000000)(a:r<:+S):yd S (ay S r)=some (br r):=by
 have ad:¬ay S r<0:=by grind[eI,ay]
 unfold yd KW;by_cases b:(S.length:Int)<=ay S r
 ·have c:r=[]:=yz.1 (show ay S r=S.length by have:= @oQ r S;omega);simp_all[br,la,xv,List.isPrefixOf]
 ·simp only[ad,b,bF,aS];rw[aO rfl];unfold a9;show fixF (HC S (ay S r) la λ_=>some []) bC 0=_;rw[(XI S (ay S r) (by omega) (by omega) (by omega) la (by decide) (by decide) (λ_=>some []) bC 0 (by omega) (by decide) (by rw[gg];decide) (by simp[gg])).1];rw[RE a];grind[br,Lib.hasPrefix,List.isPrefixOf,List.find?,la]
theorem Mj(w:aa)(l:bs)(hl:l.length<=1000):ye w l=some (l.contains w):=by
 have a:∀(n i:Nat),l.length-i<n->i<=l.length->fixF (HE w l λ_=>some false) n (i:Int)=some ((l.drop i).contains w):=by
  intro n;induction n with
  |zero=>omega
  |succ n b=>
   intro i ax bg;rw[eZ];generalize fixF (HE w l _) n=k at b;unfold HE;by_cases c:i<l.length
   ·have d:(i:Int)<(l.length:Int):=by omega
    have e:l.drop i=at' l (i:Int)::l.drop (i+1):=by rw[Nl c];simp_all[at',aby,abB]
    simp only[d,bx,aK];rw[b8 ⟨by omega,trivial⟩,dU (by omega) (by omega),e];by_cases he:at' l (i:Int)=w
    ·grind
    ·have:=b (i+1) (by omega) (by omega);have f:(i:Int)+1=((i+1:Nat):Int):=by omega
     simp only[he,bF,aS,f];rw[this];have:(w==at' l (i:Int))=false:=by grind
     rw[List.contains_cons,this,Bool.false_or]
   grind
 unfold ye a9;have:=a bC 0 (by grind[gg]) (by omega);grind
theorem Y3(w:aa):yf w=some (qK w):=by unfold yf;rw[aO (Mj w _ (by decide))];rfl
theorem Y4(w:aa):Ec w=some (rk w):=by unfold Ec;rw[aO (Mj w _ (by decide))];rfl
theorem Fh(w:aa):vs w=some (eV w):=by unfold vs;rw[aO (Mj w _ (by decide))];rfl
structure cd where
 S:aa
 ne:Int
def cd.st(e:cd)(r:aa)(pd:aq)(tr:Bool):ah:=(e.S,ay e.S r,e.ne,pd,0,0,[],[],tr)
def cd.tt(e:cd)(pd:aq):ah:=(e.S,e.S.length,e.ne,pd,0,0,[],[],true)
structure cB(e:cd)(r:aa)(pd:aq):Prop where
 bY:e.S.length<=1000000
 nl:du e.S
 IC:e.S≠[]
 sfx:r<:+e.S
 jJ:ei pd+100*r.length<=100*e.S.length
theorem cB.mono{e:cd}{r r':aa}{pd:aq}(h:cB e r pd)(ad:r'<:+r):cB e r' pd:=
 ⟨h.bY,h.nl,h.IC,ad.trans h.sfx,by have:=h.jJ;grind⟩
structure nW(e:cd)(r0:aa)(st:ah):Prop where
 s:st.1=e.S
 lo:ay e.S r0<=st.2.1
 bg:st.2.1<=(e.S.length:Int)+1+r0.length
 nd:st.2.2.2.2.2.2.1.length+ei st.2.2.2.1<=100*e.S.length+1000
 op:st.2.2.2.2.2.2.2.1.length<=r0.length+1
def iz(q:Bool)(e:cd)(r0:aa)(nd:aa)(ds:aq)(st:ah):Prop:=
 (st.2.2.2.2.1=1/\st.2.2.2.2.2.2.1=nd/\st.2.2.2.1=ds/\nW e r0 st/\(e.S.length:Int)<=st.2.1)\/(q=true/\nd=[]/\st=e.tt ds)
def iL(e:cd)(r0:aa)(st:ah):Prop:=st.2.2.2.2.1=2/\nW e r0 st
def fW(e:cd)(r:aa)(pd:aq)(st:ah):Prop:=∃tr,st=e.st r pd tr/\(r=[]->tr=false)
def bM{α β:Type}(q:Bool)(e:cd)(r0:aa)(m:dt α)(pr:β->ah)(cv:α->aa->β->Prop)(y:Option β):Prop:=∃b,y=some b/\match m with
 | .ok a r pd=>r<:+r0/\cB e r pd/\fW e r pd (pr b)/\cv a r b
 | .more _ nd ds=>iz q e r0 nd ds (pr b)
 | .bad _=>iL e r0 (pr b)
 | .deep _=>iL e r0 (pr b)
theorem nW.mono{e:cd}{r0 r1:aa}{st:ah}(h:nW e r0 st)(ad:r0<:+r1):nW e r1 st:=by
 have:=ad.length_le;have a:ay e.S r1<=ay e.S r0:=by grind[ay]
 exact⟨h.s,by have:=h.lo;omega,by have:=h.bg;omega,h.nd,by have:=h.op;omega⟩
theorem iz.mono{q:Bool}{e:cd}{r0 r1:aa}{nd:aa}{ds:aq}{st:ah}(h:iz q e r0 nd ds st)(ad:r0<:+r1):iz q e r1 nd ds st:=by
 rcases h with⟨a,b,c,d,f⟩|h
 ·exact .inl ⟨a,b,c,d.mono ad,f⟩
 ·exact .inr h
theorem iz.up{q:Bool}{e:cd}{r0:aa}{nd:aa}{ds:aq}{st:ah}(h:iz false e r0 nd ds st):iz q e r0 nd ds st:=by
 rcases h with h|h
 ·exact .inl h
 grind
theorem iz.z{e:cd}{r0:aa}{nd:aa}{ds:aq}{st:ah}(h:iz false e r0 nd ds st):st.2.2.2.2.1=1/\st.2.2.2.2.2.2.1=nd/\st.2.2.2.1=ds/\nW e r0 st/\(e.S.length:Int)<=st.2.1:=by
 rcases h with h|h
 ·exact h
 grind
theorem iL.mono{e:cd}{r0 r1:aa}{st:ah}(h:iL e r0 st)(ad:r0<:+r1):iL e r1 st:=⟨h.1,h.2.mono ad⟩
theorem bM.mono{q:Bool}{α β:Type}{e:cd}{r0 r1:aa}{m:dt α}{pr:β->ah}{cv:α->aa->β->Prop}{y:Option β}(h:bM q e r0 m pr cv y)(ad:r0<:+r1):bM q e r1 m pr cv y:=by obtain⟨b,a,h⟩:=h;refine⟨b,a,?_⟩;grind[trans,iz.mono,iL.mono]
theorem bM.dV{q:Bool}{α β:Type}{e:cd}{r0:aa}{m:dt α}{pr:β->ah}{cv:α->aa->β->Prop}{y a:Option β}(h:bM q e r0 m pr cv y)(b:a=y):bM q e r0 m pr cv a:=b▸h
theorem bM.iy{q o:Bool}{α p s β l:Type}{C:dt p->dt s}(n:c2 C){e:cd}{r0 r:aa}{pd:aq}{m:ak α}{k:α->ak p}{pr:β->ah}{cv:α->aa->β->Prop}{i:l->ah}{cv':s->aa->l->Prop}{y:Option β}{K:β->Option l}
  (h:bM o e r0 (m r pd) pr cv y)
  (hk:∀a r1 d b,m r pd= .ok a r1 d->r1<:+r0->cB e r1 d->fW e r1 d (pr b)->cv a r1 b->bM q e r0 (C (k a r1 d)) i cv' (K b))
  (hm:∀op nd ds b,m r pd= .more op nd ds->iz o e r0 nd ds (pr b)->∃c,K b=some c/\iz q e r0 nd ds (i c))
  (t:∀b,iL e r0 (pr b)->∃c,K b=some c/\iL e r0 (i c)):
  bM q e r0 (C (Go.Eng.ae m k r pd)) i cv' (av y K):=by
 obtain⟨b,u,h⟩:=h;rw[u,aO rfl];unfold Go.Eng.ae;cases j:m r pd with
 |ok a r1 d=>grind
 |more op nd ds=>rw[j] at h;obtain⟨c,f,g⟩:=hm op nd ds b j h;rw[n.more];exact⟨c,f,g⟩
 |bad q=>rw[j] at h;obtain⟨c,f,g⟩:=t b h;rw[n.bad];exact⟨c,f,g⟩
 |deep q=>rw[j] at h;obtain⟨c,f,g⟩:=t b h;rw[n.deep];exact⟨c,f,g⟩
theorem vJ(e:cd)(r:aa)(a b c:Int)(d:aq)(f:aa)(g:bs)(h:Bool):gq (e.S,ay e.S r,a,d,b,c,f,g,h)=some (decide (r=[])):=by
 unfold gq;have:((e.S.length:Int)<=ay e.S r)↔r=[]:=by rw[<-yz (S:=e.S)];have:= @oQ r e.S;omega
 grind
theorem vK{e:cd}{r:aa}(j:r<:+e.S)(a c d:Int)(f:aq)(g:aa)(h:bs)(i:Bool):ia (e.S,ay e.S r,a,f,c,d,g,h,i)=some (r.headD 0):=by
 unfold ia;rw[vJ,aO rfl];cases r with
 |nil=>rfl
 |cons b t=>simp only[reduceCtorEq,bF,aS];simp_all[b8,hR,jw]
theorem Sn(b:UInt8):zS b=some (f_ b):=by grind[zS,f_,Ry,Ij]
theorem ID{e:cd}{r:aa}(a:e.S.length<=1000000)(b:r<:+e.S)(c d f:Int)(g:aq)(h:aa)(i:bs)(j:Bool):hr (e.S,ay e.S r,c,g,d,f,h,i,j)=some (br r):=by unfold hr;rw[Sm a b];rfl
theorem w_(e:cd)(pd:aq):e.tt pd=e.st [] pd true:=by rfl
def Fi(e:cd)(r:aa)(pd:aq)(tr:Bool)(y:Option ah):Prop:=match bu r with
 |some r'=>∃a,y=some (e.st r' pd a)/\(a=tr\/a=true)
 |none=>y=some (e.tt pd)
theorem alc{e:cd}{x0:ah}{tr:Bool}(c:x0.1=e.S){j:Int->Option ah}(dd:e.S.length<=1000000):∀(n:Nat)(r:aa),r.length<n->r<:+e.S->fixF (D8 x0 tr j) n (ay e.S r)=j (ay e.S (k_ r)):=by
 intro n;induction n with
 |zero=>omega
 |succ n d=>
  intro r ax a;rw[eZ];generalize fixF (D8 x0 tr j) n=k at d;unfold D8;rw[c];rw[vJ,aO rfl];cases r with
  |nil=>rfl
  |cons b t=>
   simp only[reduceCtorEq,bF,e3,aK];rw[b8 (λ_=>hR a),jw a,iK dd a];simp only[pD];unfold k_;by_cases f:b=10
   ·grind
   ·simp only[f,bF,e3,aK,cm];grind[List.length_cons,dY]
theorem ald{e:cd}{pd:aq}(dd:e.S.length<=1000000)(x0:ah)(m:∃r0 tr0,x0=e.st r0 pd tr0):∀(n:Nat)(r:aa)(tr:Bool),r.length<n->r<:+e.S->
  Fi e r pd tr (fixF (BQ x0 λx=>some (x0.1,x.1,x0.2.2.1,x0.2.2.2.1,x0.2.2.2.2.1,x0.2.2.2.2.2.1,x0.2.2.2.2.2.2.1,x0.2.2.2.2.2.2.2.1,x.2)) n (ay e.S r,tr)):=by
 obtain⟨r0,tr0,rfl⟩:=m;intro n;induction n with
 |zero=>omega
 |succ n d=>
  intro r tr ax a;rw[eZ];generalize fixF (BQ (e.st r0 pd tr0) _) n=k at d;unfold BQ a9;dsimp only;have he:gq ((e.st r0 pd tr0).1,ay e.S r,(e.st r0 pd tr0).2.2.1,(e.st r0 pd tr0).2.2.2.1,(e.st r0 pd tr0).2.2.2.2.1,(e.st r0 pd tr0).2.2.2.2.2.1,(e.st r0 pd tr0).2.2.2.2.2.2.1,(e.st r0 pd tr0).2.2.2.2.2.2.2.1,tr)=some (decide (r=[])):=vJ e r _ _ _ _ _ _ _;rw[he,aO rfl];unfold Fi;cases r with
  |nil=>rw[l2];exact⟨tr,rfl,.inl rfl⟩
  |cons b t=>
   have j:t.length<n:=by grind
   simp only[reduceCtorEq,bF,e3,aK];have f:(e.st r0 pd tr0).1=e.S:=rfl;rw[f];rw[b8 (hR a),jw a,Sn,aO rfl,iK dd a];by_cases g:f_ b=true
   ·rw[E1 g,g];exact d t tr j (dY a)
   have o:f_ b=false:=by grind
   rw[o];simp only[aS,mC,XP];by_cases l:b=92
   ·subst l;cases t with
    |nil=>
     rw[XS];refine⟨tr,?_,.inl rfl⟩;have h0:decide (ay e.S []<(e.S.length:Int))=false:=by simp[ig]
     simp only[bx,aK,h0,aS];rfl
    |cons c u=>
     simp only[bx,aK,m4 (dY a)];rw[b8 (λ_=>⟨(hR (dY a)).1,trivial⟩),jw (dY a)];simp only[pD];by_cases aG:c=10
     ·subst aG;have p:W (ay e.S (92::10::u)+2)=ay e.S u:=ko (w:=[92,10]) dd a;rw[p,RA];simp only[bx,aK];by_cases hu:u=[]
      ·subst hu;rw[bm rfl];have:=d [] true (by grind) List.nil_suffix;unfold Fi at this;rw[l2] at this;obtain⟨q,ad,s⟩:=this;have:q=true:=by rcases s with rfl|rfl<;>rfl
       subst this;simp only;rw[w_];exact ad
      ·rw[aW hu];have:=d u true (by grind) (dY (dY a));unfold Fi at this;grind
     ·rw[Rz aG];simp only[aG,bF,aS,show¬((92:UInt8)=35) by decide];exact⟨tr,rfl,.inl rfl⟩
   ·have v:decide (b=92)=false:=by grind
    rw[v];simp only[aS];rw[b8 (λh=>by cases h)];by_cases i:b=35
    ·subst i;rw[RB];simp only[bx,aK];have aH:fixF (D8 (e.st r0 pd tr0) tr λy=>k (y,tr)) bC (ay e.S (35::t))=k (ay e.S (k_ (35::t)),tr):=alc (e:=e) rfl dd _ _ (lk (lF (eI a) dd)) a;rw[aH];have:k_ (35::t)=k_ t:=by rfl
     rw[this];exact d _ tr (Nat.lt_of_le_of_lt (Ab t) j) ((EG t).trans (dY a))
    ·rw[RC g i l];simp only[i,bF,aS];exact⟨tr,rfl,.inl rfl⟩
theorem alf{e:cd}{r:aa}{pd:aq}{tr:Bool}(h:cB e r pd):Fi e r pd tr (g2 (e.st r pd tr)):=by unfold g2 a9;exact ald h.bY _ ⟨r,tr,rfl⟩ bC r tr (lk (lF (eI h.sfx) h.bY)) h.sfx
theorem du.h4{r S:aa}(h:du S)(a:r<:+S):du r:=by
 obtain⟨u,rfl⟩:=a;induction u with
 |nil=>exact h
 |cons b u c=>exact c h.tail
theorem Y5{r r':aa}(d:du r)(k:r≠[])(a:bu r=some r'):r'≠[]:=by
 have e:∀(n:Nat)(r r':aa),r.length<=n->du r->r≠[]->bu r=some r'->r'≠[]:=by
  intro n;induction n with
  |zero=>grind
  |succ n f=>
   intro r r' ax d k a;cases r with
   |nil=>grind
   |cons b t=>
    have l:t.length<=n:=by grind
    have g:b≠10->t≠[]:=by
     intro i h0;subst h0;rcases d with h|⟨s,h⟩
     ·cases h
     ·have:=mj List.getLast? h;grind
    by_cases i:f_ b=true
    ·rw[E1 i] at a;exact f t r' l d.tail (g (by rintro rfl;exact absurd i (by decide))) a
    by_cases o:b=35
    ·subst o;rw[RB] at a;have bd:=g (by decide);have aH:k_ t≠[]:=by
      have:∀t:aa,du t->t≠[]->k_ t≠[]:=by
       intro t;induction t with
       |nil=>simp
       |cons c u j=>
        intro m _;unfold k_;by_cases aG:c=10
        ·grind
        ·rw[aW aG];refine j m.tail ?_;rintro rfl;rcases m with h|⟨s,h⟩
         ·cases h
         ·have:=mj List.getLast? h;grind
      exact this t d.tail bd
     exact f _ r' (lF (Ab t) l) (d.tail.h4 (EG t)) aH a
    by_cases p:b=92
    ·subst p;have bd:=g (by decide);cases t with
     |nil=>grind
     |cons c u=>
      by_cases aG:c=10
      ·subst aG;rw[RA] at a;by_cases hu:u=[]
       ·grind
       ·rw[aW hu] at a;exact f u r' (by grind) d.tail.tail hu a
      grind[Rz]
    grind[RC]
 exact e _ r r' (cX _) d k a
theorem xa{e:cd}{r:aa}{pd:aq}{st:ah}(h:cB e r pd)(g:fW e r pd st):(∃r' b,bu r=some r'/\g2 st=some b/\fW e r' pd b/\cB e r' pd/\r'<:+r/\bu r'=some r')\/(bu r=none/\g2 st=some (e.tt pd)):=by
 obtain⟨tr,rfl,k⟩:=g;have:=alf (tr:=tr) h;unfold Fi at this;cases a:bu r with
 |none=>grind
 |some r'=>
  rw[a] at this;obtain⟨c,ad,l⟩:=this;have d:=dT a;refine .inl ⟨r',_,rfl,ad,⟨c,rfl,λi=>?_⟩,h.mono d,d,lD _ _ _ (cX _) a⟩;subst i;by_cases f:r=[]
  ·subst f;have j:g2 (e.st [] pd tr)=some (e.st [] pd tr):=by
    unfold g2 a9
    obtain⟨n,ax⟩:∃n,bC=n+1:=⟨bC-1,by rw[gg]⟩
    dsimp only;rw[ax,eZ];unfold BQ;dsimp only;have he:gq ((e.st [] pd tr).1,(e.st [] pd tr).2.1,(e.st [] pd tr).2.2.1,(e.st [] pd tr).2.2.2.1,(e.st [] pd tr).2.2.2.2.1,(e.st [] pd tr).2.2.2.2.2.1,(e.st [] pd tr).2.2.2.2.2.2.1,(e.st [] pd tr).2.2.2.2.2.2.2.1,(e.st [] pd tr).2.2.2.2.2.2.2.2)=some (decide (([]:aa)=[])):=vJ e [] _ _ _ _ _ _ _;rw[he,aO rfl];rfl
   rw[j] at ad;have:=mj (λx=>x.2.2.2.2.2.2.2.2) (Option.some.inj ad);have m:tr=c:=this;grind
  ·exact absurd rfl (Y5 (h.nl.h4 h.sfx) f a)
theorem CA(e:cd)(pd:aq):g2 (e.tt pd)=some (e.tt pd):=by
 rw[w_];unfold g2 a9
 obtain⟨n,ax⟩:∃n,bC=n+1:=⟨bC-1,by rw[gg]⟩
 dsimp only;rw[ax,eZ];unfold BQ;dsimp only;have he:gq ((e.st [] pd true).1,(e.st [] pd true).2.1,(e.st [] pd true).2.2.1,(e.st [] pd true).2.2.2.1,(e.st [] pd true).2.2.2.2.1,(e.st [] pd true).2.2.2.2.2.1,(e.st [] pd true).2.2.2.2.2.2.1,(e.st [] pd true).2.2.2.2.2.2.2.1,(e.st [] pd true).2.2.2.2.2.2.2.2)=some (decide (([]:aa)=[])):=vJ e [] _ _ _ _ _ _ _;rw[he,aO rfl];rfl
theorem bM.rep{q:Bool}{σ α τ β:Type}{e:cd}{f:σ->ak (σ⊕α)}{pr:β->ah}{cv:α->aa->β->Prop}{en:σ->aa->aq->τ->Prop}{body:(τ->Option β)->τ->Option β}
  (c:∀(k:τ->Option β)(s:σ)(r:aa)(pd:aq)(x:τ),cB e r pd->en s r pd x->(∀a,∃k',k a=body k' a)->(∀s' r' b a,r'<:+r->cB e r' b->r'.length<r.length->en s' r' b a->bM q e r (ca f s' r' b) pr cv (k a))->bM q e r (cN f r (f s r pd)) pr cv (body k x)):
  ∀(n:Nat)(s:σ)(r:aa)(pd:aq)(x:τ),r.length+1<n->cB e r pd->en s r pd x->bM q e r (ca f s r pd) pr cv (fixF body n x):=by
 intro n;induction n with
 |zero=>omega
 |succ n d=>
  intro s r pd x ax g he;rw[cF,eZ];refine c _ s r pd x g he (λa=>?_) λs' r' b a ad h j i=>(d s' r' b a (by omega) h i).mono ad
  obtain⟨m,rfl⟩:∃m,n=m+1:=⟨n-1,by omega⟩
  exact⟨_,eZ⟩
theorem bM.inl{q:Bool}{σ α β:Type}{e:cd}{f:σ->ak (σ⊕α)}{r0 r r':aa}{a:aq}{s':σ}{pr:β->ah}{cv:α->aa->β->Prop}{y:Option β}(hl:r'.length<r.length)(h:bM q e r0 (ca f s' r' a) pr cv y):bM q e r0 (cN f r (.ok (.inl s') r' a)) pr cv y:=by simp_all[cN,bm]
theorem vM{e:cd}{r:aa}{pd:aq}(h:cB e r pd):r.length+1<bC:=by have:=h.bY;have:=eI h.sfx;grind[gg]
theorem Ml{α:Type}[Inhabited α]{l:List α}{i:Nat}(bg:i<l.length):l.drop i=at' l (i:Int)::l.drop (i+1):=by grind[List.drop_eq_getElem_cons,at',List.getElem?_eq_getElem]
theorem alh{ds:aq}{j:aa->Option ah}(e:ds.length<=1000000000):∀(n i:Nat)(x:aa),ds.length-i<n->i<=ds.length->x.length+ei (ds.drop i)<=1000000000->fixF (Hy ds j) n ((i:Int),x)=j (x++lB (ds.drop i)):=by
 intro n;induction n with
 |zero=>omega
 |succ n b=>
  intro i x ax bg f;rw[eZ];generalize fixF (Hy ds j) n=k at b;unfold Hy;dsimp only;by_cases c:i<ds.length
  ·have a:(i:Int)<(ds.length:Int):=by omega
   have aH:=Ml c;have hl:ei (ds.drop i)=(at' ds (i:Int)).1.length+1+ei (ds.drop (i+1)):=by grind[ei,lB]
   simp only[a,bx,aK];rw[b8 ⟨by omega,trivial⟩,b8 (by omega),b8 (by grind)];have d:W ((i:Int)+1)=((i+1:Nat):Int):=by grind[dU]
   rw[d,b (i+1) _ (by omega) (by omega) (by grind),aH];simp[lB]
  ·have a:¬(i:Int)<(ds.length:Int):=by omega
   simp only[a,decide_false,cond_false];grind[List.drop_eq_nil_of_le,lB]
theorem ali{a:aa}{j:aq×aa->Option ah}(l:a.length<=2000000):∀(n i:Nat)(nd:aa)(ds:aq),a.length-i<n->i<=a.length->nd.length+ei ds+(a.length-i)<=1000000000->ds.length<=1000000000->fixF (Hz a j) n ((i:Int),ds,nd)=j ((cO nd ds (a.drop i)).2,(cO nd ds (a.drop i)).1):=by
 intro n;induction n with
 |zero=>omega
 |succ n d=>
  intro i nd ds ax bg m e;rw[eZ];generalize fixF (Hz a j) n=k at d;unfold Hz a9;dsimp only;by_cases f:i<a.length
  ·have b:(i:Int)<(a.length:Int):=by omega
   have aH:=Ml f;have g:W ((i:Int)+1)=((i+1:Nat):Int):=by grind[dU]
   have h:b9 a (i:Int) ((i+1:Nat):Int)=[at' a (i:Int)]:=by simp_all[b9,F3]
   simp only[b,bx,aK,g];rw[b8 (by omega),h,b8 (by grind),b8 ⟨by omega,trivial⟩];simp only[pD];rw[aH];unfold cO;by_cases c:at' a (i:Int)=10
   ·rw[if_pos c];simp only[c,decide_true,cond_true];have h0:(0:Int)=((0:Nat):Int):=rfl;rw[h0,alh e bC 0 (nd++[10]) (by grind[gg]) (by omega) (by grind)];simp only[List.drop_zero];grind[lB,List.length_append,List.length_cons,ei,List.length_nil]
   grind
  ·have b:¬(i:Int)<(a.length:Int):=by omega
   simp only[b,bF,aS];rw[vZ (by omega)];rfl
theorem CB(a b c f:Int)(S nd:aa)(ds:aq)(op:bs)(tr:Bool)(x:aa)(d:x.length<=2000000)(g:nd.length+ei ds+x.length<=1000000000)(e:ds.length<=1000000000):
  vq (S,a,b,ds,c,f,nd,op,tr) x=some (S,a,b,(cO nd ds x).2,c,f,(cO nd ds x).1,op,tr):=by
 unfold vq a9;dsimp only;have h0:(0:Int)=((0:Nat):Int):=rfl;rw[h0,ali d bC 0 nd ds (by grind[gg]) (by omega) (by omega) e];simp
theorem tn:∀(l:aq),l.length<=ei l
 |[]=>by simp
 |a::b=>by have:=tn b;simp[ei,lB] at this⊢;omega
def nX(e:cd)(r0:aa)(nd:aa)(ds:aq)(st:ah):Prop:=st.2.2.2.2.1=1/\st.2.2.2.2.2.2.1=nd/\st.2.2.2.1=ds/\nW e r0 st/\(e.S.length:Int)<=st.2.1
theorem nX.s{q:Bool}{e:cd}{r0:aa}{nd:aa}{ds:aq}{st:ah}(h:nX e r0 nd ds st):iz q e r0 nd ds st:= .inl h
theorem nX.mono{e:cd}{r0 r1:aa}{nd:aa}{ds:aq}{st:ah}(h:nX e r0 nd ds st)(ad:r0<:+r1):nX e r1 nd ds st:=⟨h.1,h.2.1,h.2.2.1,h.2.2.2.1.mono ad,h.2.2.2.2⟩
theorem Fj{e:cd}{pd:aq}{tr:Bool}{x:aa}(h:cB e [] pd)(b:x.length<=100):∃a,g3 (e.st [] pd tr) x=some a/\nX e [] (cO [] pd x).1 (cO [] pd x).2 a:=by
 have aC:=h.jJ;have c:=h.bY;have hl:=As x [] pd;simp only[C3] at hl aC;have d:=tn pd;refine⟨(e.S,ay e.S [],e.ne,(cO [] pd x).2,1,0,(cO [] pd x).1,[],tr),?_,rfl,rfl,rfl,⟨rfl,uN (ay e.S []),?_,?_,?_⟩,?_⟩
 ·unfold g3 a9 cd.st;simp only[bx,aK];rw[CB _ _ _ _ _ _ _ _ _ _ (by omega) (by grind) (by omega),aO rfl]
 ·grind[ay,ig]
 ·grind
 ·simp
 simp[ay,ig,uN]
theorem xb{e:cd}{r1 r0 nd:aa}{ds:aq}{st:ah}{nm x:aa}(h:nX e r1 nd ds st)(ad:r1<:+r0)(h0:r0<:+e.S)(y:nm=[]\/r1.length<r0.length)(z:nd.length+ei ds+x.length<=100*e.S.length+1000)(dd:e.S.length<=1000000)(A:x.length<=1000):
  ∃k,gr st nm x=some k/\nX e r0 (cO nd ds x).1 (cO nd ds x).2 k:=by
 obtain⟨a,b,c,d,uE,f,g,op,tr⟩:=st;obtain⟨l,m,n,r,i⟩:=h;simp only at l m n i;subst l m n;have hl:=As x g d;have o:=ad.length_le;have s:=h0.length_le;have B:ay e.S r0<=ay e.S r1:=by grind[ay]
 have C:=tn d;obtain⟨p,t,u,v,w⟩:=r;simp only at p t u v w;subst p
 have q:∀j,vq (e.S,b,c,d,1,f,g,j,tr) x=some (e.S,b,c,(cO g d x).2,1,f,(cO g d x).1,j,tr):=λj=>CB _ _ _ _ _ _ _ _ _ _ (by omega) (by omega) (by omega)
 unfold gr a9;simp only[bx,aK];by_cases ax:nm=[]
 ·subst ax;simp only[bx,gP,aS];rw[q,aO rfl];exact⟨_,rfl,rfl,rfl,rfl,⟨rfl,by grind,by grind,by grind,by grind⟩,i⟩
 ·have D:r1.length<r0.length:=by grind
  simp only[ax,bF,e3,aK];rw[b8 (by grind),q,aO rfl];exact⟨_,rfl,rfl,rfl,rfl,⟨rfl,by grind,by grind,by grind,by grind⟩,i⟩
theorem pG{st:ah}{nm x:aa}(h:st.2.2.2.2.1≠1):gr st nm x=some st:=by simp_all[gr,bF,aS]
theorem Sp:∀(x nd:aa)(ds:aq),(10:UInt8)∉x->cO nd ds x=(nd++x,ds)
 |[],nd,ds,_=>by simp[cO]
 |b::x,nd,ds,h=>by have a:b≠10:=λc=>h (by grind);simp_all[cO,aW,Sp]
theorem Sq{q:Bool}{e:cd}{r0 r:aa}{pd:aq}{tr:Bool}{o:Option aa}{nm x:aa}(h:cB e r pd)(h0:r<:+r0)(b:∀q,o=some q->q<:+r)(c:(10:UInt8)∉x)(i:x.length<=r.length+100)(j:r0≠[])(d:∀q,o=some q->q=[]->tr=false):
  bM q e r0 (match o with|some r'=>dt.ok () r' pd|none=> .more [nm] x pd) (λst=>st) (λ_ _ _=>True) (r7 (e.st r pd tr) (kS e.S o) nm x):=by
 cases o with
 |some q=>
  have a:=b q rfl;have ad:¬ay e.S q<0:=by have:=eI (a.trans h.sfx);grind[ay]
  refine⟨e.st q pd tr,?_,a.trans h0,h.mono a,⟨tr,rfl,d q rfl⟩,trivial⟩;unfold r7;simp only[kS,ad,bF,aS];rfl
 |none=>
  have aC:=h.jJ;have k:=h.bY;have l:=tn pd;have m:=eI h.sfx;have hm:g3 (e.st [] pd tr) x=some (e.S,ay e.S [],e.ne,pd,1,0,x,[],tr):=by unfold g3 a9 cd.st;simp only[bx,aK];rw[CB _ _ _ _ _ _ _ _ _ _ (by omega) (by grind) (by omega),aO rfl,Sp _ _ _ c];rfl
  refine⟨(e.S,ay e.S [],e.ne,pd,1,0,x,[nm],tr),?_,?_⟩
  ·unfold r7;simp only[kS,show((-1:Int)<0) from by decide,decide_true,cond_true];have f:((e.st r pd tr).1,((e.st r pd tr).1.length:Int),(e.st r pd tr).2.2.1,(e.st r pd tr).2.2.2.1,(e.st r pd tr).2.2.2.2.1,(e.st r pd tr).2.2.2.2.2.1,(e.st r pd tr).2.2.2.2.2.2.1,(e.st r pd tr).2.2.2.2.2.2.2.1,(e.st r pd tr).2.2.2.2.2.2.2.2)=e.st [] pd tr:=by rfl
   rw[f,hm,aO rfl];exact b8 (by simp)
  ·have g:ay e.S r0<=ay e.S []:=by grind[ay,List.length_nil]
   refine .inl ⟨rfl,rfl,rfl,⟨rfl,g,?_,?_,?_⟩,?_⟩
   ·grind[ay,ig]
   ·grind
   ·simp
   simp[ay,ig,uN]
theorem Y6{q:Bool}{e:cd}{r0 r:aa}{pd:aq}{tr:Bool}{o:Option aa}{x:UInt8}(h:cB e r pd)(h0:r<:+r0)(a:∀q,o=some q->q<:+r)(d:x≠10)(b:r0≠[])(c:∀q,o=some q->q=[]->tr=false):
  bM q e r0 (match o with|some r'=>dt.ok () r' pd|none=> .more [[x]] [x] pd) (λst=>st) (λ_ _ _=>True) (r7 (e.st r pd tr) (kS e.S o) [x] [x]):=
 Sq h h0 a (by grind) (by simp) b c
theorem alj{x0:ah}{i0:Nat}{j:aa->Option ah}(c:i0<=x0.2.2.2.1.length)(h:x0.2.2.2.1.length<=1000000000):∀(n i:Nat)(x:aa),(x0.2.2.2.1.length-i0)-i<n->i<=x0.2.2.2.1.length-i0->x.length+ei ((x0.2.2.2.1.drop i0).drop i)<=1000000000->
  fixF (HB x0 (i0:Int) j) n ((i:Int),x)=j (x++lB ((x0.2.2.2.1.drop i0).drop i)):=by
 have d:b9 x0.2.2.2.1 (i0:Int) (x0.2.2.2.1.length:Int)=x0.2.2.2.1.drop i0:=by simp[b9,F3,Jk]
 have e:(x0.2.2.2.1.drop i0).length=x0.2.2.2.1.length-i0:=F6;intro n;induction n with
 |zero=>omega
 |succ n b=>
  intro i x ax bg l;rw[eZ];generalize fixF (HB x0 (i0:Int) j) n=k at b;unfold HB;dsimp only;rw[d];generalize x0.2.2.2.1.drop i0=ds at*;by_cases f:i<ds.length
  ·have a:(i:Int)<(ds.length:Int):=by omega
   have aH:=Ml f;have hl:ei (ds.drop i)=(at' ds (i:Int)).1.length+1+ei (ds.drop (i+1)):=by grind[ei,lB]
   simp only[a,bx,aK];rw[b8 ⟨by omega,trivial⟩,b8 (by omega),b8 (by grind)];have g:W ((i:Int)+1)=((i+1:Nat):Int):=by grind[dU]
   rw[g,b (i+1) _ (by omega) (by omega) (by grind),aH];simp[lB]
  ·have a:¬(i:Int)<(ds.length:Int):=by omega
   simp only[a,decide_false,cond_false];grind[List.drop_eq_nil_of_le,lB]
theorem alk{e:cd}{r0:aa}{pd:aq}{tr:Bool}{j:Int->Option ah}(dd:e.S.length<=1000000)(p:ei pd<=100000000):∀(n i:Nat)(q:aa),pd.length-i<n->i<=pd.length->q<:+e.S->
  match lY (pd.drop i) q with
  | .inl r'=>fixF (BR (e.st r0 pd tr) j) n ((i:Int),ay e.S q)=j (ay e.S r')
  | .inr nd=>fixF (BR (e.st r0 pd tr) j) n ((i:Int),ay e.S q)=some (e.S,(e.S.length:Int),e.ne,[],1,0,nd,[[60,60]],false):=by
 have r:=tn pd;intro n;induction n with
 |zero=>omega
 |succ n d=>
  intro i q ax bg c;rw[eZ];generalize fixF (BR (e.st r0 pd tr) j) n=k at d;unfold BR a9;dsimp only;have f:(e.st r0 pd tr).1=e.S:=rfl;have g:(e.st r0 pd tr).2.2.2.1=pd:=rfl;rw[f,g];by_cases l:i<pd.length
  ·have a:(i:Int)<(pd.length:Int):=by omega
   have aH:=Ml l;rw[aH];simp only[a,bx,aK];rw[b8 (show 0<=(i:Int)/\True from⟨by omega,trivial⟩),alb dd c,aO rfl,dU (x:=(i:Int)+1) (by omega) (by omega)];unfold lY;cases m:ni (at' pd (i:Int)).1 (at' pd (i:Int)).2 q with
   |none=>
    simp only[show((-1:Int)<0) from by decide,bx,aK];rw[b8 (by omega)]
    have:=alj (x0:=e.st r0 pd tr) (i0:=i) (j:=λo=>some (e.S,(e.S.length:Int),(e.st r0 pd tr).2.2.1,[],1,(e.st r0 pd tr).2.2.2.2.2.1,o,([([60,60]:aa)]:bs),false)) bg (by grind) bC 0 [] (by grind[gg]) (by omega) (by
     show 0+ei ((pd.drop i).drop 0)<=_;rw[v3];have:ei (pd.drop i)<=ei pd:=by have h:=Y0 (pd.take i) (pd.drop i);grind[List.take_append_drop]
     omega)
    have h0:(e.st r0 pd tr).2.2.2.2.2.2.1=[]:=rfl;rw[h0];refine Eq.trans this ?_;show some (e.S,(e.S.length:Int),e.ne,([]:aq),(1:Int),(0:Int),[]++lB ((pd.drop i).drop 0),[[60,60]],false)=_;grind
   |some b=>
    have s:b<:+e.S:=((Q5 _ _ _ q [] b (cX _) m).1).trans c;have h0:¬ay e.S b<0:=by grind[eI,ay]
    grind
  ·have a:¬(i:Int)<(pd.length:Int):=by omega
   rw[vZ (by omega)];simp only[a,bF,aS];rfl
theorem Y7{q:Bool}{e:cd}{t:aa}{pd:aq}{tr:Bool}(h:cB e (10::t) pd):bM q e (10::t) (jb (10::t) pd) (λst=>st) (λ_ _ _=>True) (zU (e.st (10::t) pd tr)):=by
 have aC:=h.jJ;have l:=h.bY;have c:t<:+e.S:=dY h.sfx;have m:=eI c;have a:=alk (e:=e) (r0:=10::t) (pd:=pd) (tr:=tr) (j:=λd=>some (e.S,d,e.ne,[],0,0,[],[],false)) h.bY (by omega) bC 0 t (by grind[tn,gg]) (by omega) c;rw[v3] at a;have i:W (ay e.S (10::t)+1)=ay e.S t:=iK h.bY h.sfx;have g:zU (e.st (10::t) pd tr)=fixF (BR (e.st (10::t) pd tr) λd=>some (e.S,d,e.ne,[],0,0,[],[],false)) bC ((0:Nat),ay e.S t):=by unfold zU a9;show fixF _ bC ((0:Int),W (ay e.S (10::t)+1))=_;rw[i];rfl
 unfold jb;simp only;cases b:lY pd t with
 |inl r'=>rw[b] at a;simp only at a⊢;have f:=(vw pd t [] r' b).1;have hl:=f.length_le;refine⟨e.st r' [] false,?_,f.trans (eb 10 t),⟨h.bY,h.nl,h.IC,f.trans c,by grind[ei,lB]⟩,⟨false,rfl,λ_=>rfl⟩,trivial⟩;rw[g];exact a
 |inr nd=>
  rw[b] at a;simp only at a⊢;have k:=Sg pd t nd b;refine⟨_,g.trans a,.inl ⟨rfl,rfl,rfl,⟨rfl,?_,?_,?_,?_⟩,?_⟩⟩
  ·grind[ay,oQ]
  ·grind
  ·grind[ei,lB]
  ·simp
  simp
theorem Sr{t:aa}{pd:aq}{a:Unit}{r1:aa}{b:aq}(h:jb (10::t) pd= .ok a r1 b):r1<:+t/\b=[]:=by
 unfold jb at h;simp only at h;cases c:lY pd t with
 |inl r'=>rw[c] at h;cases h;exact⟨(vw pd t [] _ c).1,rfl⟩
 |inr nd=>grind
theorem Fk{e:cd}{r:aa}{pd:aq}{st:ah}(h:cB e r pd)(C:fW e r pd st):bM true e r (cS r pd) (λst=>st) (λ_ r' _=>bu r'=some r'/\au r'≠ .line) (oa st):=by
 unfold oa a9;have D:st.2.2.2.1=pd/\st.2.2.2.2.2.2.2.1=[]:=by obtain⟨tr,rfl,_⟩:=C;exact⟨rfl,rfl⟩
 rw[D.1,D.2]
 have J:∀(N:Nat)(b:Bool)(r:aa)(pd:aq)(st:ah),r.length+1<N->cB e r pd->fW e r pd st->bu r=some r->∀r0:aa,r<:+r0->(au r= .line->r.length<=r0.length)->bM true e r0 (cN h2 r0 (if au r= .line then ae jb (λ_=>aU (.inl true)) r pd else .ok (.inr b) r pd)) (λst=>st) (λ_ r' _=>bu r'=some r'/\au r'≠ .line) (fixF (yh λx=>some x) N st):=by
  intro N;induction N with
  |zero=>omega
  |succ N E=>
   intro b r pd st Y s K L r0 F _;rw[eZ]
   obtain⟨M,O⟩:∃M,N=M+1:=⟨N-1,by omega⟩
   have v:∀x:ah,(x.2.2.2.2.1≠0\/∃ds,x=e.tt ds)->fixF (yh λx=>some x) N x=some x:=by
    intro x G;rw[O,eZ];unfold yh;dsimp only;rcases G with G|⟨ds,rfl⟩
    ·simp_all[bF,cR,eC,cm,aS]
    ·have m:ia (e.tt ds)=some 0:=by rw[w_];exact vK (e:=e) (r:=[]) ov _ _ _ _ _ _ _
     have h0:(e.tt ds).2.2.2.2.1=0:=rfl;rw[show ia ((e.tt ds).1,(e.tt ds).2.1,(e.tt ds).2.2.1,(e.tt ds).2.2.2.1,(e.tt ds).2.2.2.2.1,(e.tt ds).2.2.2.2.2.1,(e.tt ds).2.2.2.2.2.2.1,(e.tt ds).2.2.2.2.2.2.2.1,(e.tt ds).2.2.2.2.2.2.2.2)=some 0 from m];rw[fV,h0];rfl
   generalize Z:fixF (yh λx=>some x) N=k at E v;obtain⟨tr,rfl,P⟩:=K;unfold yh a9;dsimp only;have m:ia ((e.st r pd tr).1,(e.st r pd tr).2.1,(e.st r pd tr).2.2.1,(e.st r pd tr).2.2.2.1,(e.st r pd tr).2.2.2.2.1,(e.st r pd tr).2.2.2.2.2.1,(e.st r pd tr).2.2.2.2.2.2.1,(e.st r pd tr).2.2.2.2.2.2.2.1,(e.st r pd tr).2.2.2.2.2.2.2.2)=some (r.headD 0):=vK s.sfx _ _ _ _ _ _ _;rw[m,fV];have h0:(e.st r pd tr).2.2.2.2.1=0:=rfl;rw[h0];simp only[bx,cG,aK,pD];by_cases hl:au r= .line
   ·rw[bm hl];obtain⟨t,rfl⟩:=vB hl;simp only[y7,bx,aK];refine bM.iy c2.k ((Y7 (q:=false) s).mono F) (λ_ r1 d c Q s1 R w _=>?_) (λop nd ds c mg H=>?_) (λc p=>?_)
    ·have S:c.2.2.2.2.1=0:=by obtain⟨T,rfl,_⟩:=w;rfl
     have I:c.2.2.2.1=d/\c.2.2.2.2.2.2.2.1=[]:=by obtain⟨T,rfl,_⟩:=w;exact⟨rfl,rfl⟩
     rw[S,I.1,I.2];simp only[bx,aK];have St:r1.length<(10::t).length:=by have:=(Sr Q).1.length_le;grind
     have U:r1.length<r0.length:=by grind
     show bM true e r0 (cN h2 r0 (.ok (.inl true) r1 d)) _ _ _;refine bM.inl U ?_;rw[cF];rcases xa R w with⟨f,a,g,i,o,y,j,z⟩|⟨g,i⟩
     ·have A:h2 true r1 d=(if au f= .line then ae jb (λ_=>aU (.inl true)) f d else .ok (.inr true) f d):=by
       by_cases l:au f= .line
       ·obtain⟨u,rfl⟩:=vB l;simp_all[bm,ux]
       simp_all[aW,rm]
      rw[A,i,aO rfl];have B:a=(a.1,a.2.1,a.2.2.1,d,a.2.2.2.2.1,a.2.2.2.2.2.1,a.2.2.2.2.2.2.1,([]:bs),a.2.2.2.2.2.2.2.2):=by obtain⟨V,rfl,_⟩:=o;rfl
      rw[<-B];exact(E true f d a (by grind) y o z r1 j (λ_=>j.length_le)).mono s1
     ·rw[i,aO rfl];have:h2 true r1 d= .more [] (cO [] d []).1 (cO [] d []).2:=dc (iw g);rw[this];refine⟨e.tt d,?_,.inr ⟨rfl,rfl,rfl⟩⟩;exact v (e.tt d) (.inr ⟨d,rfl⟩)
    ·have ad:=H.z.1;refine⟨c,?_,H.up⟩;grind
    ·refine⟨c,?_,p⟩;rw[p.1];simp only[show¬((2:Int)=0) by decide,bF,aS];have:=v c (.inl (by rw[p.1];decide));have W:c=(c.1,c.2.1,c.2.2.1,c.2.2.2.1,2,c.2.2.2.2.2.1,c.2.2.2.2.2.2.1,c.2.2.2.2.2.2.2.1,c.2.2.2.2.2.2.2.2):=by rw[<-p.1]
     grind
   ·rw[aW hl];have X:decide (r.headD 0=10)=false:=by
     cases r with
     |nil=>rfl
     |cons b t=>
      have:b≠10:=by rintro rfl;grind[au]
      grind
    rw[X];simp only[aS];exact⟨_,rfl,F,s,⟨tr,rfl,P⟩,L,hl⟩
 rw[si,cF];rcases xa h C with⟨f,a,g,i,o,y,j,z⟩|⟨g,i⟩
 ·rw[i,aO rfl];have B:a=(a.1,a.2.1,a.2.2.1,pd,a.2.2.2.2.1,a.2.2.2.2.2.1,a.2.2.2.2.2.2.1,([]:bs),a.2.2.2.2.2.2.2.2):=by obtain⟨V,rfl,_⟩:=o;rfl
  rw[<-B];have A:h2 false r pd=(if au f= .line then ae jb (λ_=>aU (.inl true)) f pd else .ok (.inr false) f pd):=by
   by_cases l:au f= .line
   ·obtain⟨u,rfl⟩:=vB l;rw[bm l,ux g]
   ·rw[aW l,rm g l]
  rw[A];exact J bC false f pd a (by have:=j.length_le;have:=h.bY;have:=eI h.sfx;grind[gg]) y o z r j (λ_=>j.length_le)
 ·rw[i,aO rfl];have:h2 false r pd= .more [] (cO [] pd []).1 (cO [] pd []).2:=dc (iw g);rw[this];refine⟨e.tt pd,?_,.inr ⟨rfl,rfl,rfl⟩⟩
  obtain⟨n,ax⟩:∃n,bC=n+1:=⟨bC-1,by rw[gg]⟩
  dsimp only;rw[ax,eZ];unfold yh;dsimp only;have m:ia ((e.tt pd).1,(e.tt pd).2.1,(e.tt pd).2.2.1,pd,(e.tt pd).2.2.2.2.1,(e.tt pd).2.2.2.2.2.1,(e.tt pd).2.2.2.2.2.2.1,[],(e.tt pd).2.2.2.2.2.2.2.2)=some 0:=by have:=vK (e:=e) (r:=[]) ov e.ne 0 0 pd [] [] true;rw[ig] at this;exact this
  rw[m,fV];rfl
def gm(b:UInt8):Bool:=(decide (97<=b)&&decide (b<=122))||decide (b=123)||decide (b=125)||decide (b=33)
def iU(r:aa):aa:=if r.dropWhile gm≠[]/\c1 (r.dropWhile gm)=true then r.takeWhile gm else []
theorem aln(b:UInt8):((b.toNat:Int)=33)↔b=33:=qR (c:=33)
theorem Y8(b:UInt8):((b.toNat:Int)=125)↔b=125:=qR (c:=125)
theorem alo{e:cd}{x0:ah}{j:Int->Option aa}(d:x0.1=e.S)(dd:e.S.length<=1000000):∀(n:Nat)(r:aa),r.length<n->r<:+e.S->fixF (HD x0 j) n (ay e.S r)=j (ay e.S (r.dropWhile gm)):=by
 intro n;induction n with
 |zero=>omega
 |succ n f=>
  intro r ax c;rw[eZ];generalize fixF (HD x0 j) n=k at f;unfold HD;rw[d];cases r with
  |nil=>simp[ig,a8]
  |cons b t=>
   have g:0<=ay e.S (b::t)/\ay e.S (b::t)<(e.S.length:Int):=hR c;have a:∀p:Prop,(p->0<=ay e.S (b::t)/\ay e.S (b::t)<(e.S.length:Int)):=λp _=>g
   rw[b8 (a _),b8 (λ_=>a _),b8 (λ_=>a _),b8 (λ_=>a _),b8 (λ_=>a _)];simp only[m4 c,bx,aK,jw c,iK dd c,R6,R7,Cq,Y8,aln];have aG:(bif(bif(bif(bif decide (97<=b) then decide (b<=122) else false) then true else decide (b=123)) then true else decide (b=125)) then true else decide (b=33))=gm b:=by simp[gm,decide]
   grind[gm,List.dropWhile_cons_of_pos,List.length_cons,dY,List.dropWhile_cons_of_neg]
theorem vN{e:cd}{r:aa}{pd:aq}{tr:Bool}(h:cB e r pd):lA (e.st r pd tr)=some (iU r):=by
 unfold lA a9;have s:(e.st r pd tr).1=e.S:=rfl;have u:(e.st r pd tr).2.1=ay e.S r:=rfl;have hl:=alo (e:=e) (x0:=e.st r pd tr) (j:=λc=>(a8 (((decide (c<(e.S.length:Int)))=true)->0<=c/\c<(e.S.length:Int))<|(cR ((decide (c<(e.S.length:Int)))=true) (zS (at' e.S c)) false λ(f:Bool)=>(a8 ((f=false)->((decide (c<(e.S.length:Int)))=true)->0<=c/\c<(e.S.length:Int))<|(cR ((bif f then true else(decide (((at' e.S c).toNat:Int)=(10:Int))))=false/\(decide (c<(e.S.length:Int)))=true) (yd e.S c) [] λ(m:aa)=>(bif(bif(decide (c<(e.S.length:Int))) then(bif(bif f then true else(decide (((at' e.S c).toNat:Int)=(10:Int)))) then true else(!(decide (m=[])))) else false) then(a8 (0<=ay e.S r/\ay e.S r<=c/\c<=(e.S.length:Int))<|some (b9 e.S (ay e.S r) c)) else some ([]))))))) rfl h.bY bC r (lk (lF (eI h.sfx) h.bY)) h.sfx;refine Eq.trans hl ?_;have i:r.dropWhile gm<:+r:=List.dropWhile_suffix _;have d:=i.trans h.sfx;have k:0<=ay e.S r/\ay e.S r<=ay e.S (r.dropWhile gm)/\ay e.S (r.dropWhile gm)<=(e.S.length:Int):=by have:=i.length_le;have:=eI h.sfx;grind[ay]
 have n:b9 e.S (ay e.S r) (ay e.S (r.dropWhile gm))=r.takeWhile gm:=by rw[Il h.sfx i];have o:=TO (p:=gm) (l:=r);generalize r.takeWhile gm=a at*;generalize r.dropWhile gm=b at*;rw[<-o];simp
 unfold iU;cases q:r.dropWhile gm with
 |nil=>simp[ig,a8,cR]
 |cons b t=>
  rw[q] at d k n;have g:=hR d;rw[b8 (λ_=>g)];simp only[m4 d,bx,jw d,Sn,fV,cG];refine Eq.trans (b8 (λ_ _=>⟨g.1,trivial⟩)) ?_;simp only[Sm h.bY d,fV,pD,and_true,aK];have v:c1 (b::t)=(f_ b||decide (b=10)|| !decide (br (b::t)=[])):=by show(f_ b||(b==10)||(br (b::t)!=[]))=_;grind
  grind[f_,a8,br]
theorem Mn{b:UInt8}(h:gm b=true):f_ b=false/\b≠10/\b≠92/\b≠39/\b≠34/\b≠96/\b≠36/\b≠35/\oN b=false:=by
 have ad:(97<=b.toNat/\b.toNat<=122)\/b.toNat=123\/b.toNat=125\/b.toNat=33:=by
  unfold gm at h;simp only[AN,hE,TQ,C6] at h;have a:(97:UInt8).toNat=97:=rfl;have c:(122:UInt8).toNat=122:=rfl;rw[a,c] at h;rcases h with((h|h)|h)|h
  ·omega
  ·simp_all
  ·simp_all
  simp_all
 have d:b=UInt8.ofNat b.toNat:=by simp
 generalize b.toNat=n at*;subst d;have:n=97\/n=98\/n=99\/n=100\/n=101\/n=102\/n=103\/n=104\/n=105\/n=106\/n=107\/n=108\/n=109\/n=110\/n=111\/n=112\/n=113\/n=114\/n=115\/n=116\/n=117\/n=118\/n=119\/n=120\/n=121\/n=122\/n=123\/n=125\/n=33:=by omega
 rcases this with rfl|rfl|rfl|rfl|rfl|rfl|rfl|rfl|rfl|rfl|rfl|rfl|rfl|rfl|rfl|rfl|rfl|rfl|rfl|rfl|rfl|rfl|rfl|rfl|rfl|rfl|rfl|rfl|rfl<;>decide
theorem Y9{b:UInt8}{t:aa}(h:gm b=true):c1 (b::t)=false:=by obtain⟨ad,a,_,_,_,_,_,_,c⟩:=Mn h;show(f_ b||b==10||br (b::t)!=[])=false;grind[og]
theorem alq{b:UInt8}{t:aa}(h:gm b=true):ga (b::t)=false:=by simp_all[Mn,sm]
theorem Y_:∀(r:aa),c1 (r.dropWhile gm)=true->c4 r=(r.takeWhile gm,true)
 |[],_=>by decide
 |b::t,h=>by
  cases a:gm b with
  |true=>rw[TK a] at h;obtain⟨ad,c,d,e,f,g,i,j,k⟩:=Mn a;unfold c4;simp_all[Y9,aW,alq,Y_,List.takeWhile_cons_of_pos]
  |false=>simp_all[Ji,c4,bm,TP]
theorem CC(b:UInt8)(t:aa):au (b::t)=if b=10 then Tok.line else if br (b::t)≠[] then .op (br (b::t)) else .word (c4 (b::t)).1 (c4 (b::t)).2:=rfl
theorem ry{r w:aa}(e:du r)(i:w≠[])(f:w.all gm=true):iU r=w↔au r= .word w true:=by
 unfold iU;constructor
 ·intro h;split at h
  ·rename_i aG;have aC:=Y_ r aG.2;cases r with
   |nil=>simp_all
   |cons b t=>
    have j:gm b=true:=by grind[gm,List.takeWhile_cons_of_neg,absurd]
    simp_all[Mn,CC,aW,og]
  grind
 ·intro h;cases r with
  |nil=>grind[au]
  |cons b t=>
   have aC:c4 (b::t)=(w,true):=by grind[CC,Prod.ext]
   obtain⟨v,a⟩:=(EL _ _ aC).1;have he:=RY _ _ aC;rw[<-a,o0] at he;have g:v≠[]:=by
    rintro rfl;rw[rE] at a;rcases e with h0|⟨s,h0⟩
    ·cases h0
    grind[gm,List.all_eq_true,absurd]
   have aH:v.dropWhile gm=v/\v.takeWhile gm=[]:=by
    cases v with
    |nil=>simp
    |cons c u=>grind[gm,Y9,List.dropWhile_cons_of_neg,List.takeWhile_cons_of_neg]
   have d:∀x∈w,gm x=true:=oZ.1 f
   rw[<-a,List.dropWhile_append_of_pos d,aH.1,bm ⟨g,he⟩,List.takeWhile_append_of_pos d,aH.2,rE]
theorem IG{r w:aa}(a:du r)(b:w≠[])(c:w.all gm=true):decide (iU r=w)=cE (au r) w:=by have:=ry a b c;grind[cE,iU,decide_eq_true,decide_eq_false,au]
theorem Za{r:aa}{L:bs}(a:du r)(bk:∀w∈L,w≠[]/\w.all gm=true):L.contains (iU r)=(match au r with| .word w true=>L.contains w|_=>false):=by
 rw[Bool.eq_iff_iff];constructor
 ·intro h;have hm:=List.contains_iff_mem.1 h;obtain⟨ad,b⟩:=bk _ hm;have:=(ry a ad b).1 rfl;grind
 grind[au,List.contains_iff_mem,ry]
theorem alr{r:aa}(a:du r):qK (iU r)=(match au r with| .word w true=>qK w|_=>false):=by unfold qK;exact Za a (by decide)
theorem als{r:aa}(a:du r):rk (iU r)=(match au r with| .word w true=>rk w|_=>false):=by unfold rk;exact Za a (by decide)
theorem mG{r o:aa}(a:o≠[]):au r= .op o↔br r=o:=by
 constructor
 ·intro h;exact(ic h).1.symm
 ·intro h;cases r with
  |nil=>simp_all[br,la,xv,List.isPrefixOf,absurd]
  |cons b t=>
   have c:b≠10:=by rintro rfl;rw[og (by decide)] at h;grind
   simp_all[CC,aW,bm]
theorem Zb{r:aa}(a:du r):(decide (br r=[40])||qK (iU r))=hs (au r):=by rw[alr a];grind[hs,br,mG,au,decide_eq_false]
theorem alu{e:cd}{x0:ah}{j:Int->Option Bool}(c:x0.1=e.S)(dd:e.S.length<=1000000):∀(n:Nat)(r:aa),r.length<n->r<:+e.S->fixF (HF x0 j) n (ay e.S r)=j (ay e.S (r.dropWhile cb)):=by
 intro n;induction n with
 |zero=>omega
 |succ n d=>
  intro r ax a;rw[eZ];generalize fixF (HF x0 j) n=k at d;unfold HF;rw[c];cases r with
  |nil=>simp[ig,a8]
  |cons b t=>
   have g:=hR a;rw[b8 (λ_=>g),b8 (λ_=>g)];simp only[m4 a,bx,aK,jw a,iK dd a,R8,R9];have aG:(bif decide (48<=b) then decide (b<=57) else false)=cb b:=by simp[cb,decide]
   grind[cb,List.dropWhile_cons_of_pos,List.length_cons,dY,List.dropWhile_cons_of_neg]
theorem Su{e:cd}{r:aa}{pd:aq}{tr:Bool}(h:cB e r pd):zW (e.st r pd tr)=some (decide (r.dropWhile cb≠r)&&eV (br (r.dropWhile cb))):=by
 unfold zW a9;have b:r.dropWhile cb<:+r:=List.dropWhile_suffix _;have hl:=alu (e:=e) (x0:=e.st r pd tr) (j:=λa=>cR ((decide (ay e.S r<a))=true) (yd e.S a) [] λ(c:aa)=>(cR ((decide (ay e.S r<a))=true) (vs c) false λ(d:Bool)=>some (bif(decide (ay e.S r<a)) then d else false))) rfl h.bY bC r (lk (lF (eI h.sfx) h.bY)) h.sfx;refine Eq.trans hl ?_;rw[Sm h.bY (b.trans h.sfx),fV];have g:decide (ay e.S r<ay e.S (r.dropWhile cb))=decide (r.dropWhile cb≠r):=by
  by_cases f:r.dropWhile cb=r
  ·grind
  ·have:(r.dropWhile cb).length<r.length:=by
    rcases Ns (r.dropWhile cb).length r.length with ad|ad
    ·exact ad
    ·exact absurd (b.eq_of_length (Nat.le_antisymm b.length_le ad)) f
   grind[ay,cb]
 grind[Fh,fV,decide,cb]
theorem Mo(r:aa):(eV (br r)||(decide (r.dropWhile cb≠r)&&eV (br (r.dropWhile cb))))=eV (br (r.dropWhile cb)):=by
 by_cases h:r.dropWhile cb=r
 ·grind
 ·have h0:br r=[]:=by
   cases r with
   |nil=>simp_all
   |cons b t=>
    cases a:cb b with
    |true=>simp_all[og,Am]
    |false=>simp_all
  simp_all[eV]
theorem Sv{e:cd}{r:aa}{pd:aq}{tr:Bool}(h:cB e r pd)(k:Nat)(hk:k<=1000):s4 (e.st r pd tr) k=some ((r.drop k).headD 0):=by
 unfold s4;have hl:=eI h.sfx;have g:=h.bY;have ad:(e.st r pd tr).2.1=ay e.S r:=rfl;have c:(e.st r pd tr).1=e.S:=rfl;have aC:0<=ay e.S r/\ay e.S r<=(e.S.length:Int):=by grind[ay]
 have d:W (ay e.S r+(k:Int))=ay e.S r+k:=dU (by omega) (by omega);rw[ad,c,d];by_cases i:k<r.length
 ·have a:r.drop k<:+e.S:=(lE k r).trans h.sfx;have f:ay e.S r+(k:Int)=ay e.S (r.drop k):=by grind[ay,List.length_drop]
  rw[f];cases aH:r.drop k with
  |nil=>grind
  |cons b t=>rw[aH] at a;simp only[m4 a,bx,aK];simp_all[b8,hR,trivial,trans,jw]
 grind[ay,List.drop_eq_nil_of_le]
theorem ss{α β b:Type}{m:Option α}{f:α->Option β}{g:β->Option b}:av (av m f) g=av m (λa=>av (f a) g):=by cases m<;>rfl
theorem Sw{α β:Type}{b:Bool}{x y:Option α}{g:α->Option β}:av (bif b then x else y) g=bif b then av x g else av y g:=by grind
theorem nY{α β:Type}{a:α}{g:α->Option β}:av (some a) g=g a:=rfl
theorem Zc{R:bh}{a b:aa}:∀(n:Nat)(x:ah),fixF (wN R λst=>av (gr st a b) λy=>some y) n x=av (fixF (wN R λst=>some st) n x) λst=>gr st a b
 |0,x=>rfl
 |n+1,x=>by
  rw[eZ,eZ];have c:=Zc (R:=R) (a:=a) (b:=b) n;generalize fixF (wN R λst=>av (gr st a b) λy=>some y) n=o at c;generalize fixF (wN R λst=>some st) n=p at c;obtain⟨e,f,g,i,d,j,k,l,m⟩:=x;unfold wN a9;dsimp only;by_cases h:d=0
  ·subst h;simp only[bx,aK,ss,Sw,c,nY];rfl
  ·simp only[h,bF,aS,nY];cases gr (e,f,g,i,d,j,k,l,m) a b<;>rfl
theorem Zd{R:bh}{a b:aa}:∀(n:Nat)(x:ah),fixF (wS R λst=>av (gr st a b) λy=>some y) n x=av (fixF (wS R λst=>some st) n x) λst=>gr st a b
 |0,x=>rfl
 |n+1,x=>by
  rw[eZ,eZ];have c:=Zd (R:=R) (a:=a) (b:=b) n;generalize fixF (wS R λst=>av (gr st a b) λy=>some y) n=o at c;generalize fixF (wS R λst=>some st) n=p at c;obtain⟨e,f,g,i,d,j,k,l,m⟩:=x;unfold wS a9;dsimp only;by_cases h:d=0
  ·subst h;simp only[bx,aK,ss,Sw,c,nY];rfl
  ·simp only[h,bF,aS,nY];cases gr (e,f,g,i,d,j,k,l,m) a b<;>rfl
theorem cB.yJ{e:cd}{b:UInt8}{t:aa}{pd:aq}(h:cB e (b::t) pd)(a:b≠10):t≠[]:=by
 rintro rfl;have:=h.nl.h4 h.sfx;rcases this with ad|⟨s,ad⟩
 ·cases ad
 ·have:=mj List.getLast? ad;grind
theorem du.last{t:aa}(h:du t)(a:t≠[]){x:aa}{b:UInt8}(he:t=x++[b]):b=10:=by
 rcases h with ad|⟨s,ad⟩
 ·grind
 simp_all
theorem alv:∀(n:Nat)(r q:aa),r.length<=n->gX r=some q->∃x,r=x++96::q:=by
 intro n;induction n with
 |zero=>simp_all[nw,Nat.le_zero,gX]
 |succ n d=>
  intro r q ax h;cases r with
  |nil=>grind
  |cons b t=>
   unfold gX at h;split at h
   ·simp_all
   ·split at h
    ·cases t with
     |nil=>cases h
     |cons c u=>obtain⟨x,a⟩:=d u q (by simp only[mi] at ax;omega) h;exact⟨b::c::x,by rw[a];rfl⟩
    ·obtain⟨x,a⟩:=d t q (by simp only[mi] at ax;omega) h;exact⟨b::x,by rw[a];rfl⟩
theorem Ze:∀(r q:aa),gb r=some q->∃x,r=x++39::q
 |[],q,h=>by grind[gb]
 |b::t,q,h=>by
  unfold gb at h;split at h
  ·rename_i a;cases h;subst a;exact⟨[],rfl⟩
  ·obtain⟨x,c⟩:=Ze t q h;exact⟨b::x,by rw[c];rfl⟩
theorem Sx{t x q:aa}{c:UInt8}(aG:c≠10)(h:du t)(he:t=x++c::q):q≠[]:=by rintro rfl;exact aG (h.last (by simp_all) he)
structure kp(R:bh)(n:Nat):Prop where
 im:∀(e:cd),e.ne=30- (n:Int)->∀(t:aa)(pd:aq)(tr:Bool),cB e (36::t) pd->bM false e (36::t) (a_ true n (36::t) pd) (λst=>st) (λ_ _ _=>True) (R.u7 (e.st (36::t) pd tr))
theorem Fl{e:cd}{r0 r:aa}{pd:aq}{f:Unit->ak (Unit⊕Unit)}{part:ak Unit}{y:Option ah}{β:Type}{pr:β->ah}{cv:Unit->aa->β->Prop}{k:ah->Option β}
  (hm:bM false e r0 (part r pd) (λst=>st) (λ_ _ _=>True) y) (hl:∀a r' c,part r pd= .ok a r' c->r'.length<r.length)
  (hk:∀r' c g,r'<:+r0->cB e r' c->r'.length<r.length->fW e r' c g->bM false e r0 (ca f () r' c) pr cv (k g))
  (h:∀x,x.2.2.2.2.1≠0->∃b,k x=some b/\pr b=x):
  bM false e r0 (cN f r (ae part (λ_=>aU (.inl ())) r pd)) pr cv (av y k):=by
 refine bM.iy c2.k hm (λa r1 i d j s1 l m _=>?_) (λop nd ds d _ n=>?_) (λd o=>?_)
 ·have:=hl a r1 i j;exact bM.inl this (hk r1 i d s1 l this m)
 ·obtain⟨b,p,q⟩:=h d (by rw[n.z.1];decide);grind
 ·obtain⟨b,p,q⟩:=h d (by rw[o.1];decide);grind
theorem Sy{e:cd}{t:aa}{pd:aq}{tr:Bool}(h:cB e (92::t) pd):wM (e.st (92::t) pd tr)=some (e.st (t.drop 1) pd tr):=by
 have b:=h.yJ (by decide);cases t with
 |nil=>grind
 |cons c u=>
  have a:W (ay e.S (92::c::u)+2)=ay e.S u:=ko (w:=[92,c]) h.bY h.sfx;unfold wM;have ad:(e.st (92::c::u) pd tr).2.1=ay e.S (92::c::u):=rfl;rw[ad,a];have:¬((e.st (92::c::u) pd tr).1.length:Int)<ay e.S u:=by have:= @oQ u e.S;show¬(e.S.length:Int)<ay e.S u;omega
  simp only[this,bF,aS];rfl
theorem Sz{e:cd}{t r0:aa}{pd:aq}{tr:Bool}(h:cB e (96::t) pd)(h0:96::t<:+r0):bM false e r0 (jq gX [96] t pd) (λst=>st) (λ_ _ _=>True) (av (zX e.S (W (ay e.S (96::t)+1))) λy=>r7 (e.st (96::t) pd tr) y [96] [96]):=by rw[iK h.bY h.sfx,ak8 h.bY (dY h.sfx),aO rfl];unfold jq;have b:=(h.nl.h4 h.sfx).tail;refine Y6 h h0 (λq a=>(EU _ _ q (cX _) a).trans (eb _ _)) (by decide) (by grind) λq a c=>?_;obtain⟨x,d⟩:=alv _ _ _ (cX _) a;grind[absurd,Sx]
theorem Zf{e:cd}{t r0:aa}{pd:aq}{tr:Bool}(h:cB e (39::t) pd)(h0:39::t<:+r0):bM false e r0 (jq gb [39] t pd) (λst=>st) (λ_ _ _=>True) (av (BU e.S (W (ay e.S (39::t)+1))) λy=>r7 (e.st (39::t) pd tr) y [39] [39]):=by rw[iK h.bY h.sfx,ak6 h.bY (dY h.sfx),aO rfl];unfold jq;have b:=(h.nl.h4 h.sfx).tail;refine Y6 h h0 (λq a=>(Ag _ q a).trans (eb _ _)) (by decide) (by grind) λq a c=>?_;grind[Ze,absurd,Sx]
theorem IH(fr:Bool)(n:Nat){t:aa}{pd:aq}(h:ga (36::t)=false):a_ fr n (36::t) pd= .ok () t pd:=by rw[Fe];unfold dH;rw[sm] at h;grind
theorem SA(fr:Bool)(n:Nat){t:aa}{pd:aq}{a:Unit}{r':aa}{b:aq}(h:a_ fr n (36::t) pd= .ok a r' b):r'.length<(36::t).length:=by
 cases c:ga (36::t) with
 |true=>exact(l4 fr n).lt c h
 |false=>grind[IH]
theorem CD(fr:Bool)(n:Nat)(dq:Option (ak Unit))(t:aa)(pd:aq):cC (a_ fr n) dq (36::t) pd=a_ fr n (36::t) pd:=by
 unfold cC;simp only;rw[aW (by decide),aW (by decide)];cases a:ga (36::t) with
 |true=>simp
 |false=>grind[IH]
theorem Fm{D:ak Unit}{dq:Option (ak Unit)}{b:UInt8}{t:aa}{pd:aq}(a:b≠92)(c:b≠96)(d:b≠36)(e:dq=none\/(b≠39/\b≠34)):cC D dq (b::t) pd= .ok () t pd:=by
 unfold cC;simp only;have f:ga (b::t)=false:=by grind[sm]
 grind
section
variable{R:bh}{n:Nat}(hD:kp R n){e:cd}(bd:e.ne=30- (n:Int))
include hD bd
theorem alw{r:aa}{pd:aq}{tr:Bool}(h:cB e r pd):bM false e r (jc 34 (cC (a_ true n) none) r pd) (λst=>st) (λ_ _ _=>True) (fixF (wN R λst=>some st) bC (e.st r pd tr)):=by
 unfold jc;refine bM.rep (en:=λ_ r pd x=>∃tr,x=e.st r pd tr) (λk s r pd x c l L hk=>?_) bC () r pd _ (vM h) h ⟨tr,rfl⟩;obtain⟨tr,rfl⟩:=l
 have E:∀x:ah,x.2.2.2.2.1≠0->k x=some x:=by intro x l;obtain⟨k',ad⟩:=L x;simp_all[wN]
 have F:∀x:ah,x.2.2.2.2.1≠0->∃b,k x=some b/\b=x:=λx l=>⟨x,E x l,rfl⟩
 have G:∀r' d m,r'<:+r->cB e r' d->r'.length<r.length->fW e r' d m->bM false e r (ca (λ_ r pd=>match r with
  |[]=>b6 [] r pd
  |b::t=>if b=34 then .ok (.inr ()) t pd else(ae (cC (a_ true n) none) λ_=>aU (.inl ())) r pd) () r' d) (λst=>st) (λ_ _ _=>True) (k m):=λr' d m M a2 a3 N=>hk () r' d m M a2 a3 (by obtain⟨tr,ad,_⟩:=N;grind)
 unfold wN a9 cd.st;dsimp only;simp only[bx,aK];rw[vJ,aO rfl];cases r with
 |nil=>
  simp only[bx,aK];obtain⟨o,O,H⟩:=Fj (tr:=tr) (x:=[]) c (by simp);have P:g3 (e.S,ay e.S [],e.ne,pd,0,0,[],[],tr) []=some o:=O;rw[P,aO rfl];refine⟨o,?_,?_⟩
  ·exact E o (by rw[H.1];decide)
  ·exact H.s
 |cons b t=>
  have j:t<:+b::t:=eb b t;have I:=iK c.bY c.sfx;simp only[reduceCtorEq,bF,aS];have Q:∀p u v w y z A,ia (e.S,ay e.S (b::t),p,w,u,v,y,z,A)=some b:=λp u v w y z A=>vK c.sfx p u v w y z A
  rw[Q];simp only[nY,nT,mC,nS,qf,I];by_cases J:b=34
  ·subst J;simp only[bx,aK,cG];exact⟨_,rfl,j,c.mono j,⟨tr,rfl,λS=>absurd S (c.yJ (by decide))⟩,trivial⟩
  simp only[J,bF,aS,cm];by_cases B:b=92
  ·subst B;simp only[bx,aK];have aC:wM (e.S,ay e.S (92::t),e.ne,pd,0,0,[],[],tr)=some (e.st (t.drop 1) pd tr):=Sy c;rw[aC,aO rfl];have aH:t.drop 1<:+92::t:=(lE 1 t).trans j;have hl:(t.drop 1).length<(92::t).length:=by grind
   have i:ae (cC (a_ true n) none) (λ_=>(aU (.inl ()):ak (Unit⊕Unit))) (92::t) pd= .ok (.inl ()) (t.drop 1) pd:=by rfl
   rw[i];exact bM.inl hl (hk () _ pd _ aH (c.mono aH) hl ⟨tr,rfl⟩)
  simp only[B,bF,aS];by_cases C:b=96
  ·subst C;simp only[bx,aK];have i:cC (a_ true n) none (96::t) pd=jq gX [96] t pd:=by rfl
   have:=Fl (f:=λ_ r pd=>match r with
    |[]=>b6 [] r pd
    |b::t=>if b=34 then .ok (.inr ()) t pd else(ae (cC (a_ true n) none) λ_=>aU (.inl ())) r pd) (part:=cC (a_ true n) none) (r:=96::t) (pd:=pd) (pr:=λst=>st) (cv:=λ_ _ _=>True) (k:=k) (by rw[i];exact Sz (tr:=tr) c fK) (λa r' d g=>by
     rw[i] at g;unfold jq at g;cases K:gX t with
     |none=>grind
     |some q=>rw[K] at g;cases g;have:=(EU _ _ _ (cX _) K).length_le;grind) G F
   rw[I,ss] at this;exact this
  simp only[C,bF,aS];by_cases D:b=36
  ·subst D;simp only[bx,aK];exact Fl (part:=cC (a_ true n) none) (by rw[CD];exact hD.im e bd t pd tr c) (λa r' d g=>by rw[CD] at g;exact SA true n g) G F
  ·simp only[D,bF,aS];have i:ae (cC (a_ true n) none) (λ_=>(aU (.inl ()):ak (Unit⊕Unit))) (b::t) pd= .ok (.inl ()) t pd:=by unfold ae;rw[Fm B C D (.inl rfl)];rfl
   rw[i];exact bM.inl (by simp) (hk () _ pd _ j (c.mono j) (by simp) ⟨tr,rfl⟩)
theorem Zg{t r0:aa}{pd:aq}{tr:Bool}(h:cB e (34::t) pd)(h0:34::t<:+r0)(j:r0<:+e.S):bM false e r0 (eH (a_ true n) t pd) (λst=>st) (λ_ _ _=>True) (Ef R (e.st (34::t) pd tr)):=by
 have k:=iK h.bY h.sfx;have d:t<:+34::t:=eb 34 t;have g:=h.mono d;unfold Ef a9;have l:((e.st (34::t) pd tr).1,W ((e.st (34::t) pd tr).2.1+1),(e.st (34::t) pd tr).2.2.1,(e.st (34::t) pd tr).2.2.2.1,(e.st (34::t) pd tr).2.2.2.2.1,(e.st (34::t) pd tr).2.2.2.2.2.1,(e.st (34::t) pd tr).2.2.2.2.2.2.1,(e.st (34::t) pd tr).2.2.2.2.2.2.2.1,(e.st (34::t) pd tr).2.2.2.2.2.2.2.2)=e.st t pd tr:=by show(e.S,W (ay e.S (34::t)+1),e.ne,pd,(0:Int),(0:Int),([]:aa),([]:bs),tr)=_;rw[k];rfl
 rw[l];have m:=Zc (R:=R) (a:=[34]) (b:=[34]) bC (e.st t pd tr);refine bM.dV ?_ m;obtain⟨f,o,c⟩:=alw hD bd (tr:=tr) g;rw[o,aO rfl];unfold eH ak.named ak.aM;have i:=aI.Cm (n:=11) (aI.part (w3 true n▸(tm true n).dl) (dq:=none) (λq h=>by cases h)) 34 t pd;cases hm:jc 34 (cC (a_ true n) none) t pd with
 |ok a r1 v=>rw[hm] at c;obtain⟨p,a2,a3,_⟩:=c;refine⟨f,pG ?_,p.trans (d.trans h0),a2,a3,trivial⟩;obtain⟨w,rfl,_⟩:=a3;show(0:Int)≠1;decide
 |more op nd ds=>rw[hm] at c i;simp only[dZ] at i;have aC:=g.jJ;obtain⟨r,s,u⟩:=xb (nm:=[34]) (x:=[34]) (r0:=r0) (r1:=t) c.z (d.trans h0) j (.inr (by grind)) (by grind) h.bY (by simp);exact⟨r,s,u.s⟩
 |bad q=>rw[hm] at c;exact⟨f,pG (by rw[c.1];decide),iL.mono c (d.trans h0)⟩
 |deep q=>rw[hm] at c;exact⟨f,pG (by rw[c.1];decide),iL.mono c (d.trans h0)⟩
theorem alx{r:aa}{pd:aq}{tr:Bool}(h:cB e r pd):bM false e r (jc 125 (cC (a_ true n) (some (eH (a_ true n)))) r pd) (λst=>st) (λ_ _ _=>True) (fixF (wS R λst=>some st) bC (e.st r pd tr)):=by
 unfold jc;refine bM.rep (en:=λ_ r pd x=>∃tr,x=e.st r pd tr) (λk s r pd x d m N hk=>?_) bC () r pd _ (vM h) h ⟨tr,rfl⟩;obtain⟨tr,rfl⟩:=m
 have K:∀x:ah,x.2.2.2.2.1≠0->k x=some x:=by intro x m;obtain⟨k',ad⟩:=N x;rw[ad];unfold wS;grind
 have o:∀x:ah,x.2.2.2.2.1≠0->∃b,k x=some b/\b=x:=λx m=>⟨x,K x m,rfl⟩
 have p:∀r' i u,r'<:+r->cB e r' i->r'.length<r.length->fW e r' i u->bM false e r (ca (λ_ r pd=>match r with
  |[]=>b6 [] r pd
  |b::t=>if b=125 then .ok (.inr ()) t pd else(ae (cC (a_ true n) (some (eH (a_ true n)))) λ_=>aU (.inl ())) r pd) () r' i) (λst=>st) (λ_ _ _=>True) (k u):=λr' i u O a2 a3 P=>hk () r' i u O a2 a3 (by obtain⟨tr,ad,_⟩:=P;grind)
 unfold wS a9 cd.st;dsimp only;simp only[bx,aK];rw[vJ,aO rfl];cases r with
 |nil=>
  simp only[bx,aK];obtain⟨v,Q,L⟩:=Fj (tr:=tr) (x:=[]) d (by simp);have S:g3 (e.S,ay e.S [],e.ne,pd,0,0,[],[],tr) []=some v:=Q;rw[S,aO rfl];refine⟨v,?_,?_⟩
  ·exact K v (by rw[L.1];decide)
  ·exact L.s
 |cons b t=>
  have j:t<:+b::t:=eb b t;have w:=iK d.bY d.sfx;simp only[reduceCtorEq,bF,aS];have T:∀y z A B C D E,ia (e.S,ay e.S (b::t),y,B,z,A,C,D,E)=some b:=λy z A B C D E=>vK d.sfx y z A B C D E
  rw[T];simp only[nY,nT,mC,nS,qf,qQ,Y8,w];by_cases M:b=125
  ·subst M;simp only[bx,aK,cG];exact⟨_,rfl,j,d.mono j,⟨tr,rfl,λU=>absurd U (d.yJ (by decide))⟩,trivial⟩
  simp only[M,bF,aS,cm];by_cases F:b=92
  ·subst F;simp only[bx,aK];have aC:wM (e.S,ay e.S (92::t),e.ne,pd,0,0,[],[],tr)=some (e.st (t.drop 1) pd tr):=Sy d;rw[aC,aO rfl];have aH:t.drop 1<:+92::t:=(lE 1 t).trans j;have hl:(t.drop 1).length<(92::t).length:=by grind
   have g:ae (cC (a_ true n) (some (eH (a_ true n)))) (λ_=>(aU (.inl ()):ak (Unit⊕Unit))) (92::t) pd= .ok (.inl ()) (t.drop 1) pd:=by rfl
   rw[g];exact bM.inl hl (hk () _ pd _ aH (d.mono aH) hl ⟨tr,rfl⟩)
  simp only[F,bF,aS];by_cases G:b=39
  ·subst G;simp only[bx,aK];have g:cC (a_ true n) (some (eH (a_ true n))) (39::t) pd=jq gb [39] t pd:=by rfl
   have:=Fl (f:=λ_ r pd=>match r with
    |[]=>b6 [] r pd
    |b::t=>if b=125 then .ok (.inr ()) t pd else(ae (cC (a_ true n) (some (eH (a_ true n)))) λ_=>aU (.inl ())) r pd) (part:=cC (a_ true n) (some (eH (a_ true n)))) (r:=39::t) (pd:=pd) (pr:=λst=>st) (cv:=λ_ _ _=>True) (k:=k) (by rw[g];exact Zf (tr:=tr) d fK) (λa r' i c=>by
     rw[g] at c;unfold jq at c;cases l:gb t with
     |none=>grind
     |some q=>rw[l] at c;cases c;have:=(Ag _ _ l).length_le;grind) p o
   rw[w,ss] at this;exact this
  simp only[G,bF,aS];by_cases H:b=34
  ·subst H;simp only[bx,aK];have g:cC (a_ true n) (some (eH (a_ true n))) (34::t) pd=eH (a_ true n) t pd:=by rfl
   refine Fl (part:=cC (a_ true n) (some (eH (a_ true n)))) (by rw[g];exact Zg hD bd d fK d.sfx) (λa r' i c=>?_) p o;rw[g] at c;have:=((ar.double (l4 true n)).sfx c).length_le;grind
  simp only[H,bF,aS];by_cases I:b=96
  ·subst I;simp only[bx,aK];have g:cC (a_ true n) (some (eH (a_ true n))) (96::t) pd=jq gX [96] t pd:=by rfl
   have:=Fl (f:=λ_ r pd=>match r with
    |[]=>b6 [] r pd
    |b::t=>if b=125 then .ok (.inr ()) t pd else(ae (cC (a_ true n) (some (eH (a_ true n)))) λ_=>aU (.inl ())) r pd) (part:=cC (a_ true n) (some (eH (a_ true n)))) (r:=96::t) (pd:=pd) (pr:=λst=>st) (cv:=λ_ _ _=>True) (k:=k) (by rw[g];exact Sz (tr:=tr) d fK) (λa r' i c=>by
     rw[g] at c;unfold jq at c;cases l:gX t with
     |none=>grind
     |some q=>rw[l] at c;cases c;have:=(EU _ _ _ (cX _) l).length_le;grind) p o
   rw[w,ss] at this;exact this
  simp only[I,bF,aS];by_cases J:b=36
  ·subst J;simp only[bx,aK];exact Fl (part:=cC (a_ true n) (some (eH (a_ true n)))) (by rw[CD];exact hD.im e bd t pd tr d) (λa r' i c=>by rw[CD] at c;exact SA true n c) p o
  ·simp only[J,bF,aS];have g:ae (cC (a_ true n) (some (eH (a_ true n)))) (λ_=>(aU (.inl ()):ak (Unit⊕Unit))) (b::t) pd= .ok (.inl ()) t pd:=by unfold ae;rw[Fm F I J (.inr ⟨G,H⟩)];rfl
   rw[g];exact bM.inl (by simp) (hk () _ pd _ j (d.mono j) (by simp) ⟨tr,rfl⟩)
end
def jt:Ctx->aa
 | .text=>[]| .paren=>[41]| .item=>[59,59]|_=>[119]
def oR:Ctx->bs
 | .qL=>[[125]]| .rl=>[iQ]| .p9=>[ib,hM,e8]| .ke=>[e8]| .py=>[gN]| .done=>[iH]|_=>[]
def xc:Ctx->Bool->Bool
 | .text,_=>false
 | .paren,_=>true
 | .item,no=>no
 |_,no=> !no
structure oo(R:bh)(n:Nat):Prop where
 im:∀(e:cd)(c:Ctx)(no:Bool),xc c no=true->e.ne=30- (n:Int)->∀(r:aa)(pd:aq)(st:ah),cB e r pd->fW e r pd st->bM false e r ((aZ true n).ls c no r pd) (λb=>b.2) (λa _ b=>b.1=(a:Int)) (R.nE st (jt c) (oR c) (!no))
def cd.up(e:cd):cd:=⟨e.S,e.ne+1⟩
theorem nW.tq{e:cd}{r:aa}{st:ah}(h:nW e.up r st):nW e r st:=⟨h.s,h.lo,h.bg,h.nd,h.op⟩
theorem cB.xd{e:cd}{r:aa}{pd:aq}(h:cB e r pd):cB e.up r pd:=⟨h.bY,h.nl,h.IC,h.sfx,h.jJ⟩
theorem cB.tq{e:cd}{r:aa}{pd:aq}(h:cB e.up r pd):cB e r pd:=⟨h.bY,h.nl,h.IC,h.sfx,h.jJ⟩
theorem pI{e:cd}{r r0:aa}{pd:aq}{tr:Bool}(p:Int)(h:cB e r pd)(h0:r<:+r0):∃st,hg (e.st r pd tr) p=some st/\iL e r0 st:=by
 refine⟨_,rfl,rfl,rfl,?_,?_,?_,?_⟩
 ·show ay e.S r0<=ay e.S r;grind[ay]
 ·show ay e.S r<=_;have:= @oQ r e.S;omega
 ·show([]:aa).length+ei pd<=_;have:=h.jJ;grind
 ·show([]:bs).length<=_;simp
theorem aly{j:aa->Option ah}{a:(Int×aa)->Option ah}(x:aa):Ex j a (0,x)=j x:=rfl
theorem alz{j:aa->Option ah}{a:(Int×aa)->Option ah}(k:Nat)(x:aa)(c:x.length+k<=100000000):Ex j a (((k+1:Nat):Int),x)=a ((k:Int),x++[41]):=by
 unfold Ex;dsimp only;have h0:(0:Int)<((k+1:Nat):Int):=by omega
 have b:W (((k+1:Nat):Int)-1)=(k:Int):=by grind[dU]
 rw[decide_eq_true h0,aK,b8 (by grind),b]
theorem Zi{j:aa->Option ah}:∀(n k:Nat)(x:aa),k<n->x.length+k<=100000000->fixF (Ex j) n ((k:Int),x)=j (x++List.replicate k 41):=by
 intro n;induction n with
 |zero=>omega
 |succ n a=>
  intro k x h b;rw[eZ];cases k with
  |zero=>simp[aly,trans,List.replicate_zero,List.append_nil]
  |succ k=>grind[alz,List.length_append,List.length_singleton,List.append_assoc]
def yK(st:ah):ah:=(st.1,W (st.2.1+1),W (st.2.2.1-1),st.2.2.2.1,st.2.2.2.2.1,st.2.2.2.2.2.1,st.2.2.2.2.2.2.1,st.2.2.2.2.2.2.2.1,st.2.2.2.2.2.2.2.2)
def su(st:ah):ah:=(st.1,st.2.1,W (st.2.2.1-1),st.2.2.2.1,st.2.2.2.2.1,st.2.2.2.2.2.1,st.2.2.2.2.2.2.1,st.2.2.2.2.2.2.2.1,st.2.2.2.2.2.2.2.2)
theorem nW.yK{e:cd}{r1 r0:aa}{st:ah}(h:nW e r1 st)(ad:r1<:+r0)(h0:r0<:+e.S)(hl:r1.length<r0.length)(f:e.S.length<=1000000):nW e r0 (yK st):=by
 have a:=h.lo;have b:=h.bg;have g:=eI h0;have i:0<=ay e.S r1:=by grind[ay]
 have c:ay e.S r0<=ay e.S r1:=by grind[ay]
 have d:W (st.2.1+1)=st.2.1+1:=dU (by omega) (by omega);refine⟨h.s,?_,?_,h.nd,?_⟩
 ·show _<=W (st.2.1+1);omega
 ·show W (st.2.1+1)<=_;omega
 ·have:=h.op;show st.2.2.2.2.2.2.2.1.length<=_;omega
theorem alC{e:cd}{r1:aa}{st:ah}(h:nW e r1 st)(a:r1<:+e.S)(d:e.S.length<=1000000)(hl:(e.S.length:Int)<=st.2.1):(e.S.length:Int)<=(yK st).2.1:=by have b:=h.bg;have f:=eI a;have c:W (st.2.1+1)=st.2.1+1:=dU (by omega) (by omega);show _<=W (st.2.1+1);omega
theorem nW.su{e:cd}{r0:aa}{st:ah}(h:nW e r0 st):nW e r0 (su st):=⟨h.s,h.lo,h.bg,h.nd,h.op⟩
theorem SB{α:Type}{m:ak α}{x n r:aa}{pd:aq}{a:α}{r1:aa}{b:aq}(h:m r pd= .ok a r1 b):((m.aM x).named n) r pd= .ok a r1 b:=by grind[ak.named,ak.aM]
theorem SC{α:Type}{m:ak α}{x n r:aa}{pd:aq}{op:bs}{nd:aa}{ds:aq}(h:m r pd= .more op nd ds):((m.aM x).named n) r pd= .more (n::op) (cO nd ds x).1 (cO nd ds x).2:=by grind[ak.named,ak.aM]
theorem Zk{α:Type}{m:ak α}{x n r q:aa}{pd:aq}(h:m r pd= .bad q):((m.aM x).named n) r pd= .bad q:=by grind[ak.named,ak.aM]
theorem Zl{α:Type}{m:ak α}{x n r q:aa}{pd:aq}(h:m r pd= .deep q):((m.aM x).named n) r pd= .deep q:=by grind[ak.named,ak.aM]
theorem jM{α β:Type}{m:ak α}{k:α->ak β}{r q:aa}{pd:aq}(h:m r pd= .deep q):ae m k r pd= .deep q:=by grind[ae]
section
variable{R:bh}{n:Nat}(gF:∀m,n=m+1->kp R m/\oo R m)(ax:n<=30){e:cd}(bd:e.ne=30- (n:Int))
include gF ax bd
theorem alD{t:aa}{pd:aq}{tr:Bool}(h:cB e (36::t) pd):bM false e (36::t) (a_ true n (36::t) pd) (λst=>st) (λ_ _ _=>True) (HX R (e.st (36::t) pd tr)):=by
 have D:t<:+36::t:=eb 36 t;have bS:=iK h.bY h.sfx;have tg:=h.yJ (by decide);have Mm:s4 (e.st (36::t) pd tr) 1=some (t.headD 0):=Sv h 1 (by decide);have I:s4 (e.st (36::t) pd tr) 2=some ((t.drop 1).headD 0):=Sv h 2 (by decide);unfold HX;rw[Mm];simp only[nY,Cp,Cq];rw[I,fV];cases t with
 |nil=>grind
 |cons c u=>
  simp only[y7,F5,v3];have Mq:c::u<:+e.S:=dY h.sfx;have z:u<:+36::c::u:=(eb c u).trans D;by_cases aG:c=40
  ·subst aG;simp only[bx,cG,aK];have k1:u≠[]:=(h.mono D).yJ (by decide);cases u with
   |nil=>grind
   |cons d v=>
    simp only[y7];by_cases aH:d=40
    ·
     subst aH;simp only[bx,aK];have mm:W (ay e.S (36::40::40::v)+3)=ay e.S v:=ko (w:=[36,40,40]) h.bY h.sfx;have l:v<:+36::40::40::v:=gQ [36,40,40] v;have aC:a_ true n (36::40::40::v) pd=nk v pd:=by rw[Fe];rfl
     rw[aC];have ad:(e.st (36::40::40::v) pd tr).1=e.S:=rfl;have af:(e.st (36::40::40::v) pd tr).2.1=ay e.S (36::40::40::v):=rfl;rw[ad,af,mm,ala h.bY (l.trans h.sfx),aO rfl];unfold nk a9;cases ag:hL 0 v with
     |bad q=>simp only[qg,show(decide ((-2:Int)= -2))=true from rfl,aK];obtain⟨st,g,f⟩:=pI (tr:=tr) (ay e.S q) h fK;rw[g,aO rfl];exact⟨_,rfl,f.1,f.2.s,f.2.lo,f.2.bg,by have:=f.2.nd;have i:=h.jJ;cases g;omega,by cases g;exact f.2.op⟩
     |ok q=>
      have E:=Ae 0 v q ag;have hl:=eI (E.trans (l.trans h.sfx));have h0:¬ay e.S q= -2:=by grind[ay]
      simp only[qg,h0,bF,aS];have iT:(0:Int)=((0:Nat):Int):=rfl;rw[iT,Zi bC 0 [] (by simp[gg]) (by simp)]
      have:=Sq (q:=false) (tr:=tr) (o:=some q) (nm:=[36,40,40]) (x:=[]) h fK (λJ F=>by grind) (by simp) (by simp) (by simp) (λJ F lC=>by
       cases F;exfalso;have dG:=(h.nl.h4 h.sfx).h4 l
       have:∃x,v=x++41::q:=by
        have:∀(r:aa)(d:Nat)(q:aa),hL d r= .ok q->∃x,r=x++41::q:=by
         intro r;induction r with
         |nil=>simp[hL]
         |cons b t a4=>
          intro d q i;unfold hL at i;split at i
          ·cases i
          ·split at i
           ·grind
           ·split at i
            ·split at i
             ·grind
             ·split at i
              ·cases i
              ·split at i
               ·rename_i arP _ K;cases i;subst K;exact⟨[b],rfl⟩
               grind
            grind
        grind
       grind[Sx])
      simp only[kS] at this;obtain⟨st,g,f⟩:=this;simp only[List.replicate_zero,rE];rw[g,aO rfl];exact⟨st,rfl,f⟩
     |more k=>have hk:=aI.Si v 0 k ag;have hl:=eI (l.trans h.sfx);have hb:=h.bY;simp only[qg,show(decide ((-1:Int)= -2))=false from rfl,aS];rw[Zi bC k [] (by grind[gg]) (by grind)];have:=Sq (q:=false) (tr:=tr) (o:=none) (nm:=[36,40,40]) (x:=List.replicate k 41) h List.suffix_rfl (λJ F=>by grind) (by simp) (by grind) (by simp) (λJ F=>by grind);simp only[kS] at this;obtain⟨st,g,f⟩:=this;simp only[tD];rw[g,aO rfl];exact⟨st,rfl,f⟩
    ·
     simp only[aH,bF,aS];unfold a9 yi;have G:¬([36,40,40]:aa).isPrefixOf (36::40::d::v)=true:=by grind
     cases n with
     |zero=>
      have p:decide (30<=(e.st (36::40::d::v) pd tr).2.2.1)=true:=by show decide (30<=e.ne)=true;grind
      rw[p];have aC:a_ true 0 (36::40::d::v) pd= .deep (36::40::d::v):=by rw[Fe];unfold dH;rw[aW G,bm (by simp)];rfl
      rw[aC];obtain⟨st,g,f⟩:=pI (tr:=tr) ((e.st (36::40::d::v) pd tr).2.1) h fK;simp only[aK,ss];rw[g,aO rfl,aO rfl];exact⟨_,rfl,by cases g;exact f⟩
     |succ m=>
      obtain⟨Mr,tk⟩:=gF m rfl;have p:decide (30<=(e.st (36::40::d::v) pd tr).2.2.1)=false:=by show decide (30<=e.ne)=false;grind
      rw[p];simp only[aS,nY,aK];have L:e.ne=(e.st (36::40::d::v) pd tr).2.2.1:=rfl;rw[<-L];have M:W (e.ne+1)=e.ne+1:=dU (by omega) (by omega);have N:W ((e.st (36::40::d::v) pd tr).2.1+2)=ay e.S (d::v):=ko (w:=[36,40]) h.bY h.sfx;rw[M,N];have l:d::v<:+36::40::d::v:=z;have A:=(h.mono l).xd;have O:d::v≠[]:=by simp
      have hl:=tk.im e.up .paren true rfl (by show e.ne+1=_;omega) (d::v) pd (e.up.st (d::v) pd tr) A ⟨tr,rfl,λi=>absurd i O⟩;have aC:a_ true (m+1) (36::40::d::v) pd=uq (aZ true m) (d::v) pd:=by rw[Fe];unfold dH js;rw[aW G,bm (by simp)];rfl
      rw[aC];have P:((e.st (36::40::d::v) pd tr).1,ay e.S (d::v),e.ne+1,(e.st (36::40::d::v) pd tr).2.2.2.1,(e.st (36::40::d::v) pd tr).2.2.2.2.1,(e.st (36::40::d::v) pd tr).2.2.2.2.2.1,(e.st (36::40::d::v) pd tr).2.2.2.2.2.2.1,(e.st (36::40::d::v) pd tr).2.2.2.2.2.2.2.1,(e.st (36::40::d::v) pd tr).2.2.2.2.2.2.2.2)=e.up.st (d::v) pd tr:=rfl;rw[P];obtain⟨b,g,f⟩:=hl;have vP:R.nE (e.up.st (d::v) pd tr) [41] [] false=some b:=g;rw[vP,aO rfl];unfold uq;have B:=(tm true m).ls .paren true (d::v) pd;have j2:(d::v).length<(40::d::v).length:=by simp
      have hn:(40::d::v).length<(36::40::d::v).length:=by simp
      cases hk:(aZ true m).ls .paren true (d::v) pd with
      |ok a r1 C=>
       rw[hk] at f;obtain⟨Q,a2,⟨s,a3,bO⟩,eX⟩:=f;dsimp only at a3;rw[aY (SB hk)];obtain⟨ao,e2⟩:=Ap true m;rw[e2] at hk;obtain⟨hH,mo⟩:=yC (by simp) hk;have gG:au r1= .op [41]:=by grind[dR]
       rw[E6 hH gG];obtain⟨q,rfl⟩:=(ic gG).2.1;rw[o0];have j:gr b.2 [36,40] [41]=some b.2:=pG (by rw[a3];show(0:Int)≠1;decide);rw[j,aO rfl,a3];have E:q<:+[41]++q:=gQ [41] q;have kC:W (ay e.S ([41]++q)+1)=ay e.S q:=ko (w:=[41]) h.bY a2.sfx;have lC:q≠[]:=a2.yJ (by decide);have rJ:=(a2.tq.mono E);refine⟨e.st q C s,?_,E.trans (Q.trans l),rJ,⟨s,rfl,λi=>absurd i lC⟩,trivial⟩;show some (e.S,W (ay e.S ([41]++q)+1),W (e.ne+1-1),C,(0:Int),(0:Int),([]:aa),([]:bs),s)=_;rw[kC,dU (by omega) (by omega)];have:e.ne+1-1=e.ne:=by omega
       rw[this];rfl
      |more op nd ds=>rw[hk] at f B;simp only[dZ] at B;have S:=A.jJ;have T:e.up.S=e.S:=rfl;rw[T] at S;obtain⟨U,V,X,Y,Z⟩:=f.z;obtain⟨aP,al,bf⟩:=xb (e:=e) (nm:=[36,40]) (x:=[41]) (r1:=d::v) (r0:=40::d::v) (nd:=nd) (ds:=ds) ⟨U,V,X,Y.tq,Z⟩ (eb _ _) Mq (.inr j2) (by grind) h.bY (by simp);rw[al,aO rfl,dc (SC hk)];obtain⟨qV,ff,cT,H,lN⟩:=bf;exact⟨yK aP,rfl,.inl ⟨qV,ff,cT,H.yK (eb _ _) h.sfx hn h.bY,alC H Mq h.bY lN⟩⟩
      |bad q=>rw[hk] at f;have j:gr b.2 [36,40] [41]=some b.2:=pG (by rw[f.1];decide);rw[j,aO rfl,gY (Zk hk)];exact⟨yK b.2,rfl,f.1,f.2.tq.yK l h.sfx (by simp) h.bY⟩
      |deep q=>rw[hk] at f;have j:gr b.2 [36,40] [41]=some b.2:=pG (by rw[f.1];decide);rw[j,aO rfl,jM (Zl hk)];exact⟨yK b.2,rfl,f.1,f.2.tq.yK l h.sfx (by simp) h.bY⟩
  ·simp only[aG,bF,aS,eC,cm];by_cases xM:c=123
   ·
    subst xM;simp only[bx,aK];unfold a9 yi;have G:¬([36,40,40]:aa).isPrefixOf (36::123::u)=true:=by simp
    have alH:¬([36,40]:aa).isPrefixOf (36::123::u)=true:=by simp
    cases n with
    |zero=>
     have p:decide (30<=(e.st (36::123::u) pd tr).2.2.1)=true:=by show decide (30<=e.ne)=true;grind
     rw[p];have aC:a_ true 0 (36::123::u) pd= .deep (36::123::u):=by rfl
     rw[aC];obtain⟨st,g,f⟩:=pI (tr:=tr) ((e.st (36::123::u) pd tr).2.1) h fK;simp only[aK,ss];rw[g,aO rfl,aO rfl];exact⟨_,rfl,by cases g;exact f⟩
    |succ m=>
     obtain⟨Mr,tk⟩:=gF m rfl;have p:decide (30<=(e.st (36::123::u) pd tr).2.2.1)=false:=by show decide (30<=e.ne)=false;grind
     rw[p];simp only[aS,nY,aK];have L:e.ne=(e.st (36::123::u) pd tr).2.2.1:=rfl;rw[<-L];have M:W (e.ne+1)=e.ne+1:=dU (by omega) (by omega);rw[M];have P:((e.st (36::123::u) pd tr).1,(e.st (36::123::u) pd tr).2.1,e.ne+1,(e.st (36::123::u) pd tr).2.2.2.1,(e.st (36::123::u) pd tr).2.2.2.2.1,(e.st (36::123::u) pd tr).2.2.2.2.2.1,(e.st (36::123::u) pd tr).2.2.2.2.2.2.1,(e.st (36::123::u) pd tr).2.2.2.2.2.2.2.1,(e.st (36::123::u) pd tr).2.2.2.2.2.2.2.2)=e.up.st (36::123::u) pd tr:=rfl;rw[P];have aC:a_ true (m+1) (36::123::u) pd=((qJ (a_ true m)).named [36,123]) u pd:=by rw[Fe];unfold dH js;rw[aW G,aW alH,bm (by simp)];show((aZ true m).pm.named [36,123]) u pd=_;rw[X4]
     rw[aC];unfold Ll a9;have N:W ((e.up.st (36::123::u) pd tr).2.1+2)=ay e.S u:=ko (w:=[36,123]) h.bY h.sfx;have It:((e.up.st (36::123::u) pd tr).1,W ((e.up.st (36::123::u) pd tr).2.1+2),(e.up.st (36::123::u) pd tr).2.2.1,(e.up.st (36::123::u) pd tr).2.2.2.1,(e.up.st (36::123::u) pd tr).2.2.2.2.1,(e.up.st (36::123::u) pd tr).2.2.2.2.2.1,(e.up.st (36::123::u) pd tr).2.2.2.2.2.2.1,(e.up.st (36::123::u) pd tr).2.2.2.2.2.2.2.1,(e.up.st (36::123::u) pd tr).2.2.2.2.2.2.2.2)=e.up.st u pd tr:=by rw[N];rfl
     rw[It];have Mp:=Zd (R:=R) (a:=[36,123]) (b:=[125]) bC (e.up.st u pd tr);have A:=(h.mono z).xd;obtain⟨b,g,f⟩:=alx Mr (e:=e.up) (by show e.ne+1=_;omega) (tr:=tr) A;rw[g,aO rfl] at Mp;refine bM.dV ?_ (mj (λy=>av y _) Mp);unfold qJ;have B:=aI.Cm (n:=11) (aI.yy (w3 true m▸(tm true m).dl)) 125 u pd;have j2:u.length<(123::u).length:=by simp
     have hn:(123::u).length<(36::123::u).length:=by simp
     cases hk:jc 125 (cC (a_ true m) (some (eH (a_ true m)))) u pd with
     |ok a r1 C=>
      rw[hk] at f;obtain⟨Q,a2,⟨s,a3,bO⟩,eX⟩:=f;dsimp only at a3;rw[SB hk];have j:gr b [36,123] [125]=some b:=pG (by rw[a3];show(0:Int)≠1;decide);rw[j,aO rfl,a3];refine⟨e.st r1 C s,?_,Q.trans z,a2.tq,⟨s,rfl,bO⟩,trivial⟩;show some (e.S,ay e.S r1,W (e.ne+1-1),C,(0:Int),(0:Int),([]:aa),([]:bs),s)=_;rw[dU (by omega) (by omega)];have:e.ne+1-1=e.ne:=by omega
      rw[this];rfl
     |more op nd ds=>rw[hk] at f B;simp only[dZ] at B;have S:=A.jJ;have T:e.up.S=e.S:=rfl;rw[T] at S;obtain⟨U,V,X,Y,Z⟩:=f.z;obtain⟨aP,al,bf⟩:=xb (e:=e) (nm:=[36,123]) (x:=[125]) (r1:=u) (r0:=36::123::u) (nd:=nd) (ds:=ds) ⟨U,V,X,Y.tq,Z⟩ z h.sfx (.inr (by omega)) (by grind) h.bY (by simp);rw[al,aO rfl,SC hk];obtain⟨qV,ff,cT,H,lN⟩:=bf;exact⟨su aP,rfl,.inl ⟨qV,ff,cT,H.su,lN⟩⟩
     |bad q=>rw[hk] at f;have j:gr b [36,123] [125]=some b:=pG (by rw[f.1];decide);rw[j,aO rfl,Zk hk];exact⟨su b,rfl,f.1,(f.2.tq.mono z).su⟩
     |deep q=>rw[hk] at f;have j:gr b [36,123] [125]=some b:=pG (by rw[f.1];decide);rw[j,aO rfl,Zl hk];exact⟨su b,rfl,f.1,(f.2.tq.mono z).su⟩
   ·
    simp only[xM,bF,aS];have aQ:ga (36::c::u)=false:=by grind[sm]
    rw[IH true n aQ];refine⟨e.st (c::u) pd tr,?_,D,h.mono D,⟨tr,rfl,λi=>absurd i (by simp)⟩,trivial⟩;show some (e.S,W (ay e.S (36::c::u)+1),e.ne,pd,(0:Int),(0:Int),([]:aa),([]:bs),tr)=_;rw[bS];rfl
end
structure ts(r0:aa)(f:Bool)(r1:aa):Prop where
 sfx:r1<:+r0
 t:f=true->(c4 r0).2=(c4 r1).2/\((c4 r1).2=true->(c4 r0).1=r0.take (r0.length-r1.length)++(c4 r1).1)
 f:f=false->(c4 r0).2=false
theorem ts.start(r:aa):ts r true r:=⟨fK,λ_=>⟨rfl,λ_=>by simp⟩,λh=>by cases h⟩
theorem SD{b:UInt8}{t:aa}(a:c1 (b::t)=false)(h:b=92\/b=39\/b=34\/b=96\/ga (b::t)=true):c4 (b::t)=([],false):=by simp_all[c4]
theorem alI{b:UInt8}{t:aa}(a:c1 (b::t)=false)(h:¬(b=92\/b=39\/b=34\/b=96\/ga (b::t)=true)):(c4 (b::t)).2=(c4 t).2/\((c4 t).2=true->(c4 (b::t)).1=b::(c4 t).1):=by
 have h0:c4 (b::t)=(match c4 t with|(w,true)=>(b::w,true)|(_,false)=>([],false)):=by rw[c4,a,aW (by simp),aW h];grind
 grind
theorem ts.alJ{r0:aa}{f:Bool}{b:UInt8}{t r':aa}(bg:ts r0 f (b::t))(a:c1 (b::t)=false)(h:b=92\/b=39\/b=34\/b=96\/ga (b::t)=true)(c:r'<:+r0):ts r0 false r':=by
 refine⟨c,(λd=>by cases d),λ_=>?_⟩;cases f with
 |true=>rw[(bg.t rfl).1,SD a h]
 |false=>exact bg.f rfl
theorem ts.byte{r0:aa}{f:Bool}{b:UInt8}{t:aa}(bg:ts r0 f (b::t))(c:c1 (b::t)=false)(h:¬(b=92\/b=39\/b=34\/b=96\/ga (b::t)=true)):ts r0 f t:=by
 have a:=bg.sfx;refine⟨(eb b t).trans a,λhf=>?_,bg.f⟩;obtain⟨ad,d⟩:=bg.t hf;obtain⟨g,e⟩:=alI c h;refine⟨by grind,λaC=>?_⟩;rw[d (by grind),e aC];obtain⟨u,rfl⟩:=a;have i:(u++b::t).length- (b::t).length=u.length:=by simp
 have j:(u++b::t).length-t.length=(u++[b]).length:=by grind
 grind
theorem Zm{α β b:Type}{g:Prop}[Decidable g]{m:Option α}{d:α}{k:α->Option β}{G:β->Option b}:av (cR g m d k) G=cR g m d (λa=>av (k a) G):=by grind[cR,ss]
theorem Zn{R:bh}{j:Bool×ah->Option (aa×Bool×ah)}:∀(n:Nat)(x:Bool×ah),fixF (wO R j) n x=av (fixF (wO R λx=>some ([],x.1,x.2)) n x) λy=>j (y.2.1,y.2.2)
 |0,x=>rfl
 |n+1,x=>by
  rw[eZ,eZ];have a:=Zn (R:=R) (j:=j) n;generalize fixF (wO R j) n=c at a;generalize fixF (wO R λx=>some ([],x.1,x.2)) n=d at a;obtain⟨f,e,g,i,k,b,l,m,o,p⟩:=x;unfold wO a9;dsimp only;by_cases h:b=0
  ·subst h;simp only[bx,aK,ss,Sw,Zm,a,nY]
  simp_all[nY]
theorem SE{R:bh}{e:cd}{r0:aa}{pd:aq}{tr:Bool}{b:aa×Bool×ah}(h:cB e r0 pd)(j:b.2.2.1=e.S)(d:p7 R (e.st r0 pd tr)=some b):b.1.length<=e.S.length/\((e.S.length:Int)<=b.2.2.2.1->b.1=r0):=by
 unfold p7 a9 at d;dsimp only at d;rw[Zn] at d;cases l:fixF (wO R λx=>some ([],x.1,x.2)) bC (true,(e.st r0 pd tr).1,(e.st r0 pd tr).2.1,(e.st r0 pd tr).2.2.1,(e.st r0 pd tr).2.2.2.1,(e.st r0 pd tr).2.2.2.2.1,(e.st r0 pd tr).2.2.2.2.2.1,(e.st r0 pd tr).2.2.2.2.2.2.1,(e.st r0 pd tr).2.2.2.2.2.2.2.1,(e.st r0 pd tr).2.2.2.2.2.2.2.2) with
 |none=>rw[l] at d;cases d
 |some y=>
  rw[l,aO rfl] at d;obtain⟨v,f,g,k,m,n,o,p,q,r,s⟩:=y;dsimp only at d
  have t:∀(i:Int),a8 (0<=(e.st r0 pd tr).2.1/\(e.st r0 pd tr).2.1<=i/\i<=(g.length:Int)) (some (b9 g (e.st r0 pd tr).2.1 i,f,(g,k,m,n,o,p,q,r,s)))=some b->b=(b9 g (ay e.S r0) i,f,(g,k,m,n,o,p,q,r,s)):=by
   intro i bq;unfold a8 at bq;split at bq
   ·cases bq;rfl
   grind
  have u:∀(a c:Int),(b9 g a c).length<=g.length:=by intro a c;unfold b9;grind
  by_cases aG:(g.length:Int)<k
  ·simp only[aG,bx,aK] at d;have:=t _ d;subst this;dsimp only at j⊢;subst j;exact⟨u _ _,λ_=>LS h.sfx⟩
  ·simp only[aG,bF,aS] at d;have:=t _ d;subst this;dsimp only at j⊢;subst j;refine⟨u _ _,λhle=>?_⟩;have:k=(e.S.length:Int):=by omega
   rw[this];exact LS h.sfx
section
variable{R:bh}{n:Nat}(hD:kp R n){e:cd}(bd:e.ne=30- (n:Int))
include hD bd
theorem Fq{r0:aa}{J:aq}{tr0:Bool}(h:cB e r0 J):bM false e r0 (cP (a_ true n) r0 J) (λb=>b.2.2) (λ_ r' b=>b.1=r0.take (r0.length-r'.length)/\b.2.1=(c4 r0).2/\(b.2.1=true->b.1=(c4 r0).1)) (p7 R (e.st r0 J tr0)):=by
 unfold p7 a9 cP;have alK:=eI h.sfx;have m6:=h.bY;have Zj:0<=ay e.S r0:=by grind[ay]
 refine bM.rep (en:=λ_ r pd (x:Bool×ah)=>∃tr,x.2=e.st r pd tr/\ts r0 x.1 r) (λk s r pd x c D mE hk=>?_) bC () r0 J _ (vM h) h ⟨tr0,rfl,ts.start r0⟩;obtain⟨f,x⟩:=x;obtain⟨tr,D,bg⟩:=D;dsimp only at D bg;subst D;have Zs:=bg.sfx;have N:ay e.S r0<=ay e.S r:=by grind[ay]
 have j0:∀(g:Bool)(st:ah),st.1=e.S->ay e.S r0<=st.2.1->∃w,(bif decide ((st.1.length:Int)<st.2.1) then a8 (0<=ay e.S r0/\ay e.S r0<=(st.1.length:Int)/\(st.1.length:Int)<=(st.1.length:Int)) (some (b9 st.1 (ay e.S r0) (st.1.length:Int),g,st))
   else a8 (0<=ay e.S r0/\ay e.S r0<=st.2.1/\st.2.1<=(st.1.length:Int)) (some (b9 st.1 (ay e.S r0) st.2.1,g,st)))=some (w,g,st):=by
  intro g st ad F;by_cases aG:(st.1.length:Int)<st.2.1
  ·simp_all[b8,oQ]
  ·simp only[aG,bF,aS];simp_all[b8]
 have gf:∀(x:Bool×ah),x.2.2.2.2.2.1≠0->x.2.1=e.S->ay e.S r0<=x.2.2.1->∃w,k x=some (w,x.1,x.2):=by intro x D ad F;obtain⟨k',jj⟩:=mE x;rw[jj];unfold wO;dsimp only;simp only[D,bF,aS];exact j0 x.1 x.2 ad F
 unfold wO a9 cd.st;dsimp only;simp only[bx,aK];rw[vJ,aO rfl];cases r with
 |nil=>simp only[bx,aK];obtain⟨E,a1,O⟩:=Fj (tr:=tr) (x:=[]) c (by simp);have tp:g3 (e.S,ay e.S [],e.ne,pd,0,0,[],[],tr) []=some E:=a1;rw[tp,aO rfl];obtain⟨w,l⟩:=j0 f E O.2.2.2.1.s (by have:=O.2.2.2.1.lo;omega);exact⟨_,l,O.s⟩
 |cons b t=>
  have m:t<:+b::t:=eb b t;have bS:=iK c.bY c.sfx;simp only[reduceCtorEq,bF,aS];have nA:∀o p u v z A B,ia (e.S,ay e.S (b::t),o,v,p,u,z,A,B)=some b:=λo p u v z A B=>vK c.sfx o p u v z A B
  have P:∀o p u v z A B,hr (e.S,ay e.S (b::t),o,v,p,u,z,A,B)=some (br (b::t)):=λo p u v z A B=>ID c.bY c.sfx o p u v z A B
  rw[nA];simp only[nY,Sn,pD];rw[P,fV];have oe:(bif(bif f_ b then true else decide (b=10)) then true else(!decide ((if(bif f_ b then true else decide (b=10))=false then br (b::t) else [])=[])))=c1 (b::t):=by show _=(f_ b||(b==10)||(br (b::t)!=[]));grind
  rw[oe];by_cases l:c1 (b::t)=true
  ·rw[bm l,l];simp only[aK];have Q:¬(e.S.length:Int)<ay e.S (b::t):=by simp[oQ]
   simp only[Q,bF,aS];rw[b8 ⟨Zj,N,oQ⟩];have g1:=Il h.sfx Zs;refine⟨_,rfl,fK,c,⟨tr,rfl,λhh=>by cases hh⟩,g1,?_,?_⟩
   ·cases f with
    |true=>rw[(bg.t rfl).1];unfold c4;grind
    |false=>exact(bg.f rfl).symm
   ·intro hf;have Gw:f=true:=hf;have:=(bg.t Gw).2 (by unfold c4;grind);rw[this];show b9 e.S (ay e.S r0) (ay e.S (b::t))=_;rw[g1];have aC:(c4 (b::t)).1=[]:=by unfold c4;grind
    grind
  have L:c1 (b::t)=false:=by grind
  rw[aW l,L];simp only[aS,nT,mC,nS,qf,qQ];have tN:∀(g:Bool),(∀r',r'<:+t->ts r0 g r')->∀r' d E,r'<:+t->cB e r' d->fW e r' d E->bM false e (b::t) (ca (λ_ r pd=>match r with
    |[]=>b6 [] r pd
    |_::_=>if c1 r then .ok (.inr ()) r pd else(ae (cC (a_ true n) (some (eH (a_ true n)))) λ_=>aU (.inl ())) r pd) () r' d) (λb=>b.2.2) (λ_ r' b=>b.1=r0.take (r0.length-r'.length)/\b.2.1=(c4 r0).2/\(b.2.1=true->b.1=(c4 r0).1)) (k (g,E)):=by
   intro g bq r' d E S a2 a3;obtain⟨vL,rfl,_⟩:=a3;exact hk () r' d (g,e.st r' d vL) (S.trans m) a2 (by grind) ⟨vL,rfl,bq r' S⟩
  have M:∀(g:Bool)(y:Option ah)(K:ah->Option (aa×Bool×ah)),(∀r',r'<:+t->ts r0 g r')->bM false e (b::t) (cC (a_ true n) (some (eH (a_ true n))) (b::t) pd) (λst=>st) (λ_ _ _=>True) y->(∀a r' d,cC (a_ true n) (some (eH (a_ true n))) (b::t) pd= .ok a r' d->r'<:+t)->(∀st,K st=k (g,st))->
    bM false e (b::t) (cN (λ_ r pd=>match r with|[]=>b6 [] r pd|_::_=>if c1 r then .ok (.inr ()) r pd else(ae (cC (a_ true n) (some (eH (a_ true n)))) λ_=>aU (.inl ())) r pd) (b::t) (ae (cC (a_ true n) (some (eH (a_ true n)))) (λ_=>aU (.inl ())) (b::t) pd)) (λb=>b.2.2) (λ_ r' b=>b.1=r0.take (r0.length-r'.length)/\b.2.1=(c4 r0).2/\(b.2.1=true->b.1=(c4 r0).1)) (av y K):=by
   intro g y K bq T g4 l6
   have Zt:∀st:ah,st.2.2.2.2.1≠0->nW e (b::t) st->∃w,K st=some (w,g,st):=by intro st ad F;rw[l6];exact gf (g,st) ad F.s (by have:=F.lo;grind)
   refine bM.iy c2.k T (λa r1 aF C i s1 v1 gM _=>?_) (λop nd ds C _ fZ=>?_) (λC dF=>?_)
   ·have G:=g4 a r1 aF i;rw[l6];exact bM.inl (by grind) (tN g bq r1 aF C G v1 gM)
   ·obtain⟨w,l⟩:=Zt C (by rw[fZ.z.1];decide) fZ.z.2.2.2.1;grind
   ·obtain⟨w,l⟩:=Zt C (by rw[dF.1];decide) dF.2;grind
  have H:(b=92\/b=39\/b=34\/b=96\/ga (b::t)=true)->∀r',r'<:+t->ts r0 false r':=λG r' w6=>bg.alJ L G (w6.trans (m.trans Zs))
  by_cases U:b=92
  ·subst U;simp only[bx,aK];have aC:wM (e.S,ay e.S (92::t),e.ne,pd,0,0,[],[],tr)=some (e.st (t.drop 1) pd tr):=Sy c;rw[aC,aO rfl];have aH:t.drop 1<:+t:=lE 1 t;have hl:(t.drop 1).length<(92::t).length:=by grind
   have j:ae (cC (a_ true n) (some (eH (a_ true n)))) (λ_=>(aU (.inl ()):ak (Unit⊕Unit))) (92::t) pd= .ok (.inl ()) (t.drop 1) pd:=by rfl
   rw[j];exact bM.inl hl (hk () _ pd (false,e.st (t.drop 1) pd tr) (aH.trans m) (c.mono (aH.trans m)) hl ⟨tr,rfl,H (.inl rfl) _ aH⟩)
  simp only[U,bF,aS];by_cases V:b=39
  ·subst V;simp only[bx,aK];have j:cC (a_ true n) (some (eH (a_ true n))) (39::t) pd=jq gb [39] t pd:=by rfl
   have:=M false _ (λst=>k (false,st)) (H (.inr (.inl rfl))) (by rw[j];exact Zf (tr:=tr) c fK) (λa r' d i=>by grind[jq,Ag]) (λ_=>rfl)
   rw[ss] at this;exact this
  simp only[V,bF,aS];by_cases W:b=34
  ·subst W;simp only[bx,aK];have j:cC (a_ true n) (some (eH (a_ true n))) (34::t) pd=eH (a_ true n) t pd:=by rfl
   exact M false _ (λst=>k (false,st)) (H (.inr (.inr (.inl rfl)))) (by rw[j];exact Zg hD bd (tr:=tr) c fK c.sfx) (λa r' d i=>by rw[j] at i;exact(ar.double (l4 true n)).sfx i) (λ_=>rfl)
  simp only[W,bF,aS];by_cases X:b=96
  ·subst X;simp only[bx,aK];have j:cC (a_ true n) (some (eH (a_ true n))) (96::t) pd=jq gX [96] t pd:=by rfl
   have:=M false _ (λst=>k (false,st)) (H (.inr (.inr (.inr (.inl rfl))))) (by rw[j];exact Sz (tr:=tr) c fK) (λa r' d i=>by
    rw[j] at i;unfold jq at i;cases aE:gX t with
    |none=>grind
    |some q=>rw[aE] at i;cases i;exact EU _ _ _ (cX _) aE) (λ_=>rfl)
   rw[ss] at this;exact this
  simp only[X,bF,aS];by_cases Y:b=36
  ·subst Y;simp only[bx,aK];have Mm:s4 (e.S,ay e.S (36::t),e.ne,pd,0,0,[],[],tr) 1=some (t.headD 0):=Sv c 1 (by decide);rw[Mm];simp only[nY,fV,Cp,Cq];have aQ:ga (36::t)=(decide (t.headD 0=40)||decide (t.headD 0=123)):=by grind[sm]
   have H9:∀a r' d,cC (a_ true n) (some (eH (a_ true n))) (36::t) pd= .ok a r' d->r'<:+t:=by
    intro a r' d i;rw[CD] at i;have G:=((l4 true n).ex.sfx i);have hl:=SA true n i;rcases List.suffix_cons_iff.1 G with ad|ad
    ·grind
    omega
   have mc:=λg bq=>M g (R.u7 (e.S,ay e.S (36::t),e.ne,pd,0,0,[],[],tr)) (λst=>k (g,st)) bq (by rw[CD];exact hD.im e bd t pd tr c) H9 (λ_=>rfl);cases I:ga (36::t) with
   |true=>
    rw[I] at aQ;have aG:(bif decide (t.headD 0=40) then true else decide ((if decide (t.headD 0=40)=false then t.headD 0 else 0)=123))=true:=by grind
    rw[aG];exact mc false (H (.inr (.inr (.inr (.inr I)))))
   |false=>
    rw[I] at aQ;have fO:decide (t.headD 0=40)=false/\decide (t.headD 0=123)=false:=by grind
    have aG:(bif decide (t.headD 0=40) then true else decide ((if decide (t.headD 0=40)=false then t.headD 0 else 0)=123))=false:=by grind
    rw[aG];simp only[aS];have Z:¬((36:UInt8)=92\/(36:UInt8)=39\/(36:UInt8)=34\/(36:UInt8)=96\/ga (36::t)=true):=by grind
    have jA:=bg.byte L Z;have T:=hD.im e bd t pd tr c;obtain⟨C,bD,aX⟩:=T;have vP:R.u7 (e.S,ay e.S (36::t),e.ne,pd,0,0,[],[],tr)=some C:=bD;rw[vP,aO rfl];rw[IH true n I] at aX;obtain⟨S,a2,⟨om,rfl,bO⟩,_⟩:=aX;have j:ae (cC (a_ true n) (some (eH (a_ true n)))) (λ_=>(aU (.inl ()):ak (Unit⊕Unit))) (36::t) pd= .ok (.inl ()) t pd:=by unfold ae;rw[CD,IH true n I];rfl
    rw[j];exact bM.inl (by simp) (hk () _ pd (f,e.st t pd om) m a2 (by simp) ⟨om,rfl,jA⟩)
  ·simp only[Y,bF,aS,bS];have j:ae (cC (a_ true n) (some (eH (a_ true n)))) (λ_=>(aU (.inl ()):ak (Unit⊕Unit))) (b::t) pd= .ok (.inl ()) t pd:=by unfold ae;rw[Fm U X Y (.inr ⟨V,W⟩)];rfl
   have fo:ga (b::t)=false:=by grind[sm]
   rw[j];exact bM.inl (by simp) (hk () _ pd (f,e.st t pd tr) m (c.mono m) (by simp) ⟨tr,rfl,bg.byte L (by grind)⟩)
end
theorem alP{t:aa}(h:gb t=none):dl (t++[39]) 39=some t:=by
 have:=Is (t++[39]);have c:gb (t++[39])=some []:=by
  induction t with
  |nil=>decide
  |cons b t e=>
   unfold gb at h;by_cases a:b=39
   ·grind
   ·rw[aW a] at h;show(if b=39 then some (t++[39]) else gb (t++[39]))=some [];rw[aW a];grind[Is]
 rw[c] at this;obtain⟨d,ad,f,g⟩:=this;have i:d=t:=by grind
 grind[E7]
theorem alQ:∀(n:Nat)(t:aa),t.length<=n->du t->t≠[]->eA t= .part->∃x c y,t=x++c::y/\(c=36\/c=96)/\(∀v,dl (x++c::v) 34=none)/\
  ∀(D:ak Unit),hP D->∀pd a q g,jc 34 (cC D none) t pd= .ok a q g->q<:+y:=by
 intro n;induction n with
 |zero=>simp
 |succ n w=>
  intro t ax k bd f;cases t with
  |nil=>grind
  |cons b t=>
   have A:t.length<=n:=by grind
   by_cases h:b=34
   ·grind[L5]
   by_cases aC:b=36\/b=96
   ·refine⟨[],b,t,rfl,aC,λv=>L4 34 (.inr rfl) b aC v,λD hD pd a q g e=>?_⟩;unfold jc at e;rw[cF] at e;simp only[aW h] at e;have l:ar (jc 34 (cC D none)):=ar.Ad 34 (ar.part hD (by simp)) (mz.part hD (by simp));cases hm:cC D none (b::t) pd with
    |ok G r1 H=>
     have hl:=(mz.part hD (dq:=none) (by simp)) (by simp) hm;have B:=(ar.part hD (dq:=none) (by simp)).sfx hm;have C:r1<:+t:=by
      rcases List.suffix_cons_iff.1 B with ad|ad
      ·grind
      omega
     rw[aY hm] at e;unfold aU cN at e;simp only at e;rw[bm hl] at e;exact(l.sfx e).trans C
    |more op nd ds=>rw[dc hm] at e;cases e
    |bad _=>rw[gY hm] at e;cases e
    |deep _=>rw[jM hm] at e;cases e
   have i:b≠36/\b≠96:=by grind
   by_cases j:b=92
   ·subst j;have I:t≠[]:=by
     rintro rfl;rcases k with ad|⟨s,ad⟩
     ·cases ad
     ·have:=mj List.getLast? ad;grind
    cases t with
    |nil=>grind
    |cons c u=>
     rw[L6] at f;have m:eA u= .part:=by cases hu:eA u<;>rw[hu] at f<;>simp[jd.add] at f⊢
     have o:u≠[]:=by rintro rfl;grind[eA]
     obtain⟨x,d,y,ad,p,z,E⟩:=w u (by grind) k.tail.tail o m;refine⟨92::c::x,d,y,by grind,p,λv=>?_,λD hD pd a q g e=>?_⟩
     ·grind[dl,RS]
     ·have r:cC D none (92::c::u) pd= .ok () u pd:=by rfl
      rw[LP (by decide) r (by grind)] at e;grind
   ·rw[L7 b h aC j] at f;have m:eA t= .part:=by cases hu:eA t<;>rw[hu] at f<;>simp[jd.add] at f⊢
    have o:t≠[]:=by rintro rfl;grind[eA]
    obtain⟨x,d,y,ad,p,z,E⟩:=w t A k.tail o m;refine⟨b::x,d,y,by grind,p,λv=>?_,λD hD pd a q g e=>?_⟩
    ·show dl (b::(x++d::v)) 34=none;rw[Ir 34 (.inr rfl) b j i.1 i.2 h (λF=>absurd F (by decide)),z];rfl
    ·have r:cC D none (b::t) pd= .ok () t pd:=Fm j i.2 i.1 (.inl rfl);rw[LP h r (by simp)] at e;grind
theorem alR{D:ak Unit}(hD:hP D):∀(n:Nat)(t:aa)(pd:aq),t.length<=n->match eA t with
  | .closed _ r=>jc 34 (cC D none) t pd= .ok () r pd
  | .open_ _=>jc 34 (cC D none) t pd= .more [] [] pd
  | .part=>True:=by
 intro n;induction n with
 |zero=>intro t pd h;have:t=[]:=nw.1 (by omega);subst this;show jc 34 (cC D none) [] pd= .more [] [] pd;unfold jc;rw[cF];rfl
 |succ n f=>
  intro t pd ax;cases t with
  |nil=>simp_all
  |cons b t=>
   have i:t.length<=n:=by grind
   by_cases a:b=34
   ·subst a;simp[L5,jc,cC,cF,cN]
   by_cases aC:b=36\/b=96
   ·grind[RT]
   have g:b≠36/\b≠96:=by grind
   by_cases d:b=92
   ·subst d;cases t with
    |nil=>simp[RU]
    |cons c u=>
     rw[L6];have e:cC D none (92::c::u) pd= .ok () u pd:=by rfl
     have j:=LP (c:=34) (b:=92) (by decide) e (by grind);have:=f u pd (by grind);grind[eA,jd.add,part]
   ·rw[L7 b a aC d];have e:cC D none (b::t) pd= .ok () t pd:=Fm d g.2 g.1 (.inl rfl);have j:=LP (c:=34) a e (by simp);have:=f t pd i;grind[eA,jd.add,part]
def Mt(m:Option aa):Prop:=m=none\/∃d,m=some d/\d.contains 10=true
theorem Mt.map{m:Option aa}(h:Mt m)(x:aa):Mt (m.map (x++·)):=by
 rcases h with rfl|⟨d,rfl,h⟩
 ·exact .inl rfl
 ·refine .inr ⟨x++d,rfl,?_⟩;grind
def At(r:aa)(pd:aq):dt Unit->Prop
 | .ok _ q a=>∃w,r=w++q/\((dm r=none/\dl w 0=none)\/∃d,dl w 0=some d/\dm r=some (d,q,[])/\a=pd)
 | .more _ nd ds=>(dm r=none/\Mt (dl (r++nd) 0))\/∃d,dm r=some (d,[],nd)/\dl (r++nd) 0=some d/\ds=pd
 | .bad _=>dm r=none
 | .deep _=>dm r=none
theorem At.step{r u p x:aa}{pd:aq}{m:dt Unit}(h:At u pd m)(e:r=p++u)(ad:dm r=(dm u).map λq=>(x++q.1,q.2))(f:∀v,dl (p++v) 0=(dl v 0).map (x++·)):At r pd m:=by
 cases m with
 |ok a q g=>obtain⟨w,i,j⟩:=h;refine⟨p++w,by grind,?_⟩;grind
 |more op nd ds=>
  have c:dl (r++nd) 0=(dl (u++nd) 0).map (x++·):=by grind
  rcases h with⟨b,a2⟩|⟨d,b,a2,a3⟩
  ·left;rw[ad,b,c];exact⟨rfl,a2.map x⟩
  ·right;grind
 |bad q=>show dm r=none;rw[ad,show dm u=none from h];rfl
 |deep q=>show dm r=none;rw[ad,show dm u=none from h];rfl
theorem At.no{r:aa}{pd:aq}{m:dt Unit}(ad:dm r=none)(c:∀a q b,m= .ok a q b->∃w,r=w++q/\dl w 0=none)(d:∀v,dl (r++v) 0=none):At r pd m:=by
 cases m with
 |ok a q b=>obtain⟨w,e,a2⟩:=c a q b rfl;exact⟨w,e,.inl ⟨ad,a2⟩⟩
 |more op nd ds=>exact .inl ⟨ad,.inl (d nd)⟩
 |bad q=>exact ad
 |deep q=>exact ad
theorem alS{D:ak Unit}(hD:hP D):∀(n:Nat)(r:aa)(pd:aq),r.length<=n->du r->At r pd (cP D r pd):=by
 intro n;induction n with
 |zero=>
  intro r pd h _;have:r=[]:=nw.1 (by omega);subst this;have:cP D [] pd= .more [] [] pd:=by unfold cP;rw[cF];rfl
  rw[this];exact .inr ⟨[],by rw[dm],by simp[E7],rfl⟩
 |succ n m=>
  intro r pd ax f;cases r with
  |nil=>grind
  |cons b t=>
   have N:t.length<=n:=by grind
   by_cases W:c1 (b::t)=true
   ·have O:cP D (b::t) pd= .ok () (b::t) pd:=by unfold cP;grind[cF,cN]
    have g:dm (b::t)=some ([],b::t,[]):=by simp_all[dm.eq_def,bm]
    rw[O];exact⟨[],rfl,.inr ⟨[],E7,g,rfl⟩⟩
   have i:c1 (b::t)=false:=by grind
   have E:∀a q l,cP D (b::t) pd= .ok a q l->∃w,b::t=b::w++q:=by
    intro a q l d;have e:=(ar.word hD).sfx d;have hl:=vx hD (by simp) i d;rcases List.suffix_cons_iff.1 e with ad|⟨w,ad⟩
    ·grind
    grind
   by_cases F:b=92
   ·subst F;have G:t≠[]:=by
     rintro rfl;rcases f with ad|⟨s,ad⟩
     ·cases ad
     ·have:=mj List.getLast? ad;grind
    cases t with
    |nil=>grind
    |cons c u=>
     have j:cC D (some (eH D)) (92::c::u) pd= .ok () u pd:=by rfl
     rw[Ck i j (by grind)];refine(m u pd (by grind) f.tail.tail).step (p:=[92,c]) (x:=if c=10 then [] else [c]) rfl (by rw[dm.eq_def];grind) λv=>?_;show dl (92::c::v) 0=_;rw[RQ 0 (.inl rfl)];by_cases aG:c=10
     ·simp[aG]
     grind
   by_cases H:b=39
   ·subst H;have j:cC D (some (eH D)) (39::t) pd=jq gb [39] t pd:=by rfl
    cases e:gb t with
    |none=>
     have hm:cP D (39::t) pd= .more [[39]] [39] pd:=by
      unfold cP;rw[cF];simp only[i,eC,cm];have:cC D (some (eH D)) (39::t) pd= .more [[39]] [39] pd:=by grind[jq]
      rw[dc this];rfl
     rw[hm];have g:dm (39::t)=none:=by rw[dm.eq_def];grind
     refine .inl ⟨g,.inr ⟨t,?_,?_⟩⟩
     ·grind[dl,RR,alP]
     ·have G:t≠[]:=by
       rintro rfl;rcases f with ad|⟨s,ad⟩
       ·cases ad
       ·have:=mj List.getLast? ad;grind
      rcases f.tail with ad|⟨s,ad⟩
      ·grind
      grind
    |some k=>
     have K:=Is t;rw[e] at K;obtain⟨A,L,M,P⟩:=K;have Q:=yt t k e;have w8:cC D (some (eH D)) (39::t) pd= .ok () k pd:=by grind[jq]
     rw[Ck i w8 (by grind)];refine(m k pd (by omega) (f.tail.h4 (Ag _ _ e))).step (p:=39::A++[39]) (x:=A) (by grind) ?_ λv=>?_
     ·rw[dm.eq_def];grind
     grind[RR]
   by_cases aC:b=36\/b=96
   ·have g:dm (b::t)=none:=by simp_all[dm.eq_def,aW,bm]
    refine At.no g (λa q l d=>?_) λv=>L4 0 (.inl rfl) b aC _;obtain⟨w,ad⟩:=E a q l d;exact⟨b::w,ad,L4 0 (.inl rfl) b aC w⟩
   have B:b≠36/\b≠96:=by grind
   by_cases I:b=34
   ·subst I;have j:cC D (some (eH D)) (34::t) pd=eH D t pd:=by rfl
    have C:=alR hD t.length t pd (cX _);have J:=Yc _ t (cX _);have G:t≠[]:=by
     rintro rfl;rcases f with ad|⟨s,ad⟩
     ·cases ad
     ·have:=mj List.getLast? ad;grind
    cases e:eA t with
    |closed o k=>
     rw[e] at C J;obtain⟨A,L,M⟩:=J;have w8:cC D (some (eH D)) (34::t) pd= .ok () k pd:=by rw[j];exact SB C
     have Q:=EE t o k e;rw[Ck i w8 (by grind)];refine(m k pd (by omega) (f.tail.h4 (Q9 _ _ _ _ (Nat.le_refl _) e))).step (p:=34::A) (x:=o) (by grind) ?_ λv=>?_
     ·rw[dm.eq_def];grind
     grind[dl,Ct]
    |open_ o=>
     rw[e] at C J;have w8:cC D (some (eH D)) (34::t) pd= .more [[34]] [34] pd:=by rw[j];exact SC C
     have hm:cP D (34::t) pd= .more [[34]] [34] pd:=by unfold cP;rw[cF];simp only[i,eC,cm];rw[dc w8];rfl
     rw[hm];have g:dm (34::t)=some (o,[],[34]):=by rw[dm.eq_def];grind
     refine .inr ⟨o,g,?_,rfl⟩;grind[dl,Ct]
    |part=>
     have g:dm (34::t)=none:=by rw[dm.eq_def];grind
     obtain⟨x,c,y,L,M,P,R⟩:=alQ _ t (cX _) f.tail G e;refine At.no g (λa q l d=>?_) λv=>?_
     ·
      have S:q<:+y:=by
       unfold cP at d;rw[cF] at d;simp only[i,eC,cm] at d;cases hm:cC D (some (eH D)) (34::t) pd with
       |ok T r1 U=>
        rw[aY hm] at d;rw[j] at hm;have V:=jv.1 (Ce.1 hm);have ad:=R D hD pd T r1 U V;unfold aU cN at d;simp only at d;split at d
        ·exact((ar.word hD).sfx d).trans ad
        grind
       |more op nd ds=>rw[dc hm] at d;cases d
       |bad _=>rw[gY hm] at d;cases d
       |deep _=>rw[jM hm] at d;cases d
      obtain⟨z,rfl⟩:=S;grind[Ct]
     grind[dl,Ct,List.append_assoc]
   ·have j:cC D (some (eH D)) (b::t) pd= .ok () t pd:=Fm F B.2 B.1 (.inr ⟨H,I⟩);rw[Ck i j (by simp)];refine(m t pd N f.tail).step (p:=[b]) (x:=[b]) rfl (by rw[dm.eq_def];grind) λv=>?_;show dl (b::v) 0=_;rw[Ir 0 (.inl rfl) b F B.1 B.2 I (λ_=>H)];rfl
theorem alU{e:cd}{x0:ah}{j:Int->Option ah}(o:x0.1=e.S)(dd:e.S.length<=1000000):∀(n:Nat)(r:aa),r.length<n->r<:+e.S->fixF (HM x0 j) n (ay e.S r)=j (ay e.S (r.dropWhile cb)):=by
 intro n;induction n with
 |zero=>omega
 |succ n p=>
  intro r ax l;rw[eZ];generalize fixF (HM x0 j) n=k at p;unfold HM;rw[o];cases r with
  |nil=>
   have m:∀a c d f g h i,ia (e.S,ay e.S [],a,f,c,d,g,h,i)=some 0:=λa c d f g h i=>vK l a c d f g h i
   rw[m];rfl
  |cons b t=>
   have m:∀a c d f g h i,ia (e.S,ay e.S (b::t),a,f,c,d,g,h,i)=some b:=λa c d f g h i=>vK l a c d f g h i
   rw[m];simp only[nY,fV,R8,R9];have aG:(bif decide (48<=b) then decide ((if decide (48<=b)=true then b else 0)<=57) else false)=cb b:=by grind[cb]
   rw[aG,iK dd l];grind[List.dropWhile_cons_of_pos,dY,List.dropWhile_cons_of_neg]
theorem Mv{e:cd}{r:aa}{pd:aq}{tr:Bool}(h:cB e r pd)(d:r≠[]):vu (e.st r pd tr)=some (match au r with| .word _ _=>false|_=>true):=by
 unfold vu;have a:ia (e.st r pd tr)=some (r.headD 0):=vK h.sfx _ _ _ _ _ _ _;have c:hr (e.st r pd tr)=some (br r):=ID h.bY h.sfx _ _ _ _ _ _ _;rw[a];simp only[nY,pD];rw[c,fV];cases r with
 |nil=>grind
 |cons b t=>grind[CC]
theorem Zu(pd:aq):cO [] pd [120]=([120],pd):=Sp [120] [] pd (by decide)
theorem Zv{e:cd}{r q:aa}{pd:aq}{tr:Bool}(h:cB e q pd)(a:q<:+r):nW e r (e.st q pd tr):=by
 refine⟨rfl,?_,?_,?_,?_⟩
 ·show ay e.S r<=ay e.S q;grind[ay]
 ·show ay e.S q<=_;have:= @oQ q e.S;omega
 ·show([]:aa).length+ei pd<=_;have:=h.jJ;grind
 ·show([]:bs).length<=_;simp
section
variable{R:bh}{n:Nat}(hD:kp R n){e:cd}(bd:e.ne=30- (n:Int))
include hD bd
theorem SG{r:aa}{pd:aq}{tr:Bool}(h:cB e r pd)(ag:bu r=some r)(ie:eV (br (r.dropWhile cb))=true):bM false e r (dy (a_ true n) r pd) (λst=>st) (λb _ _=>b=true) (BW R (e.st r pd tr)):=by
 have Cu:r.dropWhile cb<:+r:=Ch;have c_:dy (a_ true n) r pd=ae (if br (r.dropWhile cb)=[60,60] then hi false else if br (r.dropWhile cb)=[60,60,45] then hi true else jH (a_ true n) [120]) (λ_=>aU true) ((r.dropWhile cb).drop (br (r.dropWhile cb)).length) pd:=by
  have mD:fF r pd= .ok (some (br (r.dropWhile cb))) ((r.dropWhile cb).drop (br (r.dropWhile cb)).length) pd:=by simp_all[fF]
  unfold dy;grind[aY]
 rw[c_];unfold BW a9;have ad:(e.st r pd tr).1=e.S:=rfl;have af:(e.st r pd tr).2.1=ay e.S r:=rfl;refine bM.dV ?_ (alU (e:=e) (x0:=e.st r pd tr) rfl h.bY bC r (lk (lF (eI h.sfx) h.bY)) h.sfx);have aE:=Cu.trans h.sfx;have SH:=h.mono Cu;generalize r.dropWhile cb=q at*;have h7:br q<+:q:=Q7;have l3:=Xk (r:=q);have h0:=RZ ie;have fo:hr ((e.st r pd tr).1,ay e.S q,(e.st r pd tr).2.2.1,(e.st r pd tr).2.2.2.1,(e.st r pd tr).2.2.2.2.1,(e.st r pd tr).2.2.2.2.2.1,(e.st r pd tr).2.2.2.2.2.2.1,(e.st r pd tr).2.2.2.2.2.2.2.1,(e.st r pd tr).2.2.2.2.2.2.2.2)=some (br q):=ID h.bY aE _ _ _ _ _ _ _;rw[fo,aO rfl];generalize aQ:br q=o at*;obtain⟨v,rfl⟩:=h7;rw[o0];have gD:v<:+o++v:=gQ o v;have aB:=SH.mono gD;have kC:W (ay e.S (o++v)+(o.length:Int))=ay e.S v:=ko h.bY aE;have sr:v≠[]:=by
  rintro rfl;rw[rE] at aE;rcases h.nl.h4 aE with m|⟨s,m⟩
  ·grind
  grind
 have RO:v.length<r.length:=by grind
 have bS:((e.st r pd tr).1,W (ay e.S (o++v)+(o.length:Int)),(e.st r pd tr).2.2.1,(e.st r pd tr).2.2.2.1,(e.st r pd tr).2.2.2.2.1,(e.st r pd tr).2.2.2.2.2.1,(e.st r pd tr).2.2.2.2.2.2.1,(e.st r pd tr).2.2.2.2.2.2.2.1,(e.st r pd tr).2.2.2.2.2.2.2.2)=e.st v pd tr:=by rw[kC];rfl
 rw[bS];have yN:v<:+r:=gD.trans Cu;have arQ:=aB.jJ;have nr:=tn pd;have m6:=h.bY;have alK:=eI h.sfx;have arR:(bif decide (o=[60,60]) then true else decide (o=[60,60,45]))=(decide (o=[60,60])||decide (o=[60,60,45])):=by simp
 rcases xa aB ⟨tr,rfl,λC=>absurd C sr⟩ with⟨c,eB,bW,cy,eF,P,dz,h9⟩|⟨bW,cy⟩
 ·rw[cy,aO rfl];obtain⟨g,rfl,_⟩:=eF;have Zw:c≠[]:=Y5 (h.nl.h4 aB.sfx) sr bW;have j0:gq ((e.st c pd g).1,(e.st c pd g).2.1,(e.st c pd g).2.2.1,(e.st r pd tr).2.2.2.1,(e.st c pd g).2.2.2.2.1,(e.st c pd g).2.2.2.2.2.1,(e.st c pd g).2.2.2.2.2.2.1,(e.st r pd tr).2.2.2.2.2.2.2.1,(e.st c pd g).2.2.2.2.2.2.2.2)=some (decide (c=[])):=vJ e c _ _ _ _ _ _ _;rw[j0,aO rfl,e4 Zw];simp only[aS];have alV:vu ((e.st c pd g).1,(e.st c pd g).2.1,(e.st c pd g).2.2.1,(e.st r pd tr).2.2.2.1,(e.st c pd g).2.2.2.2.1,(e.st c pd g).2.2.2.2.2.1,(e.st c pd g).2.2.2.2.2.2.1,(e.st r pd tr).2.2.2.2.2.2.2.1,(e.st c pd g).2.2.2.2.2.2.2.2)=some (match au c with| .word _ _=>false|_=>true):=Mv P Zw;rw[alV,aO rfl];have u:c<:+r:=dz.trans yN
  have alW:∀t,au c=t->(∀w p,t≠ .word w p)->(if o=[60,60] then hi false else if o=[60,60,45] then hi true else jH (a_ true n) [120]:ak Unit) v pd= .bad c:=by
   intro t ht arS
   have arT:∀tabs,hi tabs v pd= .bad c:=by grind[hi,lQ]
   have qW:jH (a_ true n) [120] v pd= .bad c:=by
    unfold jH;rw[aY (cA bW)];cases hk:au c with
    |eof=>grind[lQ]
    |word w p=>grind
    |_=>rfl
   grind
  by_cases S:∃w p,au c= .word w p
  ·obtain⟨w,p,S⟩:=S;rw[S];simp only[aS];have ej:=Fq hD bd (tr0:=g) P;obtain⟨⟨fq,hH,f⟩,T,i⟩:=ej;have vP:p7 R ((e.st c pd g).1,(e.st c pd g).2.1,(e.st c pd g).2.2.1,(e.st r pd tr).2.2.2.1,(e.st c pd g).2.2.2.2.1,(e.st c pd g).2.2.2.2.2.1,(e.st c pd g).2.2.2.2.2.2.1,(e.st r pd tr).2.2.2.2.2.2.2.1,(e.st c pd g).2.2.2.2.2.2.2.2)=some (fq,hH,f):=T;rw[vP,aO rfl];simp only;have D:=alS (l4 true n) _ c pd (cX _) (h.nl.h4 P.sfx);by_cases aH:o=[60,60]\/o=[60,60,45]
   ·have E:(bif decide (o=[60,60]) then true else decide (o=[60,60,45]))=true:=by grind
    rw[E];simp only[gP,aS];have Mw:(if o=[60,60] then hi false else if o=[60,60,45] then hi true else jH (a_ true n) [120]:ak Unit)=hi (decide (o=[60,60,45])):=by grind
    generalize decide (o=[60,60,45])=tabs at*;have j:hi tabs v pd=(match dm c with
      |none=> .bad c
      |some (d,q,k)=>if d.contains 10 then .bad c else
       if tabs/\d.head?=some 9 then .bad c else
       if k≠[] then .more [k] k (pd++[(d,tabs)]) else
       if q=[] then .more [] [] (pd++[(d,tabs)]) else .ok () q (pd++[(d,tabs)])):=by
     grind[hi]
    have Ut:f.2.2.2.2.2.2.1.length<=100*e.S.length+1000:=by
     cases hm:cP (a_ true n) c pd with
     |ok a I F=>rw[hm] at i;obtain⟨_,_,⟨U,m,_⟩,_⟩:=i;dsimp only at m;rw[m];show([]:aa).length<=_;simp
     |more op nd ds=>rw[hm] at i;have:=i.z.2.2.2.1.nd;grind
     |bad q=>rw[hm] at i;have:=i.2.nd;grind
     |deep q=>rw[hm] at i;have:=i.2.nd;grind
    have alX:b9 f.2.2.2.2.2.2.1 ((e.st c pd g).2.2.2.2.2.2.1.length:Int) (f.2.2.2.2.2.2.1.length:Int)=f.2.2.2.2.2.2.1:=by show b9 f.2.2.2.2.2.2.1 ((0:Nat):Int) _=_;simp[b9]
    rw[alX];have Zx:f.1=e.S/\nW e r f:=by
     cases hm:cP (a_ true n) c pd with
     |ok a I F=>rw[hm] at i;obtain⟨V,a2,⟨U,m,_⟩,_⟩:=i;dsimp only at m;rw[m];exact⟨rfl,Zv a2 (V.trans u)⟩
     |more op nd ds=>rw[hm] at i;exact⟨i.z.2.2.2.1.s,i.z.2.2.2.1.mono u⟩
     |bad q=>rw[hm] at i;exact⟨i.2.s,i.2.mono u⟩
     |deep q=>rw[hm] at i;exact⟨i.2.s,i.2.mono u⟩
    obtain⟨w7,AY⟩:=SE P Zx.1 T;dsimp only at w7 AY;have xe:fq.length<=1000000:=by omega
    refine bM.dV ?_ (b8 (show 0<=((e.st c pd g).2.2.2.2.2.2.1.length:Int)/\((e.st c pd g).2.2.2.2.2.2.1.length:Int)<=(f.2.2.2.2.2.2.1.length:Int)/\(f.2.2.2.2.2.2.1.length:Int)<=(f.2.2.2.2.2.2.1.length:Int) from by show(0:Int)<=((0:Nat):Int)/\((0:Nat):Int)<=_/\_;omega))
    refine bM.dV ?_ (b8 (by omega));have X:((fq++f.2.2.2.2.2.2.1).length:Int)<=200000000:=by grind
    refine bM.dV ?_ (aO (akb _ X));have z:=Zx.2;have alY:∀(l:aa)(J:Bool),(a8 (((bif tabs then(decide (0<(l.length:Int))) else false)=true)->((bif(decide (f.2.2.2.2.1=2)) then true else(!J))=false)->0<=(0:Int)/\0<(l.length:Int))<|
      (bif(bif(bif(decide (f.2.2.2.2.1=2)) then true else(!J)) then true else(bif(bif tabs then(decide (0<(l.length:Int))) else false) then(decide (((at' l 0).toNat:Int)=(9:Int))) else false)) then
      (av (hg f (e.st c pd g).2.1) λ(G:ah)=>
      some (G.1,G.2.1,G.2.2.1,f.2.2.2.1,G.2.2.2.2.1,G.2.2.2.2.2.1,G.2.2.2.2.2.2.1,f.2.2.2.2.2.2.2.1,G.2.2.2.2.2.2.2.2))
      else
      (a8 (f.2.2.2.1.length+([(l,tabs)]:aq).length<=536870912)<|
      some (f.1,f.2.1,f.2.2.1,(f.2.2.2.1++([(l,tabs)]:aq)),f.2.2.2.2.1,f.2.2.2.2.2.1,f.2.2.2.2.2.2.1,f.2.2.2.2.2.2.2.1,f.2.2.2.2.2.2.2.2))))=
      if(f.2.2.2.2.1=2\/J=false\/(tabs=true/\l.head?=some 9)) then some (f.1,f.2.1,f.2.2.1,f.2.2.2.1,2,(e.st c pd g).2.1,f.2.2.2.2.2.2.1,f.2.2.2.2.2.2.2.1,f.2.2.2.2.2.2.2.2)
      else some (f.1,f.2.1,f.2.2.1,(f.2.2.2.1++([(l,tabs)]:aq)),f.2.2.2.2.1,f.2.2.2.2.2.1,f.2.2.2.2.2.2.1,f.2.2.2.2.2.2.2.1,f.2.2.2.2.2.2.2.2):=by
     intro l J
     rw[b8 (by grind)]
     have RX:(bif bif tabs then decide (0<(l.length:Int)) else false then decide (((at' l 0).toNat:Int)=9) else false)=decide (tabs=true/\l.head?=some 9):=by
      cases tabs with
      |false=>simp
      |true=>
       cases l with
       |nil=>simp
       |cons x y=>simp[at',Ij]
     rw[RX];have alZ:f.2.2.2.1.length+[(l,tabs)].length<=536870912:=by have m:=tn f.2.2.2.1;have aV:=z.nd;grind
     rw[b8 alZ];by_cases e5:f.2.2.2.2.1=2
     ·simp only[e5,bx,aK,true_or,cG];rfl
     ·by_cases dK:J=false
      ·subst dK;simp only[e5,bF,aS,e3,aK,false_or,true_or,cG];rfl
      ·have al0:J=true:=by grind
       subst al0;by_cases kr:tabs=true/\l.head?=some 9
       ·rw[bm (.inr (.inr kr)),decide_eq_true kr];simp only[e5,bF,aS,gP,aK];rfl
       grind
    refine bM.dV ?_ (alY _ _);rw[Mw];have qX:bM false e r (.bad c:dt Bool) (λst=>st) (λb _ _=>b=true) (some (f.1,f.2.1,f.2.2.1,f.2.2.2.1,(2:Int),(e.st c pd g).2.1,f.2.2.2.2.2.2.1,f.2.2.2.2.2.2.2.1,f.2.2.2.2.2.2.2.2)):=
     ⟨_,rfl,rfl,z.s,z.lo,z.bg,z.nd,z.op⟩
    have H:=aI.sg (tabs:=tabs) (r0:=o++v) (v:=v) (pd:=pd) (by grind);have al1:=SH.jJ;cases hm:cP (a_ true n) c pd with
    |bad q=>
     rw[hm] at i D;rw[bm (.inl i.1)];have:hi tabs v pd= .bad c:=by rw[j,show dm c=none from D]
     grind[gY]
    |deep q=>
     rw[hm] at i D;rw[bm (.inl i.1)];have:hi tabs v pd= .bad c:=by rw[j,show dm c=none from D]
     grind[gY]
    |ok a I F=>
     rw[hm] at i D;obtain⟨V,a2,⟨U,m,_⟩,bO,_⟩:=i;dsimp only at m bO;subst m;have al2:(e.st I F U).2.2.2.2.2.2.1=[]:=rfl;rw[al2,rE];obtain⟨w,Mf,sv⟩:=D;have SI:fq=w:=by simp_all
     subst SI;have al3:¬((e.st I F U).2.2.2.2.1=2):=by show¬((0:Int)=2);decide
     rcases sv with⟨Y,A⟩|⟨d,Y,A,rfl⟩
     ·rw[A];rw[bm (.inr (.inl rfl))];grind[gY]
     ·rw[Y];rw[A] at j;simp only at j;unfold Al;simp only;by_cases K:d.contains 10=true
      ·rw[bm K] at j;rw[bm (.inr (.inl (by grind))),gY j];grind
      ·rw[aW K] at j;by_cases H5:tabs=true/\d.head?=some 9
       ·rw[bm H5] at j;rw[bm (.inr (.inr (by grind))),gY j];grind
       ·rw[aW H5] at j;have Zy:I≠[]:=by
         rintro rfl;have hex:cP (a_ true n) c F= .ok a [] F:=hm
         have:∀(N:Nat)(r:aa)(pd:aq)(a:Unit)(q:aa)(aD:aq),r.length<=N->cP (a_ true n) r pd= .ok a q aD->q≠[]:=by
          intro N r pd a q aD nQ C;unfold cP at C;refine X6 (Q:=λq=>q≠[]) (λs r pd a q aD Mx=>?_) N _ _ _ _ _ _ nQ C;cases r with
          |nil=>cases Mx
          |cons b t=>
           simp only at Mx;split at Mx
           ·grind
           ·obtain⟨_,_,_,_,al4⟩:=b0 Mx;cases al4
         grind
        rw[aW (by simp),aW Zy] at j;rw[aW (by grind),aY j,if_neg K];rw[j] at H;simp only[dZ] at H;exact⟨_,rfl,V.trans u,⟨h.bY,h.nl,h.IC,a2.sfx,by omega⟩,⟨U,rfl,λC=>absurd C Zy⟩,rfl⟩
    |more op nd ds=>
     rw[hm] at i D;obtain⟨Z,L,M,Fp,O⟩:=i.z;dsimp only at Z L M Fp O;have SI:=AY O;rw[SI,L];have al3:¬(f.2.2.2.2.1=2):=by omega
     rcases D with⟨Y,A⟩|⟨d,Y,A,rfl⟩
     ·have yE:(Al (dl (c++nd) 0)).2=false:=by
       rcases A with A|⟨d,A,iS⟩
       ·rw[A];rfl
       simp_all[Al]
      simp_all[gY]
     ·rw[A];rw[Y] at j;simp only at j;unfold Al;simp only;by_cases K:d.contains 10=true
      ·simp_all[gY]
      ·rw[aW K] at j;by_cases H5:tabs=true/\d.head?=some 9
       ·simp_all[gY]
       ·rw[aW H5] at j;rw[aW (by grind),if_neg K]
        have ll:∃lb,hi tabs v ds= .more lb nd (ds++[(d,tabs)]):=by grind
        obtain⟨lb,ll⟩:=ll;rw[dc ll];rw[ll] at H;simp only[dZ] at H;rw[M];exact⟨_,rfl,.inl ⟨Z,rfl,rfl,⟨z.s,z.lo,z.bg,by grind,z.op⟩,O⟩⟩
   ·have E:(bif decide (o=[60,60]) then true else decide (o=[60,60,45]))=false:=by grind
    rw[E];simp only[e3,aK];simp only[F9] at aH;have B:(if o=[60,60] then hi false else if o=[60,60,45] then hi true else jH (a_ true n) [120]:ak Unit) v pd=cP (a_ true n) c pd:=by rw[aW aH.1,aW aH.2];unfold jH;rw[aY (cA bW),S]
    cases hm:cP (a_ true n) c pd with
    |ok a I F=>rw[hm] at i B;rw[aY B];obtain⟨V,a2,a3,_⟩:=i;exact⟨f,rfl,V.trans u,a2,a3,rfl⟩
    |more op nd ds=>rw[hm] at i B;rw[dc B];exact⟨f,rfl,iz.mono i u⟩
    |bad q=>rw[hm] at i B;rw[gY B];exact⟨f,rfl,iL.mono i u⟩
    |deep q=>rw[hm] at i B;rw[jM B];exact⟨f,rfl,iL.mono i u⟩
  ·have al5:(match au c with| .word _ _=>false|_=>true)=true:=by grind
   rw[al5];simp only[aK];rw[gY (alW _ rfl (λw p C=>S ⟨w,p,C⟩))];obtain⟨st,T,i⟩:=pI (tr:=g) ((e.st c pd g).2.1) P u;have vP:hg ((e.st c pd g).1,(e.st c pd g).2.1,(e.st c pd g).2.2.1,(e.st r pd tr).2.2.2.1,(e.st c pd g).2.2.2.2.1,(e.st c pd g).2.2.2.2.2.1,(e.st c pd g).2.2.2.2.2.2.1,(e.st r pd tr).2.2.2.2.2.2.2.1,(e.st c pd g).2.2.2.2.2.2.2.2) (e.st c pd g).2.1=some st:=T;rw[vP,aO rfl];exact⟨_,rfl,by cases T;exact i⟩
 ·
  rw[cy,aO rfl];have j0:gq ((e.tt pd).1,(e.tt pd).2.1,(e.tt pd).2.2.1,(e.st r pd tr).2.2.2.1,(e.tt pd).2.2.2.2.1,(e.tt pd).2.2.2.2.2.1,(e.tt pd).2.2.2.2.2.2.1,(e.st r pd tr).2.2.2.2.2.2.2.1,(e.tt pd).2.2.2.2.2.2.2.2)=some true:=by have:=vJ e [] e.ne 0 0 pd [] [] true;rw[ig] at this;exact this
  rw[j0,aO rfl];simp only[aK];have al6:cB e [] pd:=aB.mono ov;obtain⟨aP,a1,bl⟩:=Fj (tr:=true) (x:=[120]) al6 (by simp);rw[Zu] at bl;have tp:g3 ((e.tt pd).1,(e.tt pd).2.1,(e.tt pd).2.2.1,(e.st r pd tr).2.2.2.1,(e.tt pd).2.2.2.2.1,(e.tt pd).2.2.2.2.2.1,(e.tt pd).2.2.2.2.2.2.1,(e.st r pd tr).2.2.2.2.2.2.2.1,(e.tt pd).2.2.2.2.2.2.2.2) [120]=some aP:=by rw[<-a1,<-w_];rfl
  rw[tp,aO rfl];obtain⟨Z,L,M,Fp,O⟩:=bl;dsimp only at L M;have mD:([]:aa)<:+r:=ov;have ek:=Fp.mono mD;by_cases aH:o=[60,60]\/o=[60,60,45]
  ·have E:(bif decide (o=[60,60]) then true else decide (o=[60,60,45]))=true:=by grind
   rw[E];simp only[aK];have Mw:(if o=[60,60] then hi false else if o=[60,60,45] then hi true else jH (a_ true n) [120]:ak Unit) v pd=hi (decide (o=[60,60,45])) v pd:=by grind
   have hm:hi (decide (o=[60,60,45])) v pd= .more [] [120] (pd++[([120],decide (o=[60,60,45]))]):=by grind[hi]
   rw[hm] at Mw;rw[dc Mw];have H:=aI.sg (tabs:=decide (o=[60,60,45])) (r0:=o++v) (v:=v) (pd:=pd) (by grind);rw[hm] at H;simp only[dZ] at H;have al1:=SH.jJ;have arU:aP.2.2.2.1.length<=100000000:=by grind
   refine bM.dV ?_ (b8 (by grind));rw[M];exact⟨_,rfl,.inl ⟨Z,L,rfl,⟨ek.s,ek.lo,ek.bg,by grind,ek.op⟩,O⟩⟩
  ·have E:(bif decide (o=[60,60]) then true else decide (o=[60,60,45]))=false:=by grind
   rw[E];simp only[aS];simp only[F9] at aH;have B:(if o=[60,60] then hi false else if o=[60,60,45] then hi true else jH (a_ true n) [120]:ak Unit) v pd= .more [] [120] pd:=by rw[aW aH.1,aW aH.2];unfold jH;grind[dc,iw,b6,Zu]
   rw[dc B];exact⟨_,rfl,.inl ⟨Z,L,M,ek,O⟩⟩
end
theorem qj(e:cd)(r:aa)(pd:aq)(tr:Bool):gq (e.st r pd tr)=some (decide (r=[])):=vJ e r _ _ _ _ _ _ _
theorem oS(e:cd)(pd:aq):gq (e.tt pd)=some true:=by simp[w_,qj]
theorem rz{e:cd}{r:aa}{pd:aq}{tr:Bool}(h:cB e r pd):hr (e.st r pd tr)=some (br r):=ID h.bY h.sfx _ _ _ _ _ _ _
theorem Fu{e:cd}{r:aa}{pd:aq}{tr:Bool}(h:cB e r pd):ia (e.st r pd tr)=some (r.headD 0):=vK h.sfx _ _ _ _ _ _ _
theorem al7:br []=[]:=by decide
theorem Fv{e:cd}(pd:aq)(h:e.S.length<=1000000):hr (e.tt pd)=some []:=by have:=ID (e:=e) (r:=[]) h ov e.ne 0 0 pd [] [] true;rw[al7] at this;rw[w_];exact this
theorem al8(e:cd)(pd:aq):ia (e.tt pd)=some 0:=by rw[w_];exact vK (e:=e) (r:=[]) ov _ _ _ _ _ _ _
theorem cB.Au{e:cd}{r:aa}{pd:aq}(h:cB e r pd):cB e [] pd:=h.mono ov
theorem al9{e:cd}{pd:aq}(h:cB e [] pd):lA (e.tt pd)=some []:=by rw[w_,vN h];rfl
theorem CG{e:cd}{pd:aq}{x:aa}(h:cB e [] pd)(b:x.length<=100):∃a,g3 (e.tt pd) x=some a/\nX e [] (cO [] pd x).1 (cO [] pd x).2 a:=by rw[w_];exact Fj h b
theorem uF{e:cd}{pd:aq}{tr:Bool}{x:aa}(h:cB e [] pd)(b:x.length<=100):∃a,g3 (e.st [] pd tr) x=some a/\nX e [] (cO [] pd x).1 (cO [] pd x).2 a:=Fj h b
theorem Zz{e:cd}(pd:aq):oa (e.tt pd)=some (e.tt pd):=by
 unfold oa;rw[CA,aO rfl];unfold a9
 obtain⟨n,ax⟩:∃n,bC=n+1:=⟨bC-1,by rw[gg]⟩
 dsimp only;rw[ax,eZ];unfold yh;dsimp only;have a:ia ((e.tt pd).1,(e.tt pd).2.1,(e.tt pd).2.2.1,(e.tt pd).2.2.2.1,(e.tt pd).2.2.2.2.1,(e.tt pd).2.2.2.2.2.1,(e.tt pd).2.2.2.2.2.2.1,(e.tt pd).2.2.2.2.2.2.2.1,(e.tt pd).2.2.2.2.2.2.2.2)=some 0:=al8 e pd;simp_all[fV]
theorem iz.tt{e:cd}{r:aa}(pd:aq):iz true e r [] pd (e.tt pd):= .inr ⟨rfl,rfl,rfl⟩
theorem fW.eta{e:cd}{r:aa}{pd:aq}{st:ah}(h:fW e r pd st):st.1=e.S/\st.2.1=ay e.S r/\st.2.2.1=e.ne/\st.2.2.2.1=pd/\st.2.2.2.2.1=0/\st.2.2.2.2.2.1=0/\st.2.2.2.2.2.2.1=[]/\st.2.2.2.2.2.2.2.1=[]:=by obtain⟨tr,rfl,_⟩:=h;exact⟨rfl,rfl,rfl,rfl,rfl,rfl,rfl,rfl⟩
section
variable{R:bh}{n:Nat}(hD:kp R n){e:cd}(bd:e.ne=30- (n:Int))
include hD bd
theorem ZA{r:aa}{pd:aq}{st:ah}(h:cB e r pd)(D:fW e r pd st):bM true e r (gO (a_ true n) r pd) (λst=>st) (λ_ _ _=>True) (B5 R st):=by
 have L:∀(N:Nat)(r:aa)(pd:aq)(st:ah),r.length+1<N->cB e r pd->fW e r pd st->bu r=some r->bM true e r (gO (a_ true n) r pd) (λst=>st) (λ_ _ _=>True) (fixF (z7 R λx=>some x) N st):=by
  intro N;induction N with
  |zero=>omega
  |succ N E=>
   intro r pd st nQ j O F;rw[eZ]
   obtain⟨M,P⟩:∃M,N=M+1:=⟨N-1,by omega⟩
   have w:∀x:ah,(x.2.2.2.2.1≠0\/∃ds,x=e.tt ds)->fixF (z7 R λx=>some x) N x=some x:=by
    intro x y;rw[P,eZ];unfold z7;dsimp only;rcases y with y|⟨ds,rfl⟩
    ·simp only[y,bF,cR,eC,cm,aS,and_false]
    ·rw[show gq ((e.tt ds).1,(e.tt ds).2.1,(e.tt ds).2.2.1,(e.tt ds).2.2.2.1,(e.tt ds).2.2.2.2.1,(e.tt ds).2.2.2.2.2.1,(e.tt ds).2.2.2.2.2.2.1,(e.tt ds).2.2.2.2.2.2.2.1,(e.tt ds).2.2.2.2.2.2.2.2)=some true from oS e ds];rfl
   generalize tN:fixF (z7 R λx=>some x) N=k at E w;obtain⟨tr,rfl,G⟩:=O;unfold z7 a9;dsimp only;have Q:gq ((e.st r pd tr).1,(e.st r pd tr).2.1,(e.st r pd tr).2.2.1,(e.st r pd tr).2.2.2.1,(e.st r pd tr).2.2.2.2.1,(e.st r pd tr).2.2.2.2.2.1,(e.st r pd tr).2.2.2.2.2.2.1,(e.st r pd tr).2.2.2.2.2.2.2.1,(e.st r pd tr).2.2.2.2.2.2.2.2)=some (decide (r=[])):=qj e r pd tr;have S:hr ((e.st r pd tr).1,(e.st r pd tr).2.1,(e.st r pd tr).2.2.1,(e.st r pd tr).2.2.2.1,(e.st r pd tr).2.2.2.2.1,(e.st r pd tr).2.2.2.2.2.1,(e.st r pd tr).2.2.2.2.2.2.1,(e.st r pd tr).2.2.2.2.2.2.2.1,(e.st r pd tr).2.2.2.2.2.2.2.2)=some (br r):=rz j;have z:zW ((e.st r pd tr).1,(e.st r pd tr).2.1,(e.st r pd tr).2.2.1,(e.st r pd tr).2.2.2.1,(e.st r pd tr).2.2.2.2.1,(e.st r pd tr).2.2.2.2.2.1,(e.st r pd tr).2.2.2.2.2.2.1,(e.st r pd tr).2.2.2.2.2.2.2.1,(e.st r pd tr).2.2.2.2.2.2.2.2)=some (decide (r.dropWhile cb≠r)&&eV (br (r.dropWhile cb))):=Su j;have h0:(e.st r pd tr).2.2.2.2.1=0:=rfl;rw[Q,fV,S,fV,Fh,fV,z,fV,h0];simp only[bx,cG];by_cases T:r=[]
   ·subst T;have g:gO (a_ true n) [] pd= .ok () [] pd:=by unfold gO;rw[cF,aY (uD (r':=[]) l2 (by decide))];rfl
    rw[g];simp only[bx,gP,aS,aK];exact⟨_,rfl,fK,j,⟨tr,rfl,G⟩,trivial⟩
   ·have U:(bif(bif true then !decide (r=[]) else false) then bif(if(bif true then !decide (r=[]) else false)=true then eV (if(bif true then !decide (r=[]) else false)=true then br r else []) else false) then true else(if((if(bif true then !decide (r=[]) else false)=true then eV (if(bif true then !decide (r=[]) else false)=true then br r else []) else false)=false/\(bif true then !decide (r=[]) else false)=true) then(decide (r.dropWhile cb≠r)&&eV (br (r.dropWhile cb))) else false) else false)=eV (br (r.dropWhile cb)):=by
     conv=>rhs;rw[<-Mo r]
     grind
    refine bM.dV ?_ (show(bif(bif(bif true then !decide (r=[]) else false) then bif(if(bif true then !decide (r=[]) else false)=true then eV (if(bif true then !decide (r=[]) else false)=true then br r else []) else false) then true else(if((if(bif true then !decide (r=[]) else false)=true then eV (if(bif true then !decide (r=[]) else false)=true then br r else []) else false)=false/\(bif true then !decide (r=[]) else false)=true) then(decide (r.dropWhile cb≠r)&&eV (br (r.dropWhile cb))) else false) else false) then _ else _)=_ from by rw[U]);cases H:eV (br (r.dropWhile cb)) with
    |false=>
     have g:gO (a_ true n) r pd= .ok () r pd:=by unfold gO;rw[cF,aY (uD F H)];rfl
     rw[g];exact⟨_,rfl,fK,j,⟨tr,rfl,G⟩,trivial⟩
    |true=>
     simp only[aK];unfold gO;rw[cF];refine bM.iy c2.k (SG hD bd (tr:=tr) j F H) (λb r1 c d V s1 W I X=>?_) (λop nd ds d _ J=>?_) (λd u=>?_)
     ·subst X;have hl:=sh (l4 true n) V;have l:=I.eta;rw[l.2.2.2.2.1];simp only[bx,aK];show bM true e r (cN _ r (.ok (.inl ()) r1 c)) _ _ _;refine bM.inl hl ?_;rcases xa W I with⟨f,a,o,i,p,v,s,A⟩|⟨o,i⟩
      ·rw[i,aO rfl];have af:=p.eta;rw[l.2.2.2.1,l.2.2.2.2.2.2.2];have B:a=(a.1,a.2.1,a.2.2.1,c,a.2.2.2.2.1,a.2.2.2.2.2.1,a.2.2.2.2.2.2.1,([]:bs),a.2.2.2.2.2.2.2.2):=by grind
       rw[<-B];have g:gO (a_ true n) r1 c=gO (a_ true n) f c:=by
        unfold gO;rw[cF,cF];have Y:dy (a_ true n) r1 c=dy (a_ true n) f c:=by unfold dy;grind[fF,ae]
        have C:ae (dy (a_ true n)) (λb=>(aU (if b=true then .inl () else .inr ()):ak (Unit⊕Unit))) r1 c=ae (dy (a_ true n)) (λb=>aU (if b=true then .inl () else .inr ())) f c:=by grind[ae]
        rw[C];cases hm:dy (a_ true n) f c with
        |ok b t Z=>
         rw[aY hm];cases b with
         |true=>have oT:=sh (l4 true n) hm;have nu:=s.length_le;show(if t.length<r1.length then _ else _)=(if t.length<f.length then _ else _);grind
         |false=>rfl
        |more op nd ds=>rw[dc hm];rfl
        |bad q=>rw[gY hm];rfl
        |deep q=>rw[jM hm];rfl
       have:=(E f c a (by grind) v p A).mono (s.trans s1);unfold gO at g this;grind
      ·rw[i,aO rfl,l.2.2.2.1,l.2.2.2.2.2.2.2];have g:ca (λ_=>ae (dy (a_ true n)) λb=>aU (if b=true then .inl () else .inr ())) () r1 c=(.more [] [] c:dt Unit):=by
        rw[cF];have:dy (a_ true n) r1 c= .more [] [] c:=by unfold dy;exact dc (by unfold fF;rw[o];rfl)
        rw[dc this];rfl
       rw[g];exact⟨e.tt c,w (e.tt c) (.inr ⟨c,rfl⟩),iz.tt c⟩
     ·have ad:=J.z.1;refine⟨d,?_,J.up⟩;grind
     ·refine⟨d,?_,u⟩;rw[u.1];simp only[show¬((2:Int)=0) by decide,bF,aS];have:=w d (.inl (by rw[u.1];decide));have alm:d=(d.1,d.2.1,d.2.2.1,d.2.2.2.1,2,d.2.2.2.2.2.1,d.2.2.2.2.2.2.1,d.2.2.2.2.2.2.2.1,d.2.2.2.2.2.2.2.2):=by rw[<-u.1]
      grind
 unfold B5 a9;have K:=D.eta;rw[K.2.2.2.1,K.2.2.2.2.2.2.2];rcases xa h D with⟨f,a,o,i,p,v,s,A⟩|⟨o,i⟩
 ·rw[i,aO rfl];have B:a=(a.1,a.2.1,a.2.2.1,pd,a.2.2.2.2.1,a.2.2.2.2.2.1,a.2.2.2.2.2.2.1,([]:bs),a.2.2.2.2.2.2.2.2):=by obtain⟨cw,rfl,_⟩:=p;rfl
  rw[<-B];have:=(L bC f pd a (vM v) v p A).mono s;have g:gO (a_ true n) r pd=gO (a_ true n) f pd:=by
   unfold gO;rw[cF,cF];have Y:dy (a_ true n) r pd=dy (a_ true n) f pd:=by unfold dy;grind[fF,ae]
   have C:ae (dy (a_ true n)) (λb=>(aU (if b=true then .inl () else .inr ()):ak (Unit⊕Unit))) r pd=ae (dy (a_ true n)) (λb=>aU (if b=true then .inl () else .inr ())) f pd:=by grind[ae]
   rw[C];cases hm:dy (a_ true n) f pd with
   |ok b t Z=>
    rw[aY hm];cases b with
    |true=>have oT:=sh (l4 true n) hm;have nu:=s.length_le;show(if t.length<r.length then _ else _)=(if t.length<f.length then _ else _);grind
    |false=>rfl
   |more op nd ds=>rw[dc hm];rfl
   |bad q=>rw[gY hm];rfl
   |deep q=>rw[jM hm];rfl
  grind
 ·rw[i,aO rfl];have g:gO (a_ true n) r pd= .more [] [] pd:=by
   unfold gO;rw[cF];have:dy (a_ true n) r pd= .more [] [] pd:=by unfold dy;exact dc (by unfold fF;rw[o];rfl)
   rw[dc this];rfl
  rw[g];refine⟨e.tt pd,?_,iz.tt pd⟩
  obtain⟨m,hm⟩:∃m,bC=m+1:=⟨bC-1,by rw[gg]⟩
  dsimp only;rw[hm,eZ];unfold z7;dsimp only;rw[show gq ((e.tt pd).1,(e.tt pd).2.1,(e.tt pd).2.2.1,pd,(e.tt pd).2.2.2.2.1,(e.tt pd).2.2.2.2.2.1,(e.tt pd).2.2.2.2.2.2.1,[],(e.tt pd).2.2.2.2.2.2.2.2)=some true from oS e pd];rfl
end
def sw:ak aa:=λr pd=> .ok (iU r) (r.drop (iU r).length) pd
theorem ama(r:aa):iU r<+:r:=by grind[iU]
theorem SJ{r:aa}(h:iU r≠[]):r.drop (iU r).length≠[]:=by
 unfold iU at h⊢;split
 ·grind[List.takeWhile_append_dropWhile]
 grind
theorem Fx{v:aa}{pd:aq}{w:aa}(a:bu v=some v)(b:au v= .word w true):cV w v pd= .ok () (v.drop w.length) pd:=by unfold cV m2;rw[aY (cA a),b];simp[cE,bZ]
end Go.Eng
