/- Part 4 of what FnBoth needs. No condition. -/
import Derived.Test.YthnjiffnjaaejaaGreatDoorFnBothC
set_option linter.all false
namespace Go.Eng
open Go Go.Proofs
theorem amh{α β:Type}{R:bj}{e:cP}{r t:H}{F:ah}{x:H}{p:Int}{m:ae α}{cv:α->H->ah->β}{gQ:aj->Option (bp aj β)}{k:β->Option (bp aj aj)}{G:aj->aj}
  (M:0<=e.ne) (U:e.ne<30) (h:eb e r F) (g:t<:+r) (ay:t.length<r.length) (f:G ((e.fH x).st r F)=(e.fH x).st t F)
  (hm:a2 (e.fH x) t (m t F) cv (gQ ((e.fH x).st t F)))
  (av:∀a ad b,m t F= .ok a ad b->eb (e.fH x) ad b->k (cv a ad b)=some (.inr (e.st ad b))):
  a2 e t (N (m.named x) (λ_=>a1 ()) t F) (λ_=>e.st) (a_ (Aq (e.st r F) p x) (λx=>x) λy=>a_ (gQ (G y)) (λx=>x) k):=by
 rw[fm (Nc h M U),f];have:=hm.named;unfold N;cases au:(m.named x) t F with
 |ok a ad b=>rw[au] at this;obtain⟨c,d,i⟩:=this;have j:=CZ.1 au;exact⟨c,d.out,by grind[fm]⟩
 |more op nd ds=>rw[au] at this;obtain⟨st,c,d⟩:=this;exact⟨st,ib c,d⟩
 |bad q=>rw[au] at this;obtain⟨c,st,d⟩:=this;exact⟨c,st,ib d⟩
 |deep q=>trivial
theorem a2.ei{α β:Type}{e:cP}{r0:H}{m:dp α}{cv:α->H->ah->β}{y a:Option (bp aj β)}(h:a2 e r0 m cv y)(b:a=y):a2 e r0 m cv a:=b▸h
theorem FT(m:ae Unit)(r:H)(F:ah):N m (λ_=>a1 ()) r F=m r F:=by unfold N;cases m r F<;>rfl
theorem ZU(fr:Bool)(n:Nat):(aU fr n).pm=rA (a9 fr n):=by cases n<;>rfl
theorem ami{R:bj}{n:Nat}(g9:∀m,n=m+1->Ji R m){e:cP}(bf:e.ne=30- (n:Int))(au:n<=30){u:H}{F:ah}(h:eb e (36::123::u) F):
  a2 e u (a9 false n (36::123::u) F) (λ_=>e.st) (yU R (e.st (36::123::u) F)):=by
 cases n with
 |zero=>show a2 e u (dG none _ _) _ _;unfold dG;rw[aO (by simp),aO (by simp),bc (by simp)];trivial
 |succ m=>
  have hu:=(g9 m rfl).im (e.fH [36,123]) (by show e.ne+1=_;omega);have d:W (ax e.S (36::123::u)+2)=ax e.S u:=k9 (w:=[36,123]) h.b7 h.sfx;have c:W (ax e.S (36::123::u)+1)=ax e.S (123::u):=jj h.b7 h.sfx;have Y:u<:+36::123::u:=(dL 123 u).trans (dL 36 _);have hm:=a2.aM (x:=[125]) (hu u F (h.fH Y (by grind)));have:=amh (R:=R) (p:=ax e.S (36::123::u)) (gQ:=λx=>R.yK x 125 true) (G:=λy=>(y.1,(W (y.2.1+2)),y.2.2.1,y.2.2.2.1,y.2.2.2.2.1,y.2.2.2.2.2)) (k:=λf=>aw (v_ f) λb=>some (.inr (b.1,b.2.1,b.2.2.1,b.2.2.2.1,b.2.2.2.2.1,b.2.2.2.2.2)))
   (by omega) (by omega) h Y (by grind) (by show(e.S,W (ax e.S (36::123::u)+2),F,e.ne+1,e.op++[[36,123]],e.kz)=_;rw[d];rfl) hm
   (λa ad g _ _=>by rw[Nd h.xQ (by omega) (by omega)];rfl)
  rw[FT] at this;have aE:a9 false (m+1) (36::123::u) F=((aU false m).pm.named [36,123]) u F:=by rfl
  rw[aE,ZU];refine a2.ei this ?_
  ·unfold yU a7;refine(b1 (show 0<=W (ax e.S (36::123::u)+1)/\W (ax e.S (36::123::u)+1)<(e.S.length:Int) by rw[c];exact iy (eo h.sfx))).trans ?_;have:((at' (e.st (36::123::u) F).1 (W ((e.st (36::123::u) F).2.1+1))).toNat:Int)=123:=by show((at' e.S (W (ax e.S (36::123::u)+1))).toNat:Int)=123;rw[c,j2 (eo h.sfx)];rfl
   simp only[this,bA,aL];rfl
theorem ZV:∀(r:H)(d:Nat)(q:H),iu d r= .bad q->q<:+r
 |[],d,q,h=>by grind[iu]
 |b::t,d,q,h=>by
  have a:=λd=>ZV t d;unfold iu at h;split at h
  ·cases h;exact fq
  ·split at h
   ·exact((a _) q h).trans (dL b t)
   ·split at h
    ·split at h
     ·exact((a _) q h).trans (dL b t)
     ·split at h
      ·cases h
      ·split at h
       ·cases h
       ·cases h;exact fq
    ·exact((a _) q h).trans (dL b t)
theorem amj{R:bj}{n:Nat}{e:cP}{u:H}{F:ah}(h:eb e (36::40::40::u) F):
  a2 e u (a9 false n (36::40::40::u) F) (λ_=>e.st) (yU R (e.st (36::40::40::u) F)):=by
 have aE:a9 false n (36::40::40::u) F=n3 u F:=by
  cases n with
  |zero=>rfl
  |succ m=>rfl
 rw[aE];have b:W (ax e.S (36::40::40::u)+1)=ax e.S (40::40::u):=jj h.b7 h.sfx;have c:W (ax e.S (36::40::40::u)+2)=ax e.S (40::u):=k9 (w:=[36,40]) h.b7 h.sfx;have d:W (ax e.S (36::40::40::u)+3)=ax e.S u:=k9 (w:=[36,40,40]) h.b7 h.sfx;have hu:u<:+e.S:=eo (eo (eo h.sfx));have f:u<:+36::40::40::u:=(fO [36,40,40] u);unfold yU a7;simp only[cP.st,b,c,d,j2 (eo h.sfx),j2 (eo (eo h.sfx)),C_,C9];refine a2.ei ?_ (b1 (iy (eo h.sfx)));simp only[show¬((40:UInt8)=123) by decide,bG,aW];refine a2.ei ?_ (b1 (λ_=>iy (eo (eo h.sfx))));simp only[nN (eo (eo h.sfx)),bA,aL,ZT h.b7 hu];refine a2.ei ?_ (aR rfl);unfold n3;cases Y:iu 0 u with
 |ok q=>
  have a:=AZ 0 u q Y;have h0:¬ax e.S q= -1:=by grind[e3,ax]
  have M:¬ax e.S q= -2:=by grind[e3,ax]
  refine⟨a,h.mono (a.trans f),?_⟩;simp[qV,h0,M];rfl
 |more k=>simp only[qV,bA,aL];exact Nb rfl rfl h.xQ λ_=>rfl
 |bad q=>have a:=ZV u 0 q Y;refine⟨a.trans hu,?_⟩;simp only[qV,show¬((-2:Int)= -1) by decide,bG,aW,bA,aL];exact⟨_,rfl⟩
theorem ZW{σ α:Type}{f:σ->ae (σ⊕α)}{Q:H->Prop}(hf:∀s r F a r' b,f s r F= .ok (.inr a) r' b->Q r'):∀(bw:Nat)(s:σ)(r:H)(F:ah)(a:α)(r':H)(b:ah),r.length<=bw->b8 f s r F= .ok a r' b->Q r':=by
 intro bw;induction bw with
 |zero=>intro s r F a r' b c h;rw[cz] at h;unfold cR at h;grind
 |succ bw d=>intro s r F a r' b c h;rw[cz] at h;unfold cR at h;grind
theorem Jj{x r:H}{F:ah}{t:Tok}{r':H}{a:ah}(h:bV x r F= .ok t r' a):bo r=some r'/\t=aq r'/\a=F:=by
 unfold bV at h;split at h
 ·grind[cf]
 grind
theorem zv{ao:ae Unit}{c:Ctx}{no:Bool}(az:c≠ .text){r:H}{F:ah}{a:Nat}{r':H}{d:ah}(h:oZ ao c no r F= .ok a r' d):bo r'=some r'/\d_ c (aq r')=true:=by
 rw[o0] at h;obtain⟨_,ad,u,_,h⟩:=bY h;refine ZW (Q:=λr'=>bo r'=some r'/\d_ c (aq r')=true) (λs r F a r' d h=>?_) _ _ _ _ _ _ _ (cF _) h;unfold dS at h;generalize (if(no||decide (s>0))=true then([]:H) else [120])=k at h;obtain⟨t,e,v,M,g⟩:=bY h;clear h;obtain⟨U,rfl,rfl⟩:=Jj M;have x:=l1 _ _ _ (cF _) U;by_cases he:aq e= .eof
 ·simp_all[bc,aO,cf]
 rw[aO he] at g;by_cases f:((no||decide (s>0))&&d_ c (aq e))=true
 ·rw[bc f] at g;cases g;grind
 rw[aO f] at g;obtain⟨_,y,z,_,g⟩:=bY g;obtain⟨t,l,A,m,b⟩:=bY g;clear g;obtain⟨n,rfl,rfl⟩:=Jj m;have q:=l1 _ _ _ (cF _) n;cases av:aq l with
 |eof=>rw[av] at b;cases b
 |line=>rw[av] at b;obtain⟨_,_,_,_,b⟩:=bY b;cases b
 |word w p=>rw[av] at b;cases b
 |op o=>
  rw[av] at b;unfold hU at b;simp only at b;by_cases i:o=[59]\/o=[38]
  ·rw[bc i] at b;obtain⟨_,_,_,_,b⟩:=bY b;obtain⟨_,_,_,_,b⟩:=bY b;cases b
  ·rw[aO i] at b;by_cases j:d_ c (.op o)=true
   ·rw[bc j] at b;cases b;grind
   ·rw[aO j] at b;cases b
theorem A3{o v:H}{F:ah}(Y:bo v=some v)(a:aq v= .op o):j1 o v F= .ok () (v.drop o.length) F:=by unfold j1 nJ;rw[aS (cu Y),a,aO (by simp)];simp[b6]
theorem ZX{e:cP}{v:H}{F:ah}{o:H}(h:eb e v F)(Y:bo v=some v)(a:aq v= .op o):v.drop o.length<:+v/\tN (e.st v F) o=some (.inr (e.st (v.drop o.length) F)):=by have:=M8 o h;rw[A3 Y a] at this;exact⟨this.1,this.2.2⟩
theorem ZY{R:bj}{n:Nat}(bk:∀m,n=m+1->xS R m){e:cP}(bf:e.ne=30- (n:Int))(au:n<=30){u:H}{F:ah}(hu:u.head?≠some 40)(h:eb e (36::40::u) F):
  a2 e u (a9 false n (36::40::u) F) (λ_=>e.st) (yU R (e.st (36::40::u) F)):=by
 have g:¬([36,40,40]:H).isPrefixOf (36::40::u)=true:=by
  cases u with
  |nil=>simp
  |cons c v=>grind
 cases n with
 |zero=>show a2 e u (dG none _ _) _ _;unfold dG;rw[aO g,bc (by simp)];trivial
 |succ m=>
  have ay:=(bk m rfl).im (e.fH [36,40]) .paren true (by simp) (by show e.ne+1=_;omega);have i:W (ax e.S (36::40::u)+2)=ax e.S u:=k9 (w:=[36,40]) h.b7 h.sfx;have j:W (ax e.S (36::40::u)+1)=ax e.S (40::u):=jj h.b7 h.sfx;have Y:u<:+36::40::u:=(dL 40 u).trans (dL 36 _);have t:=h.fH (x:=[36,40]) Y (by grind);have hm:=a2.aM (x:=[41]) (ay u F t);have aE:a9 false (m+1) (36::40::u) F=vk (aU false m) u F:=by show dG (some (aU false m)) _ _=_;unfold dG;rw[aO g,bc (by simp)];rfl
  rw[aE];unfold yU a7;refine a2.ei ?_ (b1 (show 0<=W (ax e.S (36::40::u)+1)/\W (ax e.S (36::40::u)+1)<(e.S.length:Int) by rw[j];exact iy (eo h.sfx)));simp only[cP.st,j,i,j2 (eo h.sfx),C_,C9];simp only[show¬((40:UInt8)=123) by decide,bG,aW];have bu:decide (ax e.S u<(e.S.length:Int))=true->0<=ax e.S u/\ax e.S u<(e.S.length:Int):=by
   intro y;cases u with
   |nil=>grind[iO]
   |cons c v=>exact iy (eo (eo h.sfx))
  refine a2.ei ?_ (b1 bu);have hf:(bif decide (ax e.S u<(e.S.length:Int)) then decide (at' e.S (ax e.S u)=40) else false)=false:=by
   cases u with
   |nil=>simp[iO]
   |cons c v=>have:¬c=40:=λy=>hu (by grind);simp[j2 (eo (eo h.sfx)),this]
  simp only[hf,aW];have z:=Nc (p:=ax e.S (36::40::u)) (x:=[36,40]) h (by omega) (by omega);refine a2.ei ?_ (fm z);have A:(((e.fH [36,40]).st (36::40::u) F).1,(W (((e.fH [36,40]).st (36::40::u) F).2.1+2)),((e.fH [36,40]).st (36::40::u) F).2.2.1,((e.fH [36,40]).st (36::40::u) F).2.2.2.1,((e.fH [36,40]).st (36::40::u) F).2.2.2.2.1,((e.fH [36,40]).st (36::40::u) F).2.2.2.2.2)=(e.fH [36,40]).st u F:=by show(e.S,W (ax e.S (36::40::u)+2),F,e.ne+1,e.op++[[36,40]],e.kz)=_;rw[i];rfl
  rw[A];unfold vk;have b:=hm.named;unfold N;cases av:(((aU false m).ls .paren true).aM [41]).named [36,40] u F with
  |ok a ad B=>
   rw[av] at b;obtain⟨f,d,C⟩:=b;have k:=h3.1 (CZ.1 av);rw[s_] at k;obtain⟨l,I⟩:=zv (by simp) k;have o:aq ad= .op [41]:=by grind[d_]
   obtain⟨s,D⟩:=ZX d l o;simp only;rw[A3 l o];have E:=(d.mono s);refine⟨s.trans f,E.out,?_⟩;refine(fm C).trans ((fm D).trans ?_);have G:=Nd (r:=ad.drop 1) (F:=B) (x:=[36,40]) h.xQ (show 0<=e.ne by omega) (by omega);exact(aR G).trans rfl
  |more op nd ds=>rw[av] at b;obtain⟨st,f,d⟩:=b;exact⟨st,ib f,d⟩
  |bad q=>rw[av] at b;obtain⟨f,st,d⟩:=b;exact⟨f,st,ib d⟩
  |deep q=>trivial
structure Below(R:bj)(n:Nat):Prop where
 le:n<=30
 u1:∀m,n=m+1->Ji R m
 ls:∀m,n=m+1->xS R m
theorem ZZ{R:bj}{n:Nat}(a:Below R n){e:cP}(bf:e.ne=30- (n:Int)){b:UInt8}{t:H}{F:ah}(f:gG (b::t)=true)(h:eb e (b::t) F):
  a2 e t (a9 false n (b::t) F) (λ_=>e.st) (yU R (e.st (b::t) F)):=by
 rw[tb] at f;cases t with
 |nil=>grind
 |cons c u=>
  simp only[hH,yl,VI] at f;obtain⟨rfl,rfl|rfl⟩:=f
  ·cases u with
   |nil=>exact(ZY a.ls bf a.le (by simp) h).mono (dL _ _)
   |cons d v=>
    by_cases aD:d=40
    ·subst aD;exact(amj (n:=n) h).mono ((dL _ _).trans (dL _ _))
    ·exact(ZY a.ls bf a.le (by grind) h).mono (List.suffix_cons _ _)
  ·exact(ami a.u1 bf a.le h).mono (dL _ _)
theorem Z0{R:bj}{n:Nat}(O:Below R n)(i:Bool)(g9:i=true->Db R n){e:cP}(bf:e.ne=30- (n:Int)){b:UInt8}{t:H}{F:ah}(h:eb e (b::t) F):
  Nf e b t F (cJ (a9 false n) (if i then some (e2 (a9 false n)) else none) (b::t) F) (Cg R (e.st (b::t) F) i):=by
 have j:t<:+b::t:=dL b t;have D:=jj h.b7 h.sfx;have v:W (ax e.S (b::t)+1)=ax e.S t:=D;unfold Cg a7;have bu:0<=(e.st (b::t) F).2.1/\(e.st (b::t) F).2.1<((e.st (b::t) F).1.length:Int):=iy h.sfx;rw[b1 bu];have E:at' (e.st (b::t) F).1 (e.st (b::t) F).2.1=b:=j2 h.sfx;simp only[E,ng,rM,oF,oG];unfold cJ;simp only;by_cases k:b=92
 ·subst k;simp only[bA,aL,cK];have G:min (W (ax e.S (92::t)+2)) (e.S.length:Int)=ax e.S (t.drop 1):=by
   have ay:=e3 h.sfx;have P:=h.b7;cases t with
   |nil=>
    have:W (ax e.S [92]+2)=(e.S.length:Int)+1:=by grind[ax,dJ,List.length_singleton]
    grind[iO]
   |cons c u=>have Q:W (ax e.S (92::c::u)+2)=ax e.S u:=k9 (w:=[92,c]) h.b7 h.sfx;grind[pz]
  refine⟨lO 1 t,h.mono ((lO 1 t).trans j),.inl ?_⟩;show some (Sum.inr (true,e.S,min (W (ax e.S (92::t)+2)) (e.S.length:Int),F,e.ne,e.op,e.kz))=_;rw[G];rfl
 rw[aO k];simp only[k,bG,aW];have z:∀(o:Option H)(x:H),(∀q,o=some q->q<:+t)->Nf e b t F (match o with|some r'=>dp.ok () r' F|none=> .more [x] x F)
   (bif decide (lM e.S o<0) then a_ (yS ((e.st (b::t) F).1,lM e.S o,(e.st (b::t) F).2.2.1,(e.st (b::t) F).2.2.2.1,(e.st (b::t) F).2.2.2.2.1,(e.st (b::t) F).2.2.2.2.2) x) (λx=>x) (λy=>Empty.elim y)
    else some (.inr (true,(e.st (b::t) F).1,lM e.S o,(e.st (b::t) F).2.2.1,(e.st (b::t) F).2.2.2.1,(e.st (b::t) F).2.2.2.2.1,(e.st (b::t) F).2.2.2.2.2))):=by
  intro o x l;cases o with
  |none=>simp only[lM,show((-1:Int)<0) from by decide,bA,aL];exact Nb rfl rfl h.xQ λ_=>rfl
  |some q=>
   have d:=l q rfl;have h0:¬ax e.S q<0:=by have:=e3 (d.trans (j.trans h.sfx));grind[ax]
   simp only[lM,h0,bG,aW];exact⟨d,h.mono (d.trans j),.inl rfl⟩
 have I:EG (e.st (b::t) F).1 (W ((e.st (b::t) F).2.1+1))=some (lM e.S (hE t)):=by show EG e.S (W (ax e.S (b::t)+1))=_;rw[v];exact ame h.b7 (eo h.sfx)
 have J:xy (e.st (b::t) F).1 (W ((e.st (b::t) F).2.1+1))=some (lM e.S (gw t)):=by show xy e.S (W (ax e.S (b::t)+1))=_;rw[v];exact ZS h.b7 (eo h.sfx)
 have A:Eu (e.st (b::t) F).1 (e.st (b::t) F).2.1=some (gG (b::t)):=ZJ h.b7 h.sfx
 have K:∀(m:dp Unit)(y:Option (bp aj aj)),a2 e t m (λ_=>e.st) y->Nf e b t F m (a_ y (λx=>x) λy=>some (.inr (true,y.1,y.2.1,y.2.2.1,y.2.2.2.1,y.2.2.2.2.1,y.2.2.2.2.2))):=by
  intro m y hm;cases m with
  |ok a ad S=>obtain⟨f,g,L⟩:=hm;exact⟨f,g,.inl (by rw[fm L])⟩
  |more op nd ds=>obtain⟨st,f,g⟩:=hm;exact⟨st,ib f,g⟩
  |bad q=>obtain⟨f,st,g⟩:=hm;exact⟨f,st,ib g⟩
  |deep q=>trivial
 have M:Nf e b t F (dp.ok () t F) (some (.inr (false,e.st (b::t) F))):=⟨fq,h.mono j,.inr ⟨rfl,rfl,rfl⟩⟩;by_cases r:b=96
 ·subst r;simp only[bA,aL,cK,show¬((96:UInt8)=39) by decide,bG,aW];rw[I,aR rfl];unfold jS;exact z (hE t) [96] λq d=>FG _ _ q (cF _) d
 rw[aO r];simp only[r,bG,aW];cases i with
 |true=>
  by_cases B:b=39
  ·subst B;simp only[bA,aL,cK];have s:gG (39::t)=false:=by rfl
   rw[s,J,aR rfl];unfold jS;exact z (gw t) [39] λq d=>A1 _ q d
  simp only[B,bG,aW];by_cases C:b=34
  ·subst C;have s:gG (34::t)=false:=by rfl
   rw[s];simp only[bA,aL,cK,eQ,cA,show¬((34:UInt8)=39) by decide];exact K _ _ (amg (g9 rfl) bf h)
  simp only[C,bG,aW];rw[A,aR rfl];cases l:gG (b::t) with
  |true=>simp_all[aL,cK,ZZ]
  |false=>grind
 |false=>
  have N:∀p:Prop,∀[Decidable p],(bif decide p then false else false)=false:=by simp
  simp only[N,aW];rw[A,aR rfl];cases l:gG (b::t) with
  |true=>simp_all[aL,cK,ZZ]
  |false=>grind
theorem Z1{R:bj}{n:Nat}(w:Below R n)(g:Bool)(g9:g=true->Db R n){e:cP}(bf:e.ne=30- (n:Int))(c:UInt8):
  qX e (jD c (cJ (a9 false n) (if g then some (e2 (a9 false n)) else none))) (λ_=>e.st) (λx=>L6 R x c g):=by
 intro r F h;unfold jD L6;refine a2.rep (en:=λ_ r F=>e.st r F) (λk s ad d M av=>?_) bD () r F (mj (kB (e3 h.sfx) h.b7)) h;unfold RE a7;cases ad with
 |nil=>
  have ay:decide (((e.st [] d).1.length:Int)<=(e.st [] d).2.1)=true:=by simp[cP.st,iO]
  show a2 e [] (cR _ [] (cf [] [] d)) _ (bif decide (((e.st [] d).1.length:Int)<=(e.st [] d).2.1) then _ else _);rw[ay];exact a2.ZH (k:=λy=>Empty.elim y) (f:=λx=>(x.1,x.2.1,d,x.2.2.2.1,e.op,x.2.2.2.2.2)) c_.k rfl rfl
 |cons b t=>
  have ay:decide (((e.st (b::t) d).1.length:Int)<=(e.st (b::t) d).2.1)=false:=by grind[nN,ax,cP.st]
  show a2 e (b::t) (cR _ (b::t) (if b=c then _ else _)) _ (bif decide (((e.st (b::t) d).1.length:Int)<=(e.st (b::t) d).2.1) then _ else _);rw[ay];simp only[aW];refine a2.ei ?_ (b1 (iy M.sfx));have A:at' (e.st (b::t) d).1 (e.st (b::t) d).2.1=b:=j2 M.sfx;have m:t<:+b::t:=dL b t;by_cases az:b=c
  ·subst az;rw[bc rfl];refine a2.ei ?_ (show(bif decide (((at' (e.st (b::t) d).1 (e.st (b::t) d).2.1).toNat:Int)=(b.toNat:Int)) then _ else _)=some (.inr (e.S,W (ax e.S (b::t)+1),d,e.ne,e.op,e.kz)) by grind);rw[jj M.b7 M.sfx];exact a2.inr m (M.mono m) rfl
  ·rw[aO az];have aD:decide (((at' (e.st (b::t) d).1 (e.st (b::t) d).2.1).toNat:Int)=(c.toNat:Int))=false:=by grind[rN]
   refine a2.ei (y:=a_ (Cg R (e.st (b::t) d) g) (λx=>x) λz=>bif !z.1 then k (z.2.1,W (z.2.2.1+1),z.2.2.2.1,z.2.2.2.2.1,z.2.2.2.2.2.1,z.2.2.2.2.2.2) else k z.2) ?_ (by show(bif decide (((at' (e.st (b::t) d).1 (e.st (b::t) d).2.1).toNat:Int)=(c.toNat:Int)) then _ else _)=_;rw[aD];rfl)
   have aE:=Z0 w g g9 bf M;unfold N;cases hm:cJ (a9 false n) (if g=true then some (e2 (a9 false n)) else none) (b::t) d with
   |ok a o p=>
    rw[hm] at aE;obtain⟨i,j,l⟩:=aE;have u:o.length<(b::t).length:=by grind
    refine a2.inl u ?_;have v:=av () o p (i.trans m) j u;rcases l with l|⟨l,rfl,rfl⟩
    ·rw[fm l];exact v
    ·rw[fm l];show a2 e _ _ _ (k (e.S,W (ax e.S (b::o)+1),p,e.ne,e.op,e.kz));rw[jj M.b7 M.sfx];exact v
   |more op nd ds=>rw[hm] at aE;obtain⟨st,i,j⟩:=aE;exact⟨st,ib i,j⟩
   |bad q=>rw[hm] at aE;obtain⟨i,st,j⟩:=aE;exact⟨i,st,ib j⟩
   |deep q=>trivial
theorem amk{k n:Nat}(a:Below (lj k) n):Db (lj (k+1)) n:=⟨λe bf=>Z1 a false (λh=>by cases h) bf 34⟩
theorem aml{k n:Nat}(a:Below (lj k) n)(g9:Db (lj k) n):Ji (lj (k+1)) n:=⟨λe bf=>Z1 a true (λ_=>g9) bf 125⟩
structure ug(R:bj)(n:Nat):Prop extends Below R n where
 u0:Db R n
theorem Ng{t:Tok}:(jH t).1=3↔ ∃w p,t= .word w p:=by cases t<;>simp[jH]
def amm:aj->Option (bp aj aj):=λx=>bif decide (x.2.1=(x.1.length:Int)) then a_ (sN x) (λy=>(y.1,y.2.1,x.2.2.1,y.2.2.2.1,x.2.2.2.2.1,y.2.2.2.2.2)) λy=>Empty.elim y else some (.inr x)
theorem Nh{R:bj}{n:Nat}(hA:ug R n){e:cP}(bf:e.ne=30- (n:Int)){r:H}{F:ah}(h:eb e r F)(Y:bo r=some r){w:H}{p:Bool}(j:aq r= .word w p):
  a2 e r (cX (a9 false n) r F) (λ_=>e.st) (me R (e.st r F)):=by
 have e0:me R (e.st r F)=fixF (Q5 R amm) bD (e.st r F):=by
  unfold me a7;refine(fm ((lL e).some h Y)).trans ?_;have:(jH (aq r)).1=3:=by rw[j];rfl
  simp only[this,bA,hI,aW];rfl
 rw[e0];unfold cX;refine a2.rep (en:=λ_ r F=>e.st r F) (λk s ad c M av=>?_) bD () r F (mj (kB (e3 h.sfx) h.b7)) h;unfold Q5 a7;have A:yP (e.st ad c).1 (e.st ad c).2.1=some (c1 ad):=Ti M.b7 M.sfx;refine a2.ei ?_ (aR A);cases ad with
 |nil=>
  have ay:decide ((e.st [] c).2.1=((e.st [] c).1.length:Int))=true:=by simp[cP.st,iO]
  show a2 e [] (cR _ [] (cf [] [] c)) _ (bif decide ((e.st [] c).2.1=((e.st [] c).1.length:Int)) then _ else _);rw[ay];exact a2.ZH (k:=λy=>Empty.elim y) (f:=λx=>(x.1,x.2.1,c,x.2.2.2.1,e.op,x.2.2.2.2.2)) c_.k rfl rfl
 |cons b t=>
  have j:t<:+b::t:=dL b t;simp only;by_cases l:c1 (b::t)=true
  ·rw[bc l,l];have ay:decide ((e.st (b::t) c).2.1=((e.st (b::t) c).1.length:Int))=false:=by simp[cP.st,zr]
   show a2 e (b::t) (cR _ (b::t) (a1 (.inr ()) (b::t) c)) _ (bif decide ((e.st (b::t) c).2.1=((e.st (b::t) c).1.length:Int)) then _ else _);rw[ay];exact a2.inr fq M rfl
  ·have B:c1 (b::t)=false:=by grind
   rw[aO l,B];refine a2.ei (y:=a_ (Cg R (e.st (b::t) c) true) (λx=>x) λz=>bif !z.1 then k (z.2.1,W (z.2.2.1+1),z.2.2.2.1,z.2.2.2.2.1,z.2.2.2.2.2.1,z.2.2.2.2.2.2) else k z.2) ?_ rfl;have aE:=Z0 hA.toBelow true (λ_=>hA.u0) bf M;unfold N;simp only[cK] at aE;cases hm:cJ (a9 false n) (some (e2 (a9 false n))) (b::t) c with
   |ok a m o=>
    rw[hm] at aE;obtain⟨d,g,i⟩:=aE;have u:m.length<(b::t).length:=by grind
    refine a2.inl u ?_;have v:=av () m o (d.trans j) g u;rcases i with i|⟨i,rfl,rfl⟩
    ·rw[fm i];exact v
    ·rw[fm i];show a2 e _ _ _ (k (e.S,W (ax e.S (b::m)+1),o,e.ne,e.op,e.kz));rw[jj M.b7 M.sfx];exact v
   |more op nd ds=>rw[hm] at aE;obtain⟨st,d,g⟩:=aE;exact⟨st,ib d,g⟩
   |bad q=>rw[hm] at aE;obtain⟨d,st,g⟩:=aE;exact⟨d,st,ib g⟩
   |deep q=>trivial
theorem amn{α β:Type}{e:cP}{r0 r:H}{F:ah}{x:H}{cv:α->H->ah->β}{f:aj->aj}{k:Empty->Option (bp aj β)}(h:eb e r F)(Y:bo r=some r)(hf:∀st,(f st).2.2.2.2.1=st.2.2.2.2.1\/(f st).2.2.2.2.1=e.op):
  a2 e r0 ((if aq r= .eof then cf x else bP:ae α) r F) cv (a_ (lC (e.st r F)) f k):=by
 by_cases a:aq r= .eof
 ·rw[bc a];exact(((ud h Y).1 a).bind hf).sm
 ·rw[aO a];exact⟨h.sfx,_,ib ((ud h Y).2 a)⟩
theorem Ni{α β:Type}{m:ae α}{e:cP}{r0 r:H}{F:ah}{x:H}{cv:α->H->ah->β}{f:aj->aj}{k:Empty->Option (bp aj β)}(h:eb e r F)(Y:bo r=some r)(M:aq r= .eof->m=cf x)(U:aq r≠ .eof->m=bP)(hf:∀st,(f st).2.2.2.2.1=st.2.2.2.2.1\/(f st).2.2.2.2.1=e.op):
  a2 e r0 (m r F) cv (a_ (lC (e.st r F)) f k):=by
 have:=amn (α:=α) (r0:=r0) (x:=x) (cv:=cv) (f:=f) (k:=k) h Y hf;by_cases a:aq r= .eof
 ·simp_all
 simp_all
theorem Tp{R:bj}{n:Nat}(hA:ug R n){e:cP}(bf:e.ne=30- (n:Int))(x:H):qX e (ke (a9 false n) x) (λ_=>e.st) (me R):=by
 intro r F h;unfold ke;cases Y:bo r with
 |none=>rw[dt (iY Y)];unfold me a7;exact(((lL e).none h Y).bind λ_=> .inr rfl).sm
 |some r'=>
  rw[aS (cu Y)];have f:=ef Y;have b:=h.mono f;have c:=l1 _ _ _ (cF _) Y;by_cases a:∃w p,aq r'= .word w p
  ·obtain⟨w,p,a⟩:=a;rw[a];have d:me R (e.st r F)=me R (e.st r' F):=by unfold me a7;refine(fm ((lL e).some h Y)).trans (Eq.symm ((fm ((lL e).some b c)).trans ?_));rfl
   rw[d];exact(Nh hA bf b c a).mono f
  ·have g:decide ((jH (aq r')).1=3)=false:=by grind[decide_eq_false_iff_not,Ng]
   have d:me R (e.st r F)=a_ (lC (e.st r' F)) (λx=>(x.1,x.2.1,F,x.2.2.2.1,e.op,x.2.2.2.2.2)) λy=>Empty.elim y:=by unfold me a7;refine(fm ((lL e).some h Y)).trans ?_;simp only[g,fo,aL];rfl
   rw[d];refine Ni (x:=x) b c (λav=>by rw[av]) (λav=>?_) λ_=> .inr rfl;grind
theorem FU:dl [] 0=some []:=by simp[dl]
theorem Tq(q:UInt8)(a:q=0\/q=34)(c:UInt8)(u:H):dl (92::c::u) q=if c=10 then dl u q else if q=0\/c=36\/c=34\/c=92\/c=96 then(dl u q).map (c::·) else(dl (c::u) q).map (92::·):=by rw[dl];grind
theorem amo(q:UInt8)(a:q=0\/q=34):dl [92] q=none:=by rw[dl];rcases a with rfl|rfl<;>simp
theorem Nj(q:UInt8)(a:q=0\/q=34)(b:UInt8)(c:b=36\/b=96)(u:H):dl (b::u) q=none:=by rw[dl.eq_def];grind
theorem Z2(u:H):dl (34::u) 34=dl u 0:=by grind[dl.eq_def]
theorem Dd(u:H):dl (34::u) 0=dl u 34:=by grind[dl.eq_def]
theorem Tr(u:H):dl (39::u) 0=dl u 39:=by grind[dl.eq_def]
theorem Jk(q:UInt8)(a:q=0\/q=34)(b:UInt8)(M:b≠92)(U:b≠36)(c:b≠96)(d:b≠34)(e:q=0->b≠39)(u:H):dl (b::u) q=(dl u q).map (b::·):=by rw[dl.eq_def];grind
theorem Ts(c:UInt8)(u:H):dl (92::c::u) 34=(dl u 34).map (AX c++·):=by
 rw[Tq 34 (.inr rfl)];unfold AX;by_cases h:c=36\/c=34\/c=92\/c=96
 ·grind
 ·rw[aO h];by_cases U:c=10
  ·simp_all
  ·rw[aO U,aO U,aO (by grind)];simp only[not_or] at h;rw[Jk 34 (.inr rfl) c h.2.2.1 h.1 h.2.2.2 h.2.1 (λa=>absurd a (by decide))];cases dl u 34<;>rfl
theorem Nk(t:H):eV (34::t)= .closed [] t:=by simp[eV.eq_def]
theorem Tt(b:UInt8)(a:b=36\/b=96)(t:H):eV (b::t)= .part:=by rw[eV.eq_def];grind
theorem Tu:eV [92]= .part:=by rfl
theorem Nl(c:UInt8)(u:H):eV (92::c::u)=(eV u).add (AX c):=by rfl
theorem Nm(b:UInt8)(M:b≠34)(U:¬(b=36\/b=96))(a:b≠92)(t:H):eV (b::t)=(eV t).add [b]:=by grind[eV.eq_def]
theorem Z3:∀(n:Nat)(t:H),t.length<=n->match eV t with
  | .closed o r=>∃a,t=a++r/\∀v,dl (a++v) 34=(dl v 0).map (o++·)
  | .open_ o=>dl (t++[34]) 34=some o
  | .part=>dl (t++[34]) 34=none:=by
 intro n;induction n with
 |zero=>intro t h;have:t=[]:=m4.1 (by omega);subst this;show dl [34] 34=some [];rw[Z2,FU]
 |succ n i=>
  intro t au;cases t with
  |nil=>grind
  |cons b t=>
   have j:t.length<=n:=by grind
   have d:∀(x u p:H),u.length<=n->b::t=p++u->eV (b::t)=(eV u).add x->(∀v,dl (p++v) 34=(dl v 34).map (x++·))->match eV (b::t) with
     | .closed o r=>∃a,b::t=a++r/\∀v,dl (a++v) 34=(dl v 0).map (o++·)
     | .open_ o=>dl (b::t++[34]) 34=some o
     | .part=>dl (b::t++[34]) 34=none:=by
    intro x u p hu he k aD;have:=i u hu;rw[k];cases av:eV u with
    |closed o r=>rw[av] at this;obtain⟨a,rfl,U⟩:=this;refine⟨p++a,by grind,λv=>?_⟩;rw[ob,aD,U];cases dl v 0<;>simp
    |part=>grind[jE.add,List.append_assoc]
    |open_ o=>grind[jE.add,List.append_assoc]
   by_cases e:b=34
   ·subst e;rw[Nk];exact⟨[34],rfl,λv=>by simp[Z2]⟩
   by_cases aE:b=36\/b=96
   ·rw[Tt b aE];exact Nj 34 (.inr rfl) b aE _
   by_cases f:b=92
   ·subst f;cases t with
    |nil=>simp[Tu,dl,Ts]
    |cons c u=>exact d (AX c) u [92,c] (by grind) rfl (Nl c u) λv=>Ts c v
   ·have g:b≠36/\b≠96:=by grind
    refine d [b] t [b] j rfl (Nm b e aE f t) λv=>?_;show dl (b::v) 34=_;rw[Jk 34 (.inr rfl) b f g.1 g.2 e (λl=>absurd l (by decide))];rfl
theorem Jl:∀(t:H),match gw t with
  |some r=>∃a,t=a++39::r/\a=t.take (t.length-r.length-1)/\∀v,dl (a++39::v) 39=(dl v 0).map (a++·)
  |none=>dl t 39=none
 |[]=>by show dl [] 39=none;simp[dl]
 |b::t=>by
  have c:=Jl t;unfold gw;by_cases d:b=39
  ·subst d;rw[bc rfl];refine⟨[],rfl,by simp,λv=>?_⟩;show dl (39::v) 39=_;rw[dl.eq_def];simp
  ·rw[aO d]
   have aD:∀v,dl (b::v) 39=(dl v 39).map (b::·):=by grind[dl.eq_def]
   cases Y:gw t with
   |none=>grind
   |some r=>
    rw[Y] at c;obtain⟨a,M,U,e⟩:=c;have ay:t.length=a.length+1+r.length:=by grind
    refine⟨b::a,by grind,?_,λv=>?_⟩
    ·have f:(b::t).length-r.length-1=(t.length-r.length-1)+1:=by grind
     grind
    ·show dl (b::(a++39::v)) 39=_;rw[aD,e];cases dl v 0<;>rfl
def gH:H->Option (H×H)
 |[]=>some ([],[])
 |b::t=>if c1 (b::t) then some (b::t,[]) else
  if b=92 then match t with
   |[]=>some ([],[])
   |c::u=>gH u
  else if b=39 then match h:gw t with
   |none=>none
   |some r=>gH r
  else if b=36\/b=96 then none else
  if b=34 then match h:eV t with
   | .part=>some ([],[34])
   | .open_ o=>some ([],[34])
   | .closed o r=>gH r
  else gH t
termination_by r=>r.length
decreasing_by
 all_goals simp_wf
 ·omega
 ·have:=zl t r h;omega
 ·have:=Fp t o r h;omega
theorem Z4:∀(n:Nat)(r:H),r.length<=n->match gH r with
  |none=>df r=none
  |some (q,a)=>∃w,r=w++q/\df r=(dl (w++a) 0).map λd=>(d,q,a):=by
 intro n;induction n with
 |zero=>intro r h;have:r=[]:=m4.1 (by omega);subst this;rw[gH,df];exact⟨[],rfl,by simp[FU]⟩
 |succ n A=>
  intro r au;cases r with
  |nil=>grind
  |cons b t=>
   have B:t.length<=n:=by grind
   have go:∀(u p x:H),u.length<=n->b::t=p++u->gH (b::t)=gH u->df (b::t)=(df u).map (λq=>(x++q.1,q.2))->(∀v,dl (p++v) 0=(dl v 0).map (x++·))->match gH (b::t) with
     |none=>df (b::t)=none
     |some (q,a)=>∃w,b::t=w++q/\df (b::t)=(dl (w++a) 0).map λd=>(d,q,a):=by
    intro u p x hu he M U j;have:=A u hu;rw[M,U];cases Y:gH u with
    |none=>grind
    |some y=>obtain⟨q,a⟩:=y;rw[Y] at this;obtain⟨w,rfl,C⟩:=this;refine⟨p++w,by grind,?_⟩;rw[C,ob,j];cases dl (w++a) 0<;>rfl
   by_cases D:c1 (b::t)=true
   ·have e:gH (b::t)=some (b::t,[]):=by rw[gH.eq_def];grind
    have f:df (b::t)=some ([],b::t,[]):=by rw[df.eq_def];grind
    rw[e,f];exact⟨[],rfl,by simp[FU]⟩
   by_cases k:b=92
   ·subst k;cases t with
    |nil=>
     have e:gH [92]=some ([],[]):=by rw[gH.eq_def];grind
     have f:df [92]=none:=by rw[df.eq_def];grind
     rw[e,f];exact⟨[92],rfl,by rw[kj,amo 0 (.inl rfl)];rfl⟩
    |cons c u=>
     refine go u [92,c] (if c=10 then [] else [c]) (by grind) rfl (by rw[gH.eq_def];grind) (by rw[df.eq_def];grind) λv=>?_;show dl (92::c::v) 0=_;rw[Tq 0 (.inl rfl)];by_cases az:c=10
     ·simp[az]
     grind
   by_cases l:b=39
   ·subst l;have m:=Jl t;cases Y:gw t with
    |none=>
     have e:gH (39::t)=none:=by rw[gH.eq_def];grind
     have f:df (39::t)=none:=by rw[df.eq_def];grind
     grind
    |some r=>
     rw[Y] at m;obtain⟨g,M,U,j⟩:=m
     refine go r (39::g++[39]) g (by grind) (by grind) (by
      rw[gH.eq_def];grind) (by
      rw[df.eq_def];grind) λv=>?_
     grind[Tr]
   by_cases aE:b=36\/b=96
   ·have e:gH (b::t)=none:=by rw[gH.eq_def];grind
    have f:df (b::t)=none:=by rw[df.eq_def];grind
    grind
   by_cases s:b=34
   ·subst s;have i:=Z3 _ t (cF _);cases Y:eV t with
    |closed o r=>
     rw[Y] at i;obtain⟨g,M,U⟩:=i
     refine go r (34::g) o (by grind) (by grind) (by
      rw[gH.eq_def];grind) (by
      rw[df.eq_def];grind) λv=>?_
     grind[dl,Dd]
    |part=>
     rw[Y] at i;have e:gH (34::t)=some ([],[34]):=by rw[gH.eq_def];grind
     have f:df (34::t)=none:=by rw[df.eq_def];grind
     grind[dl,Dd]
    |open_ o=>
     rw[Y] at i;have e:gH (34::t)=some ([],[34]):=by rw[gH.eq_def];grind
     have f:df (34::t)=some (o,[],[34]):=by rw[df.eq_def];grind
     grind[dl,Dd]
   ·have z:b≠36/\b≠96:=by grind
    refine go t [b] [b] B rfl (by rw[gH.eq_def];grind) (by rw[df.eq_def];grind) λv=>?_;show dl (b::v) 0=_;rw[Jk 0 (.inl rfl) b k z.1 z.2 s (λ_=>l)];rfl
def uh(S a:H):jE->H×Int
 | .closed o r=>(a++o,ax S r)
 |_=>([], -1)
theorem Z5(S a x:H)(q:jE):uh S a (q.add x)=uh S (a++x) q:=by cases q<;>simp[jE.add,uh]
theorem amp{S:H}(du:S.length<=1000000):∀(n:Nat)(r a:H),r.length<n->r<:+S->a.length+r.length<=2000000->fixF (tQ S λ_=>some ([],(-1))) n (a,ax S r)=some (uh S a (eV r)):=by
 intro n;induction n with
 |zero=>omega
 |succ n f=>
  intro r a au d p;rw[fl];generalize fixF (tQ S _) n=k at f;unfold tQ a7;cases r with
  |nil=>simp[iO,eV,uh]
  |cons b t=>
   have q:t.length<n:=by grind
   have s:(b::t).length=t.length+1:=rfl;have i:=jj du d;simp only[nN d,bA,aL];rw[b1 ⟨(iy d).1,trivial⟩];simp only[j2 d,i,oG,qU,oF,ng];by_cases g:b=34
   ·grind[Nk,uh]
   simp only[g,bG,aW];by_cases aE:b=36\/b=96
   ·rw[Tt b aE];rcases aE with rfl|rfl<;>simp[uh]
   have h:b≠36/\b≠96:=by grind
   simp only[h.1,h.2,bG,aW];by_cases e:b=92
   ·subst e;simp only[bA,aL];cases t with
    |nil=>simp[iO,Tu,uh]
    |cons c u=>
     have bf:¬ax S (c::u)=(S.length:Int):=by simp[zr]
     have j:=jj du (eo d);have l:(c::u).length=u.length+1:=rfl;have m:u.length<n:=by omega
     simp only[bf,bG,aW];rw[b1 (iy (eo d))];simp only[j2 (eo d),j,qd];rw[Nl,Z5];have v:=λx (w:x.length<=2)=>f u (a++x) m (eo (eo d)) (by grind);unfold AX;by_cases az:c=36\/c=34\/c=92\/c=96
     ·rw[bc az];have:(bif bif bif decide (c=36) then true else decide (c=34) then true else decide (c=92) then true else decide (c=96))=true:=by grind
      rw[this];simp only[aL];grind[b1,List.length_singleton]
     ·rw[aO az];have:(bif bif bif decide (c=36) then true else decide (c=34) then true else decide (c=92) then true else decide (c=96))=false:=by grind
      rw[this];by_cases o:c=10
      ·grind
      ·simp only[o,bG,fo,aL,aW,cA];grind[b1,List.length_cons,List.length_nil]
   ·simp only[e,bG,aW];rw[b1 ⟨(iy d).1,trivial⟩,b1 (by grind),Nm b g aE e,Z5];grind[eo,List.length_append,List.length_singleton]
theorem amq{S r:H}(du:S.length<=1000000)(a:r<:+S):ER S (ax S r) []=some (uh S [] (eV r)):=by unfold ER a7;grind[e3,amp,mj,Nat.le_trans,List.length_nil]
def Z6(S:H)(st:Int)(F:ah)(op:bx)(j:H×Int->Option (bp aj aj))(y:Option (bp aj aj)):Option (H×H)->Prop
 |none=>∃s:aj,y=some (.inl (2,st,s))
 |some (q,b)=>q<:+S/\∃a,(a=ax S q\/q=[]/\a=(S.length:Int)+1)/\y=j (b,a)
theorem amr{I:aj}{S:H}{st ak a3:Int}{j:H×Int->Option (bp aj aj)}(du:S.length<=1000000):∀(n:Nat)(r:H),r.length+1<n->r<:+S->
  Z6 S st I.2.2.1 I.2.2.2.2.1 j (fixF (y0 I S st ak a3 j) n ([],ax S r)) (gH r):=by
 intro n;induction n with
 |zero=>omega
 |succ n g=>
  intro r au d
  have h:∀(i:H)(p:Int),n≠0->((S.length:Int)<=p/\p<=(S.length:Int)+1)->fixF (y0 I S st ak a3 j) n (i,p)=j (i,p):=by
   intro i p C aE
   obtain⟨m,rfl⟩:∃m,n=m+1:=⟨n-1,by omega⟩
   rw[fl];unfold y0;dsimp only;have:yP S p=some true:=by simp_all[yP,bA,aL,cZ,a4]
   rw[this,aR rfl];rfl
  rw[fl];generalize fixF (y0 I S st ak a3 j) n=k at g h;unfold y0 a7;dsimp only;rw[Ti du d,aR rfl];have D:=e3 d;cases r with
  |nil=>rw[gH];exact⟨d,_,.inl rfl,by rfl⟩
  |cons b t=>
   have E:(b::t).length=t.length+1:=rfl;have F:t.length+1<n:=by omega
   have z:=jj du d;by_cases A:c1 (b::t)=true
   ·rw[A];have a:gH (b::t)=some (b::t,[]):=by rw[gH.eq_def];grind
    rw[a];exact⟨d,_,.inl rfl,by simp⟩
   have B:c1 (b::t)=false:=by grind
   rw[B];simp only[fo,aL,bA];rw[b1 (iy d)];simp only[j2 d,ng,rM,qU,oF,oG,z];by_cases l:b=92
   ·subst l;simp only[bA,aL];cases t with
    |nil=>
     have a:gH [92]=some ([],[]):=by rw[gH.eq_def];grind
     rw[a];have:W (ax S [92]+2)=(S.length:Int)+1:=by grind[ax,dJ,List.length_singleton]
     rw[this];exact⟨nP,_,.inr ⟨rfl,rfl⟩,h _ _ (by omega) (by omega)⟩
    |cons c u=>
     have a:gH (92::c::u)=gH u:=by rw[gH.eq_def];grind
     have s:W (ax S (92::c::u)+2)=ax S u:=k9 (w:=[92,c]) du d;grind[List.length_cons,eo]
   simp only[l,bG,aW];by_cases v:b=39
   ·subst v;simp only[bA,aL];rw[ZS du (eo d),aR rfl];cases Y:gw t with
    |none=>
     have a:gH (39::t)=none:=by rw[gH.eq_def];grind
     rw[a];simp only[lM,show((-1:Int)<0) from by decide,bA,aL];exact⟨_,rfl⟩
    |some e=>
     have a:gH (39::t)=gH e:=by rw[gH.eq_def];grind
     rw[a];have f:=(A1 _ _ Y).trans (eo d);have h0:¬ax S e<0:=by grind[e3,ax]
     simp only[lM,h0,bG,aW];exact g e (by have:=zl t e Y;omega) f
   simp only[v,bG,aW];by_cases aE:b=36\/b=96
   ·have a:gH (b::t)=none:=by rw[gH.eq_def];grind
    rw[a];rcases aE with rfl|rfl
    ·simp only[bA,aL];exact⟨_,rfl⟩
    ·simp only[show¬((96:UInt8)=36) by decide,bA,bG,aL,aW];exact⟨_,rfl⟩
   have x:b≠36/\b≠96:=by grind
   simp only[x.1,x.2,bG,aW];by_cases y:b=34
   ·subst y;simp only[bA,aL];rw[amq du (eo d),aR rfl]
    have G:∀q,eV t=q->(∀o r,q≠ .closed o r)->Z6 S st I.2.2.1 I.2.2.2.2.1 j (bif decide ((uh S [] q).2<0) then k ([34],(S.length:Int)) else k ([],(uh S [] q).2)) (gH (34::t)):=by
     intro q f az;have a:gH (34::t)=some ([],[34]):=by rw[gH.eq_def];grind
     rw[a];have s:(uh S [] q).2= -1:=by cases q with
      |closed o r=>grind
      |_=>rfl
     rw[s];simp only[show((-1:Int)<0) from by decide,bA,aL];exact⟨nP,_,.inl (iO S).symm,h _ _ (by omega) (by omega)⟩
    cases Y:eV t with
    |closed o e=>
     have a:gH (34::t)=gH e:=by rw[gH.eq_def];grind
     rw[a];have f:=(SL _ _ _ _ (cF _) Y).trans (eo d);have h0:¬ax S e<0:=by grind[e3,ax]
     simp only[uh,h0,bG,aW];exact g e (by have:=Fp t o e Y;omega) f
    |part=>grind
    |open_ o=>grind
   ·have a:gH (b::t)=gH t:=by rw[gH.eq_def];grind
    rw[a];simp only[y,bG,aW];grind[eo]
theorem Nn(s:H)(b:UInt8):(0<=Lib.indexByte s b)↔s.contains b=true:=by
 induction s with
 |nil=>simp[Lib.indexByte]
 |cons c t a=>unfold Lib.indexByte;grind
def A5(m:Option H):H×Bool:=match m with
 |some d=>if d.contains 10 then([],false) else(d,true)
 |none=>([],false)
theorem Tv(l:H)(ay:(l.length:Int)<=1048576):yZ l=some (A5 (dl l 0)):=by
 rw[alZ l ay];unfold oE A5;cases dl l 0 with
 |none=>rfl
 |some s=>
  simp only[q6];by_cases h:s.contains 10=true
  ·simp_all[bc,Nn]
  simp_all[aO,Nn]
theorem ams(l:H)(ay:(l.length:Int)<=200000000):Io l=some (A5 (dl l 0)):=by
 rw[alY l ay];unfold oE A5;cases dl l 0 with
 |none=>rfl
 |some s=>
  simp only[q6];by_cases h:s.contains 10=true
  ·simp_all[bc,Nn]
  simp_all[aO,Nn]
theorem Z7(r q a:H)(h:gH r=some (q,a)):a.length<=1:=by
 fun_induction gH r<;>simp_all
 all_goals grind
theorem Z8{e:cP}{r:H}{F:ah}(tabs:Bool)(h:eb e r F)(V:F.length+r.length<e.S.length):a2 e r (gS tabs r F) (λ_=>e.st) (y1 (e.st r F) tabs):=by
 unfold gS;cases Y:bo r with
 |none=>unfold y1 a7;exact(((lL e).none h Y).bind λ_=> .inr rfl).sm
 |some r'=>
  have u:=ef Y;have a:=h.mono u;have v:=l1 _ _ _ (cF _) Y;simp only;by_cases l:∃w p,aq r'= .word w p
  ·obtain⟨w,p,l⟩:=l;rw[l];simp only;unfold y1 a7;refine a2.ei ?_ (fm ((lL e).some h Y));have z:(jH (aq r')).1=3:=by rw[l];rfl
   simp only[z,bA,hI,aW];generalize M:(λx:H×Int=>_)=j;have f:=amr (I:=e.st r F) (S:=e.S) (st:=ax e.S r') (ak:=e.ne) (a3:=e.kz) (j:=j) h.b7 bD r' (by have:=e3 a.sfx;have:=h.b7;grind[gD]) a.sfx;have g:=Z4 _ r' (cF _);show a2 e r _ _ (fixF (y0 (e.st r F) e.S (ax e.S r') e.ne e.kz j) bD ([],ax e.S r'));generalize fixF (y0 (e.st r F) e.S (ax e.S r') e.ne e.kz j) bD ([],ax e.S r')=y at f;cases A:gH r' with
   |none=>rw[A] at f g;obtain⟨s,rfl⟩:=f;simp only at g;rw[g];exact⟨a.sfx,s,rfl⟩
   |some x=>
    obtain⟨q,b⟩:=x;rw[A] at f g;obtain⟨c,G,aD⟩:=g;obtain⟨N,i,aE,rfl⟩:=f;have B:q<:+r':=⟨c,G.symm⟩;have O:min i (e.S.length:Int)=ax e.S q:=by
     have:= @pz q e.S;rcases aE with rfl|⟨rfl,rfl⟩
     ·omega
     grind[iO]
    have P:b4 e.S (ax e.S r') (ax e.S q)=c:=by rw[Jd a.sfx B,G];simp
    have W:=e3 a.sfx;have J:r'.length=c.length+q.length:=by grind
    have Q:=u.length_le;have X:=h.b7;have Z:b.length<=1:=Z7 _ _ _ A;have C:((c++b).length:Int)<=1048576:=by grind
    rw[<-M];have D:min i ((e.st r' F).1.length:Int)=ax e.S q:=O;simp only[D];have K:ax e.S r'<=ax e.S q/\0<=ax e.S r':=by grind[ax]
    refine a2.ei ?_ (b1 ⟨K.2,K.1,pz⟩);show a2 e r _ _ (a4 ((((b4 e.S (ax e.S r') (ax e.S q)).length+b.length:Nat):Int)<=9223372036854775807) (aw (yZ (b4 e.S (ax e.S r') (ax e.S q)++b)) _));rw[P];refine a2.ei ?_ (b1 (by omega));rw[aD];cases E:dl (c++b) 0 with
    |none=>
     have k:yZ (c++b)=some ([],false):=by rw[Tv _ C,E];rfl
     refine a2.ei ?_ (aR k);simp only[Option.map_none,fo,aL];refine a2.ei ?_ (b1 (λ_ m=>absurd m (by simp)));exact⟨a.sfx,_,rfl⟩
    |some d=>
     simp only[zZ];by_cases n:d.contains 10=true
     ·have k:yZ (c++b)=some ([],false):=by rw[Tv _ C,E];exact mC some (bc n)
      refine a2.ei ?_ (aR k);rw[bc n];simp only[fo,aL];refine a2.ei ?_ (b1 (λ_ m=>absurd m (by simp)));exact⟨a.sfx,_,rfl⟩
     have k:yZ (c++b)=some (d,true):=by rw[Tv _ C,E];exact mC some (aO n)
     refine a2.ei ?_ (aR k);rw[aO n];simp only[hI,aW];have bu:(bif tabs then !decide (d=[]) else false)=true->(true:Bool)=true->(0:Int)<=0/\(0:Int)<(d.length:Int):=by
      intro m _;cases d with
      |nil=>grind
      |cons x y=>simp
     refine a2.ei ?_ (b1 (by grind))
     have R:(bif bif tabs then !decide (d=[]) else false then decide (((at' d 0).toNat:Int)=9) else false)=decide (tabs=true/\d.head?=some 9):=by
      cases tabs with
      |false=>simp
      |true=>
       cases d with
       |nil=>simp
       |cons x y=>simp[at',Jb]
     rw[R];by_cases t:tabs=true/\d.head?=some 9
     ·rw[bc t];simp only[t,oc,bA,aL];exact⟨a.sfx,_,rfl⟩
     rw[aO t];simp only[t,bG,aW];by_cases kR:b=[]
     ·subst kR;simp only[ne_eq,not_true,cA,bA,hI,aW];by_cases L:q=[]
      ·subst L;rw[bc rfl];have hle:decide ((e.S.length:Int)<=i)=true:=by
        rcases aE with rfl|⟨_,rfl⟩
        ·simp[iO]
        grind
       refine a2.ei ?_ (show(bif decide ((e.S.length:Int)<=i) then _ else _)=_ by rw[hle]);exact⟨_,rfl,by simp[cP.st]⟩
      ·rw[aO L];have T:i=ax e.S q:=by grind
       subst T;have hle:decide ((e.S.length:Int)<=ax e.S q)=false:=by grind[ax,zr,pz]
       refine a2.ei ?_ (show(bif decide ((e.S.length:Int)<=ax e.S q) then _ else _)=_ by rw[hle]);have wI:=h.Tm;have Z_:=B.length_le;refine a2.ei ?_ (b1 (show F.length+[(d,tabs)].length<=536870912 by grind));exact⟨B.trans u,⟨h.b7,N,by grind,by have:=h.ops;omega⟩,rfl⟩
     ·rw[bc kR];simp only[kR,bG,fo,aL];exact Nb rfl rfl h.xQ λ_=>rfl
  ·have z:decide ((jH (aq r')).1=3)=false:=by grind[decide_eq_false_iff_not,Ng]
   have U:y1 (e.st r F) tabs=a_ (lC (e.st r' F)) (λx=>(x.1,x.2.1,F,x.2.2.2.1,e.op,x.2.2.2.2.2)) λy=>Empty.elim y:=by unfold y1 a7;refine(fm ((lL e).some h Y)).trans ?_;simp only[z,fo,aL];rfl
   rw[U];cases av:aq r' with
   |word w p=>grind
   |eof=>exact(((ud a v).1 av).bind λ_=> .inr rfl).sm
   |line=>exact⟨a.sfx,_,ib ((ud a v).2 (by grind))⟩
   |op o=>exact⟨a.sfx,_,ib ((ud a v).2 (by grind))⟩
theorem aaa(b:UInt8):H2 (b.toNat:Int)=some (ch b):=by
 unfold H2 Cm ch;have M:((48:Int)<=(b.toNat:Int))=((48:UInt8)<=b):=by apply propext;rw[DT];grind
 have U:((b.toNat:Int)<=(57:Int))=(b<=(57:UInt8)):=by apply propext;rw[DT];grind
 grind[aw]
theorem amu(w:H)(d:w.length<=1000000):H5 w=some (!decide (w=[])&&w.all ch):=by
 have a:∀(n:Nat)(r:H),r.length<n->r<:+w->fixF (LR w λ_=>some (!(decide (w=[])))) n (ax w r)=some (!decide (w=[])&&r.all ch):=by
  intro n;induction n with
  |zero=>omega
  |succ n e=>
   intro r au c;rw[fl];generalize fixF (LR w _) n=k at e;unfold LR;cases r with
   |nil=>simp[iO]
   |cons b t=>
    have f:=jj d c;simp only[nN c,bA,aL];rw[b1 ⟨(iy c).1,trivial⟩,j2 c,aaa,aR rfl,f];cases g:ch b with
    |false=>grind
    |true=>simp only[hI,aW];grind[List.length_cons,eo]
 unfold H5 a7;have:=a bD w (mj d) fq;grind[Ja]
theorem A6{b:UInt8}(h:ch b=true):fJ b=false/\b≠10/\b≠92/\b≠39/\b≠34/\b≠96/\b≠36/\b≠35/\o1 b=false:=by
 have M:(48:UInt8)<=b/\b<=(57:UInt8):=by grind[ch]
 rw[DT,DT] at M;have a:(48:UInt8).toNat=48:=rfl;have c:(57:UInt8).toNat=57:=rfl;rw[a,c] at M;have d:b=UInt8.ofNat b.toNat:=by simp
 generalize b.toNat=n at*;subst d;have:n=48\/n=49\/n=50\/n=51\/n=52\/n=53\/n=54\/n=55\/n=56\/n=57:=by omega
 rcases this with rfl|rfl|rfl|rfl|rfl|rfl|rfl|rfl|rfl|rfl<;>decide
theorem aab{b:UInt8}{t:H}(h:ch b=true):c1 (b::t)=false:=by obtain⟨M,U,_,_,_,_,_,_,a⟩:=A6 h;show(fJ b||b==10||bs (b::t)!=[])=false;grind[mU]
theorem amv{b:UInt8}{t:H}(h:ch b=true):gG (b::t)=false:=by simp_all[A6,tb]
theorem aac:∀(r:H),c1 (r.dropWhile ch)=true->dc r=(r.takeWhile ch,true)
 |[],_=>by decide
 |b::t,h=>by
  cases a:ch b with
  |true=>rw[VB a] at h;obtain⟨M,U,c,d,e,f,g,i,j⟩:=A6 a;unfold dc;simp_all[aab,aO,amv,aac,List.takeWhile_cons_of_pos]
  |false=>simp_all[Kn,dc,bc,VG]
theorem Np:∀(r w:H),dc r=(w,true)->c1 (r.drop w.length)=true
 |[],w,h=>by simp[dc] at h;subst h;rfl
 |b::t,w,h=>by
  unfold dc at h;split at h
  ·rename_i a;cases h;exact a
  ·split at h
   ·cases h
   ·split at h
    ·rename_i w' c;cases h;exact Np t w' c
    ·cases h
def vs(r:H):H:=match aq r with
 | .word w true=>if(!decide (w=[])&&w.all ch) then r.drop w.length else r
 |_=>r
theorem amw{r:H}(Y:bo r=some r):(ff (bs (r.dropWhile ch))=true->vs r=r.dropWhile ch)/\ff (bs (vs r))=ff (bs (r.dropWhile ch)):=by
 have f:ff []=false:=by decide
 by_cases g:c1 (r.dropWhile ch)=true
 ·have:vs r=r.dropWhile ch:=by
   cases r with
   |nil=>decide
   |cons b t=>
    cases d:ch b with
    |true=>
     obtain⟨M,U,_,_,_,_,_,_,x⟩:=A6 d;have a:aq (b::t)= .word ((b::t).takeWhile ch) true:=by show(if b=10 then Tok.line else if bs (b::t)≠[] then .op (bs (b::t)) else .word (dc (b::t)).1 (dc (b::t)).2)=_;simp_all[aO,mU,aac]
     unfold vs;rw[a];simp only;have i:¬(b::t).takeWhile ch=[]:=by simp_all
     have j:((b::t).takeWhile ch).all ch=true:=List.all_takeWhile;rw[j];simp only[i,bG,fo,Bool.and_self,cK];have:=OV (p:=ch) (l:=b::t);grind
    |false=>
     rw[Kn (by grind)] at g⊢;unfold vs;cases a:aq (b::t) with
     |word w p=>
      have k:fJ b=false:=by
       cases m:fJ b with
       |false=>rfl
       |true=>rw[FO m] at Y;have:=(ef Y).length_le;grind
      grind[I0]
     |_=>rfl
  grind
 ·have n:c1 (r.dropWhile ch)=false:=by grind
  have o:bs (r.dropWhile ch)=[]:=by
   cases y:r.dropWhile ch with
   |nil=>decide
   |cons c u=>grind[c1,Bool.or_eq_false_iff]
  rw[o,f];refine⟨λh=>absurd h (by decide),?_⟩;have q:vs r=r:=by
   unfold vs;cases a:aq r with
   |word w p=>
    cases p with
    |true=>
     simp only;by_cases s:(!decide (w=[])&&w.all ch)=true
     ·exfalso;simp only[hH] at s;cases r with
      |nil=>grind[aq]
      |cons b t=>
       have aE:dc (b::t)=(w,true):=by have z:(if b=10 then Tok.line else if bs (b::t)≠[] then .op (bs (b::t)) else .word (dc (b::t)).1 (dc (b::t)).2)= .word w true:=a;grind
       obtain⟨v,e⟩:=(Fx _ _ aE).1;have he:=Np _ _ aE;rw[<-e,oN] at he;rw[<-e,List.dropWhile_append_of_pos (by grind)] at n;cases v with
       |nil=>simp_all
       |cons c u=>grind[ch,aab,List.dropWhile_cons_of_neg]
     grind
    |false=>rfl
   |_=>rfl
  rw[q];cases r with
  |nil=>simp_all
  |cons b t=>
   cases d:ch b with
   |true=>simp_all[mU,A6]
   |false=>simp_all
theorem Ty{o:H}(h:ff o=true):1<=o.length:=by
 cases o with
 |nil=>exact absurd h (by decide)
 |cons a b=>simp
theorem Jo{R:bj}{n:Nat}(hA:ug R n){e:cP}(bf:e.ne=30- (n:Int)):qX e (dz (a9 false n)) (λb r F=>(b,e.st r F)) (AD R):=by
 intro r F h;unfold dz;cases Y:bo r with
 |none=>
  have:fL r F=Go.Eng.cf [] r F:=by grind[fL]
  rw[dt (nd:=(cW [] F []).1) (ds:=(cW [] F []).2) this];unfold AD;exact(((lL e).none h Y).bind λ_=> .inr rfl).sm
 |some r'=>
  have g:=ef Y;have f:=h.mono g;have I:=l1 _ _ _ (cF _) Y;obtain⟨i,xV⟩:=amw I;have J:r'.dropWhile ch<:+r':=C1;have K:vs r'<:+r':=by grind[vs,List.drop_suffix]
  have No:=e3 f.sfx;have j:=h.b7;unfold AD a7;refine a2.ei ?_ (fm ((lL e).some h Y));have L:∀(k:Int->Option (bp aj (Bool×aj)))(y:Option (bp aj (Bool×aj))),y=(cZ ((bif(decide ((jH (aq r')).1=3)) then(jH (aq r')).2.2 else false)=true) (H5 (jH (aq r')).2.1) false λ(O:Bool)=>
    (bif(bif(bif(decide ((jH (aq r')).1=3)) then(jH (aq r')).2.2 else false) then O else false) then
    k (W (ax e.S r'+((jH (aq r')).2.1.length:Int)))
    else k (ax e.S r')))->y=k (ax e.S (vs r')):=by
   intro k y P;rw[P];unfold vs;cases Q:aq r' with
   |word w p=>
    cases p with
    |false=>rfl
    |true=>
     have l:=(qQ Q).1;have S:w.length<=1000000:=by grind
     simp only[jH,bA,aL];rw[amu w S,gy,bc trivial];cases az:(!decide (w=[])&&w.all ch) with
     |false=>simp
     |true=>obtain⟨q,rfl⟩:=l;simp only[aL,cK,oN];rw[k9 j f.sfx]
   |_=>rfl
  refine a2.ei ?_ (L (λs=>aw (B9 e.S s) λ(c:H)=>
   (aw (H6 c) λ(T:Bool)=>
   (bif(!T) then
   some (.inr (false,e.st r' F))
   else
   (bif(bif(decide (c=([60,60]:H))) then true else(decide (c=([60,60,45]:H)))) then
   (a_ (y1 (e.S,(W (s+(c.length:Int))),F,e.ne,e.op,e.kz) (decide (c=([60,60,45]:H)))) (λx=>x) λ(t:aj)=>
   some (.inr (true,t)))
   else
   (a_ (me R (e.S,(W (s+(c.length:Int))),F,e.ne,e.op,e.kz)) (λx=>x) λ(V:aj)=>
   some (.inr (true,V))))))) _ rfl)
  refine a2.ei ?_ (aR (Th j (K.trans f.sfx)));refine a2.ei ?_ (aR (amb _));by_cases u:ff (bs (r'.dropWhile ch))=true
  ·have z:fL r F= .ok (some (bs (r'.dropWhile ch))) ((r'.dropWhile ch).drop (bs (r'.dropWhile ch)).length) F:=by simp_all[fL,bc]
   rw[aS z,i u];rw[u];simp only[hI,aW];have d:=J.trans g;have A:=h.mono d;generalize r'.dropWhile ch=q at*;have l:bs q<+:q:=SJ;have M:=Ty u;generalize aN:bs q=o at*;obtain⟨v,rfl⟩:=l;rw[oN];have D:v<:+o++v:=fO o v;have B:=A.mono D;have X:W (ax e.S (o++v)+(o.length:Int))=ax e.S v:=k9 j A.sfx;simp only[X]
   have C:∀(m:ae Unit)(y:Option (bp aj aj)),a2 e v (m v F) (λ_=>e.st) y->a2 e r (N m (λ_=>a1 true) v F) (λb r F=>(b,e.st r F)) (a_ y (λx=>x) λt=>some (.inr (true,t))):=by intro m y hm;exact a2.iZ c_.id (hm.mono (D.trans d)) (λ_=>rfl) λa ad aH _ Z bn=>⟨Z,bn,rfl⟩
   have E:F.length+v.length<e.S.length:=by have:=A.kf;grind
   by_cases U:o=[60,60]
   ·subst U;simp only[bA,aL,cK,show¬(([60,60]:H)=[60,60,45]) by decide,bG];exact C _ _ (Z8 false B E)
   ·by_cases G:o=[60,60,45]
    ·subst G;simp only[bA,aL,cK,show¬(([60,60,45]:H)=[60,60]) by decide,bG,aW,cA];exact C _ _ (Z8 true B E)
    ·simp only[U,G,bG,aW,cA];exact C _ _ (Tp hA bf _ v F B)
  ·have z:fL r F= .ok none r' F:=by simp_all[fL,aO]
   have xT:ff (bs (vs r'))=false:=by grind
   rw[aS z,xT];exact⟨g,f,rfl⟩
theorem aae{R:bj}{n:Nat}(hA:ug R n){e:cP}(bf:e.ne=30- (n:Int)):qX e (g7 (a9 false n)) (λ_=>e.st) (H_ R):=by
 intro r F h;unfold g7 H_ a7;refine a2.rep (en:=λ_ r F=>e.st r F) (λk s ad a M av=>?_) bD () r F (mj (kB (e3 h.sfx) h.b7)) h;unfold Rt;refine a2.iZ c_.k (Jo hA bf ad a M) (λ_=>rfl) λb c g d U f=>?_;cases b with
 |false=>exact a2.inr U f rfl
 |true=>
  rw[bc rfl];by_cases ay:c.length<ad.length
  ·grind[a2.inl]
  ·exact absurd (s9 (xR false n▸(rF false n).dl) d) ay
theorem mL(fr:Bool)(n:Nat):iw (a9 fr n):=xR fr n▸(rF fr n).dl
theorem a2.tst{α a β b:Type}{C:dp α->dp a}(d:c_ C){e:cP}{r0 r:H}{F:ah}{x:H}{k:Tok->ae α}{f:Tok->β}{gQ:aj->Option (bp aj (β×aj))}{cv:a->H->ah->b}{g:aj->aj}{K:β×aj->Option (bp aj b)}
  (c:o2 e f gQ) (h:eb e r F)
  (av:∀r',bo r=some r'->r'<:+r->eb e r' F->bo r'=some r'->a2 e r0 (C (k (aq r') r' F)) cv (K (f (aq r'),e.st r' F))) (bu:∀st,(g st).2.2.2.2.1=st.2.2.2.2.1\/(g st).2.2.2.2.1=e.op:=by intro _;first|exact .inl rfl|exact .inr rfl):
  a2 e r0 (C (Go.Eng.N (bV x) k r F)) cv (a_ (gQ (e.st r F)) g K):=by
 cases Y:bo r with
 |none=>rw[dt (iY Y),d.more];exact((c.none h Y).bind bu).sm
 |some r'=>rw[aS (cu Y),fm (c.some h Y)];exact av r' Y (ef Y) (h.mono (ef Y)) (l1 _ _ _ (cF _) Y)
theorem TC{b:Tok->Bool}{n:Nat}{r:H}{F:ah}{a:Unit}{r':H}{c:ah}(h:nJ b n r F= .ok a r' c):c=F:=by
 unfold nJ at h;obtain⟨t,ad,d,M,U⟩:=bY h;obtain⟨_,_,rfl⟩:=Jj M;split at U
 ·grind[cf]
 ·split at U
  ·cases U;rfl
  ·cases U
theorem TD{b:Tok->Bool}{n:Nat}{r:H}{F:ah}{op:bx}{nd:H}{ds:ah}(h:nJ b n r F= .more op nd ds):op=[]:=by
 unfold nJ at h;cases Y:bo r with
 |none=>rw[dt (nd:=(cW [] F []).1) (ds:=(cW [] F []).2) (op:=[]) (by rw[iY Y];rfl)] at h;grind
 |some r'=>
  rw[aS (cu Y)] at h;split at h
  ·grind[cf]
  ·split at h<;>cases h
theorem a2.TE{α g i β j:Type}{C:dp g->dp i}(d:c_ C){e:cP}{r0 r:H}{F:ah}{m:ae α}{k:α->ae g}{cv:α->H->ah->β}{cv':i->H->ah->j}{y:Option (bp aj β)}{k':β->Option (bp aj j)}{f:aj->aj}
  (h:a2 e r0 (m r F) cv y) (hm:∀op nd ds,m r F= .more op nd ds->op=[]) (hf:∀st,(f st).2.2.2.2.1=st.2.2.2.2.1\/(f st).2.2.2.2.1=e.op) (av:∀a ad b,m r F= .ok a ad b->ad<:+r0->eb e ad b->a2 e r0 (C (k a ad b)) cv' (k' (cv a ad b))):
  a2 e r0 (C (Go.Eng.N m k r F)) cv' (a_ y f k'):=by
 unfold Go.Eng.N;cases c:m r F with
 |ok a ad b=>rw[c] at h;obtain⟨M,U,rfl⟩:=h;exact av a ad b c M U
 |more op nd ds=>rw[c] at h;obtain⟨st,rfl,U⟩:=h;rw[d.more];have:=hm op nd ds c;subst this;refine⟨f st,rfl,?_⟩;grind
 |bad q=>rw[c] at h;obtain⟨M,st,rfl⟩:=h;rw[d.bad];exact⟨M,f st,rfl⟩
 |deep q=>rw[d.deep];trivial
theorem amy{α:Type}{m:ae α}{x r:H}{F:ah}{op:bx}{nd:H}{ds:ah}(h:m.aM x r F= .more op nd ds):∃a b,m r F= .more op a b:=by unfold ae.aM at h;grind
theorem a2.res{α d f:Type}{C:dp α->dp d}(i:c_ C){e:cP}{r0 r:H}{F:ah}{w x:H}{k:Unit->ae α}{cv:d->H->ah->f}{g:aj->aj}{K:aj->Option (bp aj f)}
  (j:0<w.length) (h:eb e r F) (h0:r<:+r0) (av:∀ad,ad<:+r->eb e ad F->ad.length<r.length->a2 e r0 (C (k () ad F)) cv (K (e.st ad F))) (bu:∀st,(g st).2.2.2.2.1=st.2.2.2.2.1\/(g st).2.2.2.2.1=e.op:=by intro _;first|exact .inl rfl|exact .inr rfl):
  a2 e r0 (C (Go.Eng.N ((cS w).aM x) k r F)) cv (a_ (oy (e.st r F) w) g K):=by
 refine a2.TE i ((a2.aM (x:=x) (Je w h)).mono h0) (λop nd ds b=>by obtain⟨_,_,b⟩:=amy b;exact TD b) bu λa ad l c M U=>?_;have:=TC (h3.1 c);subst this;exact av ad ((ar.res _).sfx (h3.1 c)) U (SN j (h3.1 c))
theorem aaf{α:Type}(m:ae α):m.aM []=m:=by
 funext r F
 unfold ae.aM;cases m r F<;>rfl
theorem a2.Nq{α a b:Type}{C:dp α->dp a}(c:c_ C){e:cP}{r0 r:H}{F:ah}{w:H}{k:Unit->ae α}{cv:a->H->ah->b}{g:aj->aj}{K:aj->Option (bp aj b)}
  (d:0<w.length) (h:eb e r F) (h0:r<:+r0) (av:∀ad,ad<:+r->eb e ad F->ad.length<r.length->a2 e r0 (C (k () ad F)) cv (K (e.st ad F))) (bu:∀st,(g st).2.2.2.2.1=st.2.2.2.2.1\/(g st).2.2.2.2.1=e.op:=by intro _;first|exact .inl rfl|exact .inr rfl):
  a2 e r0 (C (Go.Eng.N (cS w) k r F)) cv (a_ (oy (e.st r F) w) g K):=by
 have:=a2.res (x:=[]) c d h h0 av bu;grind[aaf]
theorem a2.aag{e:cP}{r0 r:H}{F:ah}{w:H}{g:aj->aj}{K:aj->Option (bp aj aj)}(h:eb e r F)(h0:r<:+r0)(d:∀ad,K (e.st ad F)=some (.inr (e.st ad F)))(bu:∀st,(g st).2.2.2.2.1=st.2.2.2.2.1\/(g st).2.2.2.2.1=e.op:=by intro _;first|exact .inl rfl|exact .inr rfl):
  a2 e r0 (cS w r F) (λ_=>e.st) (a_ (oy (e.st r F) w) g K):=by
 have:=a2.TE (C:=λx=>x) (k:=λ_=>a1 ()) (cv':=λ_=>e.st) (f:=g) (k':=K) c_.id ((Je w h).mono h0) (λop nd ds b=>TD b) bu λa ad i c M U=>⟨M,U,by rw[TC c];grind⟩;grind[FT]
theorem a2.amz{e:cP}{r0 r:H}{F:ah}{w:H}{g:aj->aj}{K:aj->Option (bp aj aj)}(h:eb e r F)(h0:r<:+r0)(d:∀ad,K (e.st ad F)=some (.inr (e.st ad F)))(bu:∀st,(g st).2.2.2.2.1=st.2.2.2.2.1\/(g st).2.2.2.2.1=e.op:=by intro _;first|exact .inl rfl|exact .inr rfl):
  a2 e r0 (j1 w r F) (λ_=>e.st) (a_ (tN (e.st r F) w) g K):=by
 have:=a2.TE (C:=λx=>x) (k:=λ_=>a1 ()) (cv':=λ_=>e.st) (f:=g) (k':=K) c_.id ((M8 w h).mono h0) (λop nd ds b=>TD b) bu λa ad i c M U=>⟨M,U,by rw[TC c];grind⟩;grind[FT]
theorem a2.ls{α d f:Type}{C:dp α->dp d}(i:c_ C){R:bj}{n:Nat}(bk:xS R n){e:cP}(bf:e.ne=30- (n:Int)){r0 r:H}{F:ah}{c:Ctx}{no:Bool}{x:H}{k:Nat->ae α}{cv:d->H->ah->f}{g:aj->aj}{K:Int×aj->Option (bp aj f)}
  (h:eb e r F) (h0:r<:+r0) (av:∀a ad b,ad<:+r->eb e ad b->a2 e r0 (C (k a ad b)) cv (K ((a:Int),e.st ad b))) (bu:∀st,(g st).2.2.2.2.1=st.2.2.2.2.1:=by intro _;rfl) (j:c≠ .text:=by simp):
  a2 e r0 (C (Go.Eng.N (((aU false n).ls c no).aM x) k r F)) cv (a_ (R.kX (e.st r F) (Da c) no) g K):=
 a2.iZ i ((a2.aM (x:=x) (bk.im e c no j bf r F h)).mono h0) bu λa ad b l M U=>av a ad b (((rF false n).ls c no).sfx (h3.1 l)) U
theorem a2.lines{α c d:Type}{C:dp α->dp c}(i:c_ C){e:cP}{r0 r:H}{F:ah}{x:H}{k:Bool->ae α}{cv:c->H->ah->d}{g:aj->aj}{K:Bool×aj->Option (bp aj d)}
  (h:eb e r F) (h0:r<:+r0) (av:∀a ad b,c2 r F= .ok a ad b->ad<:+r->eb e ad b->a2 e r0 (C (k a ad b)) cv (K (a,e.st ad b))) (bu:∀st,(g st).2.2.2.2.1=st.2.2.2.2.1:=by intro _;rfl):
  a2 e r0 (C (Go.Eng.N (c2.aM x) k r F)) cv (a_ (ma (e.st r F)) g K):=
 a2.iZ i ((a2.aM (x:=x) (ZP h)).mono h0) bu λa ad b f M U=>av a ad b (h3.1 f) (ar.lines.sfx (h3.1 f)) U
theorem a2.A7{α c d:Type}{C:dp α->dp c}(f:c_ C){e:cP}{r0 r:H}{F:ah}{k:Bool->ae α}{cv:c->H->ah->d}{g:aj->aj}{K:Bool×aj->Option (bp aj d)}
  (h:eb e r F) (h0:r<:+r0) (av:∀a ad b,c2 r F= .ok a ad b->ad<:+r->eb e ad b->a2 e r0 (C (k a ad b)) cv (K (a,e.st ad b))) (bu:∀st,(g st).2.2.2.2.1=st.2.2.2.2.1:=by intro _;rfl):
  a2 e r0 (C (Go.Eng.N c2 k r F)) cv (a_ (ma (e.st r F)) g K):=by
 have:=a2.lines (x:=[]) f h h0 av bu;grind[aaf]
theorem Nr{R:bj}{n:Nat}(hA:ug R n){e:cP}(bf:e.ne=30- (n:Int)):qX e (g8 false (a9 false n)) (λ_=>e.st) (Ct R):=by
 intro r F h;unfold g8 Ct;refine a2.rep (en:=λ_ r F=>e.st r F) (λk s ad m M av=>?_) bD () r F (mj (kB (e3 h.sfx) h.b7)) h;unfold Rv a7;refine a2.iZ c_.k (Jo hA bf ad m M) (λ_=>rfl) λb q j u U l=>?_;cases b with
 |true=>have ay:=s9 (mL false n) u;rw[bc rfl];exact a2.inl ay (av () q j U l ay)
 |false=>
  rw[aO (by simp)];dsimp only[cond_false];refine a2.tst c_.k (lL e) l λa Y d f g=>?_;by_cases c:∃w p,aq a= .word w p
  ·obtain⟨w,p,c⟩:=c;rw[c];refine a2.iZ c_.k ((Nh hA bf f g c).mono (d.trans U)) (λ_=>rfl) λ_ B C v D E=>?_;have i:a≠[]:=by rintro rfl;grind[aq]
   have x:c1 a=false:=by
    cases a with
    |nil=>grind
    |cons b t=>
     refine I0 ⟨w,p,c⟩ ?_;cases z:fJ b with
     |false=>rfl
     |true=>rw[FO z] at g;have:=(ef g).length_le;grind
   have ay:=wy (mL false n) i x v;grind[a2.inl]
  ·have A:decide ((jH (aq a)).1=3)=false:=by grind[decide_eq_false_iff_not,Ng]
   refine a2.ei (y:=some (.inr (e.st a j))) ?_ (by simp only[A,fo,aL];rfl);cases G:aq a with
   |word w p=>grind
   |op o=>simp only[eQ,false_and,cA];exact a2.inr (d.trans U) f rfl
   |_=>exact a2.inr (d.trans U) f rfl
theorem FW(a b:UInt8):((a.toNat:Int)<=(b.toNat:Int))↔a<=b:=by simp[DT]
theorem TF(b:UInt8):((97:Int)<=(b.toNat:Int))↔97<=b:=FW 97 b
theorem TG(b:UInt8):((b.toNat:Int)<=122)↔b<=122:=FW b 122
theorem aah(b:UInt8):((65:Int)<=(b.toNat:Int))↔65<=b:=FW 65 b
theorem aai(b:UInt8):((b.toNat:Int)<=90)↔b<=90:=FW b 90
theorem TH(b:UInt8):((48:Int)<=(b.toNat:Int))↔48<=b:=FW 48 b
theorem TI(b:UInt8):((b.toNat:Int)<=57)↔b<=57:=FW b 57
theorem aaj(b:UInt8):((b.toNat:Int)=95)↔b=95:=rN (c:=95)
theorem amB(b:UInt8):LN (b.toNat:Int)=some (decide (97<=b)&&decide (b<=122)):=by simp[LN,Cm,aw,TF,TG]
theorem amC(b:UInt8):LO (b.toNat:Int)=some (decide (65<=b)&&decide (b<=90)):=by simp[LO,Cm,aw,aah,aai]
def FX(first:Bool)(b:UInt8):Bool:=zk b||(!first&&ch b)
theorem Ns{w:H}(d:w.length<=1000000){j:Unit->Option Bool}{k:Int->Option Bool}{b:UInt8}{t:H}(a:b::t<:+w):
  Cn w j k (ax w (b::t))=(bif FX (decide (b::t=w)) b then k (ax w t) else some false)/\CD w j k (ax w (b::t))=(bif FX (decide (b::t=w)) b then k (ax w t) else some false):=by
 have h0:decide (ax w (b::t)=0)=decide (b::t=w):=by
  by_cases h:b::t=w
  ·grind[Ja]
  ·have:ax w (b::t)≠0:=by intro U;refine h (a.eq_of_length ?_);grind[ax]
   grind
 have c:=jj d a;constructor
 ·unfold Cn;simp only[nN a,bA,aL];rw[b1 ⟨(iy a).1,trivial⟩];simp only[j2 a,amB,amC,aaa,gy,h0,c,aaj];rw[aR rfl];unfold FX zk;grind
 ·unfold CD;have bu:=iy a;have e:0<=ax w (b::t)/\ax w (b::t)<(w.length:Int):=bu;simp only[nN a,bA,aL,bu.1,oc,implies_true];simp only[a4,cK,j2 a,h0,c,aaj,TF,TG,aah,aai,TH,TI];unfold FX zk ch;grind
theorem amD{w:H}(d:w.length<=1000000){j:Unit->Option Bool}(i:j ()=some (!decide (w=[]))):∀(n:Nat)(r:H),r.length<n->r<:+w->r≠w->fixF (Cn w j) n (ax w r)=some (r.all λc=>zk c||ch c)/\fixF (CD w j) n (ax w r)=some (r.all λc=>zk c||ch c):=by
 intro n;induction n with
 |zero=>omega
 |succ n e=>
  intro r au a bf;rw[fl,fl];cases r with
  |nil=>grind[Cn,iO,CD]
  |cons b t=>
   have f:t≠w:=by grind
   obtain⟨g,h⟩:=e t (by grind) (eo a) f;rw[(Ns d a).1,(Ns d a).2,g,h];grind[decide,FX,zk,ch]
theorem zy(w:H)(a:w.length<=1000000):Co w=some (my w)/\CE w=some (my w):=by
 have e:=Ja w
 have d:∀j:Unit->Option Bool,j ()=some (!decide (w=[]))->fixF (Cn w j) bD 0=some (my w)/\fixF (CD w j) bD 0=some (my w):=by
  intro j f
  obtain⟨n,au⟩:∃n,bD=n+1:=⟨bD-1,by rw[gD]⟩
  rw[au,fl,fl];cases w with
  |nil=>grind[Cn,my,CD]
  |cons b t=>
   have bf:t≠b::t:=by simp
   have c:t.length<n:=by grind[mj,List.length_cons,gD]
   obtain⟨g,h⟩:=amD a f n t c (dL b t) bf;rw[<-e,(Ns a fq).1,(Ns a fq).2,g,h];grind[FX,my,zk]
 constructor
 ·unfold Co a7;exact(d (λ_=>some (!(decide (w=[])))) rfl).1
 ·unfold CE a7;refine(d (λ_=>some (decide (0<(w.length:Int)))) ?_).2;cases w<;>simp
section
variable{R:bj}{n:Nat}(bk:xS R n){e:cP}(bf:e.ne=30- (n:Int))
include bk bf
theorem TJ(x:H):qX e (ji (aU false n) x) (λ_=>e.st) (uY R):=by intro r F h;unfold ji uY;refine a2.res (C:=λx=>x) c_.id (by decide) h fq λad s1 b _=>?_;refine a2.ls (c:= .done) (C:=λx=>x) c_.id bk bf b s1 λa f g s2 d=>?_;exact a2.aag d (s2.trans s1) λi=>rfl
theorem amF:qX e (rC (aU false n)) (λ_=>e.st) (EN R):=by
 intro r F h;unfold rC EN a7;refine a2.rep (en:=λ_ r F=>e.st r F) (λk s ad S M av=>?_) bD () r F (mj (kB (e3 h.sfx) h.b7)) h;unfold Rc;refine a2.ls (c:= .sg) c_.k bk bf M fq λa T U s2 G=>?_;refine a2.Nq c_.k (by decide) G s2 λV C I W=>?_;refine a2.ls (c:= .qL) c_.k bk bf I (C.trans s2) λa X D J K=>?_;dsimp only;refine a2.tst c_.k (rO e _) K λd L O j P=>?_;have i:=O.trans (J.trans (C.trans s2));dsimp only;by_cases he:cG (aq d) iv=true
 ·rw[bc he];have t:cG (aq d) [101,108,105,102]=true:=he;rw[t];simp only[aW,hI];refine a2.Nq c_.k (by decide) j i λu l v w=>?_;have ay:u.length<ad.length:=by grind
  exact a2.inl ay (av () u D (l.trans i) v ay)
 ·rw[aO he];have t:cG (aq d) [101,108,105,102]=false:=GR.2 he;rw[t];simp only[aL,fo];have E:∀(f:Unit->ae (Unit⊕Unit))(g:H)(b:ah),g<:+ad->eb e g b->a2 e ad (cR f ad (N (cS eh) (λ_=>a1 (.inr ())) g b)) (λ_=>e.st)
    (a_ (oy (e.st g b) [102,105]) (λx=>(x.1,x.2.1,b,x.2.2.2.1,e.op,x.2.2.2.2.2)) λm=>some (.inr (m.1,m.2.1,b,m.2.2.2.1,e.op,m.2.2.2.2.2))):=by
   intro f g b o y;refine a2.Nq c_.k (by decide) y o λY z A Q=>?_;exact a2.inr (z.trans o) A rfl
  have p:=(rO e [101,108,115,101]).some j P;by_cases q:cG (aq d) gf=true
  ·rw[bc q];have B:cG (aq d) [101,108,115,101]=true:=q;rw[B] at p;refine a2.ei ?_ (fm p);dsimp only[cond_true];refine a2.Nq c_.k (by decide) j i λu l v w=>?_;refine a2.ls (c:= .kE) c_.k bk bf v (l.trans i) λa g b o y=>?_;exact E _ g b (o.trans (l.trans i)) y
  ·rw[aO q];have B:cG (aq d) [101,108,115,101]=false:=GR.2 q;rw[B] at p;refine a2.ei ?_ (fm p);dsimp only[cond_false];exact E _ d D i j
end
theorem zz{r:H}(Y:bo r=some r){w:H}{p:Bool}(a:aq r= .word w p):r≠[]/\c1 r=false:=by
 cases r with
 |nil=>grind[aq]
 |cons b t=>
  refine⟨by simp,I0 ⟨w,p,a⟩ ?_⟩;cases c:fJ b with
  |false=>rfl
  |true=>rw[FO c] at Y;have:=(ef Y).length_le;grind
theorem amJ{α i j:Type}{C:dp α->dp i}(f:c_ C){e:cP}{r0 r:H}{F:ah}{x:H}{k:ae α}{cv:i->H->ah->j}{g:aj->aj}{K:aj->Option (bp aj j)}(h:eb e r F)
  (av:∀ad,ad<:+r->eb e ad F->a2 e r0 (C (k ad F)) cv (K (e.st ad F))) (bu:∀st,(g st).2.2.2.2.1=st.2.2.2.2.1\/(g st).2.2.2.2.1=e.op:=by intro _;first|exact .inl rfl|exact .inr rfl):
  a2 e r0 (C (Go.Eng.N (bV x) (λt=>match t with
   | .eof=>cf x
   | .word w true=>if my w then Go.Eng.N (b6 w.length) λ_=>k else bP
   |_=>bP) r F)) cv (a_ (tP (e.st r F)) g K):=by
 cases Y:bo r with
 |none=>rw[dt (iY Y),f.more];unfold tP;exact((((lL e).none h Y).bind λ_=> .inl rfl).bind bu).sm
 |some r'=>
  rw[aS (cu Y)];have l:=ef Y;have b:=h.mono l;have n:=l1 _ _ _ (cF _) Y;have hm:=(lL e).some h Y
  have c:∀(m:ae α),(aq r'= .eof->m=cf x)->(aq r'≠ .eof->m=bP)->tP (e.st r F)=a_ (lC (e.st r' F)) (λx=>x) (λy=>Empty.elim y)->a2 e r0 (C (m r' F)) cv (a_ (tP (e.st r F)) g K):=by
   intro m M U u;rw[u];by_cases a:aq r'= .eof
   ·rw[M a];unfold cf;rw[f.more];exact((((ud b n).1 a).bind λ_=> .inl rfl).bind bu).sm
   ·rw[U a];unfold bP;rw[f.bad];exact⟨b.sfx,_,ib (ib ((ud b n).2 a))⟩
  cases a:aq r' with
  |word w p=>
   cases p with
   |true=>
    have s:w.length<=1000000:=by have:=(qQ a).1.length_le;have:=e3 b.sfx;have:=h.b7;omega
    have v:=(qQ a).1;by_cases au:my w=true
    ·simp only;rw[bc au];have z:tP (e.st r F)=some (.inr (e.st (r'.drop w.length) F)):=by unfold tP a7;refine(fm hm).trans ?_;rw[a];simp only[jH,bA,hI,aW];rw[(zy w s).1,gy,bc trivial,au];show some (Sum.inr (e.S,W (ax e.S r'+(w.length:Int)),F,e.ne,e.op,e.kz))=_;obtain⟨q,rfl⟩:=v;rw[oN,k9 h.b7 b.sfx];rfl
     rw[z,fm rfl];exact av _ ((lO _ _).trans l) (b.mono (lO _ _))
    ·simp only;rw[aO au];refine c bP (λd=>by grind) (λ_=>rfl) ?_;unfold tP a7;refine(fm hm).trans ?_;rw[a];simp only[jH,bA,hI,aW];have A:my w=false:=by grind
     rw[(zy w s).1,gy,bc trivial,A];rfl
   |false=>refine c bP (λd=>by grind) (λ_=>rfl) ?_;unfold tP a7;refine(fm hm).trans ?_;rw[a];rfl
  |eof=>refine c (cf x) (λ_=>rfl) (λd=>absurd a d) ?_;unfold tP a7;refine(fm hm).trans ?_;rw[a];rfl
  |line=>refine c bP (λd=>by grind) (λ_=>rfl) ?_;unfold tP a7;refine(fm hm).trans ?_;rw[a];rfl
  |op o=>refine c bP (λd=>by grind) (λ_=>rfl) ?_;unfold tP a7;refine(fm hm).trans ?_;rw[a];rfl
noncomputable def Dg:aj->Option (bp aj aj):=λy=>a_ (ow y [59]) (λx=>(x.1,x.2.1,y.2.2.1,x.2.2.2.1,y.2.2.2.2.1,x.2.2.2.2.2)) λz=>bif z.1 then some (.inr (z.2.1,W (z.2.2.1+1),y.2.2.1,z.2.2.2.2.1,y.2.2.2.2.1,z.2.2.2.2.2.2)) else
 a_ (mG (z.2.1,z.2.2.1,y.2.2.1,z.2.2.2.2.1,y.2.2.2.2.1,z.2.2.2.2.2.2)) (λx=>(x.1,x.2.1,y.2.2.1,x.2.2.2.1,y.2.2.2.2.1,x.2.2.2.2.2)) λu=>bif !(decide (u.1.1=1)) then a_ (lC (u.2.1,u.2.2.1,y.2.2.1,u.2.2.2.2.1,y.2.2.2.2.1,u.2.2.2.2.2.2)) (λx=>(x.1,x.2.1,y.2.2.1,x.2.2.2.1,y.2.2.2.2.1,x.2.2.2.2.2)) (λy=>Empty.elim y)
  else some (.inr (u.2.1,u.2.2.1,y.2.2.1,u.2.2.2.2.1,y.2.2.2.2.1,u.2.2.2.2.2.2))
section
variable{R:bj}{n:Nat}(hA:ug R n){e:cP}(bf:e.ne=30- (n:Int))
include hA bf
theorem amK:
  ∀(r:H)(F:ah),eb e r F->a2 e r (qa (a9 false n) r F) (λ_=>e.st) (fixF (wh R Dg) bD (e.st r F)):=by
 intro r F h;unfold qa;refine a2.rep (en:=λ_ r F=>e.st r F) (λk s ad c M av=>?_) bD () r F (mj (kB (e3 h.sfx) h.b7)) h;unfold wh Dg;refine a2.tst c_.k (lL e) M λa Y s2 b g=>?_;dsimp only;by_cases i:∃w p,aq a= .word w p
 ·obtain⟨w,p,i⟩:=i;rw[i];simp only[jH,bA,aL];refine a2.iZ c_.k ((Nh hA bf b g i).mono s2) (λ_=>rfl) λ_ B K C L O=>?_;obtain⟨D,E⟩:=zz g i;have ay:B.length<ad.length:=by have:=wy (mL false n) D E C;grind
  grind[a2.inl]
 ·have G:decide ((jH (aq a)).1=3)=false:=by grind[decide_eq_false_iff_not,Ng]
  simp only[G,aW];refine a2.ei ?_ (fm ((sn e [59]).some b g));dsimp only;have aE:=(lL e).some b g;have l:∀(m:ae (Unit⊕Unit))(f:Unit->ae (Unit⊕Unit)),aq a≠ .line->aq a≠ .op [59]->(aq a= .eof->m=cf [])->(aq a≠ .eof->m=bP)->a2 e ad (cR f ad (m a c)) (λ_=>e.st)
    (a_ (mG (e.st a c)) (λx=>(x.1,x.2.1,c,x.2.2.2.1,e.op,x.2.2.2.2.2)) λu=>bif !(decide (u.1.1=1)) then a_ (lC (u.2.1,u.2.2.1,c,u.2.2.2.2.1,e.op,u.2.2.2.2.2.2)) (λx=>(x.1,x.2.1,c,x.2.2.2.1,e.op,x.2.2.2.2.2)) (λy=>Empty.elim y) else some (.inr (u.2.1,u.2.2.1,c,u.2.2.2.2.1,e.op,u.2.2.2.2.2.2))):=by
   intro m f P Q I J;refine a2.ei ?_ (fm aE);have:decide ((jH (aq a)).1=1)=false:=by
    rw[GW];cases d:aq a with
    |line=>grind
    |_=>simp[jH]
   simp only[this,fo,aL];by_cases d:aq a= .eof
   ·rw[I d];exact(((ud b g).1 d).bind λ_=> .inr rfl).sm
   ·rw[J d];exact⟨b.sfx,_,ib ((ud b g).2 d)⟩
  cases d:aq a with
  |word w p=>grind
  |eof=>
   have:=l (cf []) (λ_=>N (bV []) λt=>match t with
    | .eof=>cf []
    | .word _ _=>N (cX (a9 false n)) λ_=>a1 (.inl ())
    | .line=>a1 (.inr ())
    | .op o=>if o=[59] then N (b6 1) λ_=>a1 (.inr ()) else bP) (by grind) (by grind) (λ_=>rfl) (λv=>absurd d v)
   exact this
  |line=>
   refine a2.ei (y:=some (.inr (e.st a c))) ?_ ?_
   ·exact a2.inr s2 b rfl
   ·have j:((Tok.line==Tok.op [59]):Bool)=false:=by simp
    rw[j];simp only[aW];refine(fm aE).trans ?_;rw[d];rfl
  |op o=>
   by_cases z:o=[59]
   ·subst z;simp only[beq_self_eq_true,aL,cK];obtain⟨q,rfl⟩:=(h4 d).2.1;have A:q<:+[59]++q:=fO [59] q;refine a2.ei (y:=some (.inr (e.st q c))) ?_ ?_
    ·exact a2.inr (A.trans s2) (b.mono A) rfl
    ·show some (Sum.inr (e.S,W (ax e.S ([59]++q)+1),c,e.ne,e.op,e.kz))=_;have:=k9 (w:=[59]) (t:=q) b.b7 b.sfx;rw[show(([59]:H).length:Int)=1 from rfl] at this;rw[this];rfl
   ·have j:((Tok.op o==Tok.op [59]):Bool)=false:=by grind
    rw[j];simp only[aW,aO z];exact l bP _ (by grind) (by grind) (λv=>by grind) (λ_=>rfl)
end
theorem o3{σ τ α β b:Type}{m:Option (bp σ α)}{f:σ->τ}{k:α->Option (bp τ β)}{K:β->Option (bp τ b)}:a_ (a_ m f k) (λx=>x) K=a_ m f (λa=>a_ (k a) (λx=>x) K):=by unfold a_;grind
theorem aal{R:bj}{nj:aj->Option (bp aj aj)}{K:aj->Option (bp aj aj)}:∀(n:Nat)(x:aj),fixF (wh R λy=>a_ (nj y) (λx=>x) K) n x=a_ (fixF (wh R nj) n x) (λx=>x) K
 |0,x=>rfl
 |n+1,x=>by
  rw[fl,fl];have a:=aal (R:=R) (nj:=nj) (K:=K) n;generalize fixF (wh R λy=>a_ (nj y) (λx=>x) K) n=b at a;generalize fixF (wh R nj) n=c at a;unfold wh;dsimp only;rw[o3];congr 1
  funext y
  cases decide (y.1.1=3) with
  |true=>simp_all[aL,o3]
  |false=>rfl
theorem a2.aam{α β b:Type}{m:ae α}{x:H}{k:α->ae β}{e:cP}{r0 r:H}{F:ah}{cv:β->H->ah->b}{y:Option (bp aj b)}(h:a2 e r0 (Go.Eng.N m k r F) cv y):a2 e r0 (Go.Eng.N (m.aM x) k r F) cv y:=by
 unfold Go.Eng.N ae.aM at*;cases hm:m r F with
 |ok a ad c=>grind
 |more op nd ds=>rw[hm] at h;exact h
 |bad q=>grind
 |deep q=>trivial
theorem amL(K:aj->Option (bp aj aj))(y:aj):a_ (Dg y) (λx=>x) K=a_ (ow y [59]) (λx=>(x.1,x.2.1,y.2.2.1,x.2.2.2.1,y.2.2.2.2.1,x.2.2.2.2.2)) λz=>bif z.1 then K (z.2.1,W (z.2.2.1+1),y.2.2.1,z.2.2.2.2.1,y.2.2.2.2.1,z.2.2.2.2.2.2) else
   a_ (mG (z.2.1,z.2.2.1,y.2.2.1,z.2.2.2.2.1,y.2.2.2.2.1,z.2.2.2.2.2.2)) (λx=>(x.1,x.2.1,y.2.2.1,x.2.2.2.1,y.2.2.2.2.1,x.2.2.2.2.2)) λu=>bif !(decide (u.1.1=1)) then a_ (lC (u.2.1,u.2.2.1,y.2.2.1,u.2.2.2.2.1,y.2.2.2.2.1,u.2.2.2.2.2.2)) (λx=>(x.1,x.2.1,y.2.2.1,x.2.2.2.1,y.2.2.2.2.1,x.2.2.2.2.2)) (λy=>Empty.elim y)
    else K (u.2.1,u.2.2.1,y.2.2.1,u.2.2.2.2.1,y.2.2.2.2.1,u.2.2.2.2.2.2):=by
 unfold Dg;rw[o3];congr 1
 funext z
 cases z.1 with
 |true=>rfl
 |false=>
  simp only[aW];rw[o3];congr 1
  funext u
  cases decide (u.1.1=1) with
  |true=>rfl
  |false=>simp only[fo,aL];grind[o3,Empty.elim]
theorem amM{R:bj}{n:Nat}(hA:ug R n)(bk:xS R n){e:cP}(bf:e.ne=30- (n:Int)):qX e (qb (aU false n) (a9 false n)) (λ_=>e.st) (EL R):=by
 intro r F h;unfold EL;refine amJ (C:=λx=>x) c_.id h λad s1 E=>?_;refine a2.aam ?_;rw[k6];refine a2.tst (C:=λx=>x) c_.id (sn e [59]) E λk V s2 g X=>?_;dsimp only;rw[zo];by_cases l:aq k= .op [59]
 ·rw[bc l];have m:((aq k==Tok.op [59]):Bool)=true:=by grind
  rw[m];simp only[aL];obtain⟨q,rfl⟩:=(h4 l).2.1;have o:q<:+[59]++q:=fO [59] q;have G:W (ax e.S ([59]++q)+1)=ax e.S q:=k9 (w:=[59]) g.b7 g.sfx;rw[k6];show a2 e r (N (N c2 λ_=>a1 ()) (λ_=>ji (aU false n) eB) q F) _ (a_ (ma (e.S,W (ax e.S ([59]++q)+1),F,e.ne,e.op,e.kz)) _ _);rw[G,k6];refine a2.A7 (C:=λx=>x) c_.id (g.mono o) (o.trans (s2.trans s1)) λb p c _ s t=>?_;dsimp only;refine a2.ei ((TJ bk bf _ p c t).mono (s.trans (o.trans (s2.trans s1)))) ?_;generalize uY R (e.st p c)=y;unfold a_;grind
 ·rw[aO l];have m:((aq k==Tok.op [59]):Bool)=false:=by grind
  rw[m];simp only[aW];rw[k6];refine a2.A7 (C:=λx=>x) c_.id g (s2.trans s1) λb p c _ s t=>?_;dsimp only;unfold a7
  have A:∀a d,a<:+r->eb e a d->a2 e r (ji (aU false n) eB a d) (λ_=>e.st) (a_ (uY R (e.st a d)) (λx=>x) λy=>some (.inr y)):=by intro a d i f;refine a2.ei ((TJ bk bf _ a d f).mono i) ?_;generalize uY R (e.st a d)=y;unfold a_;grind
  have B:=s.trans (s2.trans s1);rw[k6];refine a2.tst (C:=λx=>x) c_.id (rO e _) t λa Y i f H=>?_;dsimp only;rw[zo];by_cases j:cG (aq a) fK=true
  ·rw[bc j];have u:cG (aq a) [105,110]=true:=j;rw[u];simp only[aL];have v:aq a= .word [105,110] true:=by grind[cG]
   have I:oy (e.st a c) [105,110]=some (.inr (e.st (a.drop 2) c)):=by
    have:=Je [105,110] f;have J:cS [105,110] a c= .ok () (a.drop 2) c:=by unfold cS nJ;rw[aS (cu H),v];rfl
    rw[J] at this;exact this.2.2
   refine a2.ei ?_ (fm I);have aD:a.drop 2<:+a:=lO _ _;rw[k6];show a2 e r (N (N (qa (a9 false n)) λ_=>N c2 λ_=>a1 ()) (λ_=>ji (aU false n) eB) (a.drop 2) c) _ _;rw[k6]
   have L:∀(nj K:aj->Option (bp aj aj))(x:aj),(∀y,nj y=a_ (Dg y) (λx=>x) K)->fixF (wh R nj) bD x=a_ (fixF (wh R Dg) bD x) (λx=>x) K:=by intro nj K x M;have:nj=λy=>a_ (Dg y) (λx=>x) K:=funext M;grind[aal]
   refine a2.ei ?_ (L _ (λz=>a_ (ma z) (λx=>x) λy=>a_ (uY R y.2) (λx=>x) λy=>some (.inr y)) _ (λy=>(amL (λz=>a_ (ma z) (λx=>x) λy=>a_ (uY R y.2) (λx=>x) λy=>some (.inr y)) y).symm));have O:=aD.trans (i.trans B);refine a2.iZ (C:=λx=>x) c_.id ((amK hA bf (a.drop 2) c (f.mono aD)).mono O) (λ_=>rfl) λ_ Z lK _ D P=>?_;rw[k6];refine a2.A7 (C:=λx=>x) c_.id P D λb Q S _ T U=>?_;exact A Q S (T.trans D) U
  ·rw[aO j];have u:cG (aq a) [105,110]=false:=GR.2 j;rw[u];simp only[aW];exact A a c (i.trans B) f
theorem aan{nj K:aj->Option (bp aj aj)}{L:(aj->Option (bp aj aj))->(aj->Option (bp aj aj))->aj->Option (bp aj aj)}
  (bk:∀(a b:aj->Option (bp aj aj)),(∀x,a x=a_ (b x) (λx=>x) K)->∀x,L (λy=>a_ (nj y) (λx=>x) K) a x=a_ (L nj b x) (λx=>x) K):
  ∀(n:Nat)(x:aj),fixF (L λy=>a_ (nj y) (λx=>x) K) n x=a_ (fixF (L nj) n x) (λx=>x) K
 |0,x=>rfl
 |n+1,x=>by rw[fl,fl];exact bk _ _ (aan bk n) x
noncomputable def zA:aj->Option (bp aj aj):=λy=>a_ (tN y [41]) (λx=>(x.1,x.2.1,y.2.2.1,x.2.2.2.1,y.2.2.2.2.1,x.2.2.2.2.2)) λz=>some (.inr (z.1,z.2.1,y.2.2.1,z.2.2.2.1,y.2.2.2.2.1,z.2.2.2.2.2))
section
variable{R:bj}{n:Nat}(hA:ug R n){e:cP}(bf:e.ne=30- (n:Int))
include hA bf
theorem amO{α s u:Type}{C:dp α->dp s}(d:c_ C){r0 r:H}{F:ah}{x y:H}{k:Unit->ae α}{cv:s->H->ah->u}{K:aj->Option (bp aj u)}(h:eb e r F)(h0:r<:+r0)
  (av:∀ad i,ad<:+r->ad.length<r.length->eb e ad i->a2 e r0 (C (k () ad i)) cv (K (e.st ad i))):
  a2 e r0 (C (Go.Eng.N (bV x) (λt=>match t with
   | .eof=>cf x
   | .word _ _=>Go.Eng.N ((cX (a9 false n)).aM y) k
   |_=>bP) r F)) cv (a_ (me R (e.st r F)) (λx=>x) K):=by
 have b:=(Tp hA bf x r F h).mono h0;unfold ke at b;unfold Go.Eng.N at b⊢;cases aE:bV x r F with
 |ok t ad i=>
  rw[aE] at b;simp only at b⊢;obtain⟨m,rfl,rfl⟩:=Jj aE;have v:=l1 _ _ _ (cF _) m;cases j:aq ad with
  |word w p=>
   rw[j] at b;simp only at b⊢;unfold ae.aM;cases l:cX (a9 false n) ad i with
   |ok a z A=>rw[l] at b;obtain⟨c,f,B⟩:=b;rw[fm B];obtain⟨D,E⟩:=zz v j;have G:=wy (mL false n) D E l;have I:=(ef m).length_le;exact av z A (((ar.word (mL false n)).sfx l).trans (ef m)) (by omega) f
   |more op nd ds=>rw[l] at b;obtain⟨st,c,f⟩:=b;simp only;rw[d.more];exact⟨st,ib c,f⟩
   |bad q=>rw[l] at b;obtain⟨g,st,c⟩:=b;simp only;rw[d.bad];exact⟨g,st,ib c⟩
   |deep q=>simp only;rw[d.deep];trivial
  |eof=>rw[j] at b;unfold cf at b⊢;simp only at b⊢;obtain⟨st,c,f⟩:=b;rw[d.more];exact⟨st,ib c,f⟩
  |line=>rw[j] at b;unfold bP at b⊢;obtain⟨g,st,c⟩:=b;simp only;rw[d.bad];exact⟨g,st,ib c⟩
  |op o=>rw[j] at b;unfold bP at b⊢;obtain⟨g,st,c⟩:=b;simp only;rw[d.bad];exact⟨g,st,ib c⟩
 |more op nd ds=>rw[aE] at b;obtain⟨st,c,f⟩:=b;simp only;rw[d.more];exact⟨st,ib c,f⟩
 |bad q=>rw[aE] at b;obtain⟨g,st,c⟩:=b;simp only;rw[d.bad];exact⟨g,st,ib c⟩
 |deep q=>simp only;rw[d.deep];trivial
theorem amP:qX e (lJ (a9 false n)) (λ_=>e.st) (λx=>a_ (me R x) (λx=>x) λy=>fixF (wg R zA) bD y):=by
 have j:∀(bw:Nat)(r:H)(F:ah),r.length<bw->eb e r F->a2 e r (lJ (a9 false n) r F) (λ_=>e.st) (a_ (me R (e.st r F)) (λx=>x) λy=>fixF (wg R zA) bw y):=by
  intro bw;induction bw with
  |zero=>omega
  |succ bw A=>
   intro r F Q h;unfold lJ;rw[cz];refine amO hA bf c_.k h fq λad b s1 S D=>?_;rw[fl];generalize av:fixF (wg R zA) bw=k at A;unfold wg zA;refine a2.tst c_.k (sn e [124]) D λa T s2 g B=>?_;dsimp only;have l:=s2.trans s1;have s:∀(m:ae (Unit⊕Unit))(f:Unit->ae (Unit⊕Unit))(c:Bool),aq a≠ .op [41]->c=false->(aq a= .eof->m=cf [41])->(aq a≠ .eof->m=bP)->a2 e r (cR f r (m a b)) (λ_=>e.st)
     (bif c then a_ (me R (e.S,W (ax e.S a+1),b,e.ne,e.op,e.kz)) (λx=>x) (λy=>k y) else a_ (tN (e.st a b) [41]) (λx=>(x.1,x.2.1,b,x.2.2.2.1,e.op,x.2.2.2.2.2)) λz=>some (.inr (z.1,z.2.1,b,z.2.2.2.1,e.op,z.2.2.2.2.2))):=by
    intro m f c E G I J;subst G;simp only[aW];have i:=M8 [41] g;have bf:∀q,aq a=q->q≠ .op [41]:=λq t=>t▸E
    unfold j1 nJ at i;rw[aS (cu B)] at i;by_cases d:aq a= .eof
    ·rw[I d];rw[bc d] at i;obtain⟨st,v,V⟩:=i;exact⟨_,ib v,by simp⟩
    ·rw[J d];rw[aO d,aO (by grind)] at i;obtain⟨K,st,v⟩:=i;exact⟨K,_,ib v⟩
   cases d:aq a with
   |word w p=>exact s bP _ _ (by grind) (by simp) (λu=>by grind) (λ_=>rfl)
   |eof=>exact s (cf [41]) _ _ (by grind) (by simp) (λ_=>rfl) (λu=>absurd d u)
   |line=>exact s bP _ _ (by grind) (by simp) (λu=>by grind) (λ_=>rfl)
   |op o=>
    by_cases M:o=[124]
    ·subst M;simp only[beq_self_eq_true,aL,cK];obtain⟨q,rfl⟩:=(h4 d).2.1;have t:q<:+[124]++q:=fO [124] q;have L:W (ax e.S ([124]++q)+1)=ax e.S q:=k9 (w:=[124]) g.b7 g.sfx;have ay:q.length<r.length:=by grind
     have bh:=A q b (by omega) (g.mono t);show a2 e r (cR _ r (N (b6 1) (λ_=>a1 (.inl ())) ([124]++q) b)) _ (a_ (me R (e.S,W (ax e.S ([124]++q)+1),b,e.ne,e.op,e.kz)) _ _);rw[L];exact a2.inl ay (bh.mono (t.trans l))
    ·by_cases U:o=[41]
     ·subst U;have O:((Tok.op [41]==Tok.op [124]):Bool)=false:=by simp
      rw[O];simp only[aW,cK,show¬(([41]:H)=[124]) by decide,cA];obtain⟨C,P⟩:=ZX g B d;refine a2.ei (y:=some (.inr (e.st (a.drop 1) b))) ?_ ?_
      ·exact a2.inr (C.trans l) (g.mono C) rfl
      ·exact(fm P).trans rfl
     ·simp only[aO M,aO U];exact s bP _ _ (by grind) (by grind) (λu=>by grind) (λ_=>rfl)
 intro r F h;exact j bD r F (mj (kB (e3 h.sfx) h.b7)) h
end
def Jr(l:ea)(D:ae Unit):ae (Unit⊕Unit):=N (bV []) λt=>if t= .eof then cf [] else if cG t eH then N (b6 4) λ_=>a1 (.inr ()) else
 N ((if t= .op [40] then b6 1 else a1 ())) λ_=>N (lJ D) λ_=>N (l.ls .item true) λ_=>N (bV []) λt=>if t= .op [59,59] then N (b6 2) λ_=>a1 (.inl ()) else a1 (.inl ())
def vt(l:ea)(D:ae Unit):Unit->ae (Unit⊕Unit):=λ_=>N c2 λ_=>Jr l D
theorem amQ(l:ea)(D:ae Unit):n4 l D=b8 (vt l D) ():=rfl
noncomputable def Js:aj->Option (bp aj aj):=λy=>a_ (oy y eH) (λx=>(x.1,x.2.1,y.2.2.1,x.2.2.2.1,y.2.2.2.2.1,x.2.2.2.2.2)) λz=>some (.inr (z.1,z.2.1,y.2.2.1,z.2.2.2.1,y.2.2.2.2.1,z.2.2.2.2.2))
theorem Nt{r:H}{F:ah}(Y:bo r=some r)(a:aq r≠ .line):c2 r F= .ok false r F:=by rw[rG,cz,rH Y a];rfl
theorem A9(fr:Bool)(n:Nat):∃ao,(aU fr n).ls=λc no=>oZ ao c no:=by
 cases n with
 |zero=>exact⟨_,rfl⟩
 |succ n=>exact⟨_,rfl⟩
theorem amR{e:cP}{v:H}{F:ah}{w:H}(h:eb e v F)(Y:bo v=some v)(b:aq v= .word w true):cS w v F= .ok () (v.drop w.length) F/\v.drop w.length<:+v/\oy (e.st v F) w=some (.inr (e.st (v.drop w.length) F)):=by
 have a:cS w v F= .ok () (v.drop w.length) F:=by unfold cS nJ;rw[aS (cu Y),b];simp[cG,b6]
 have:=Je w h;rw[a] at this;exact⟨a,this.1,this.2.2⟩
theorem Dh{σ α:Type}(y:Option (bp σ α)):a_ y (λx=>x) (λa=>some (.inr a))=y:=by unfold a_;grind
section
variable{R:bj}{n:Nat}(hA:ug R n)(bk:xS R n){e:cP}(bf:e.ne=30- (n:Int))
include hA bk bf
theorem amS:∀(bw:Nat)(r0 r:H)(F:ah),r<:+r0->r.length<bw->eb e r F->a2 e r0 (cR (vt (aU false n) (a9 false n)) r0 (Jr (aU false n) (a9 false n) r F)) (λ_=>e.st) (fixF (HW R Js) bw (e.st r F)):=by
 intro bw;induction bw with
 |zero=>omega
 |succ bw T=>
  intro r0 r F G fx h;rw[fl];generalize fixF (HW R Js) bw=k at T;unfold HW a7;unfold Jr;refine a2.tst c_.k (rO e _) h λad qN s1 l I=>?_;dsimp only;have o:=s1.trans G
  have p:∀(c:H)(C:ah),c<:+r0->eb e c C->bo c=some c->cG (aq c) eH=true->a2 e r0 (cR (vt (aU false n) (a9 false n)) r0 (N (b6 4) (λ_=>a1 (.inr ())) c C)) (λ_=>e.st) (Js (e.st c C)):=by
   intro c C s2 D i2 an;have vr:aq c= .word eH true:=by grind[cG]
   obtain⟨_,V,aT⟩:=amR D i2 vr;unfold Js;rw[fm aT];exact a2.inr (V.trans s2) (D.mono V) rfl
  by_cases he:cG (aq ad) eH=true
  ·have au:aq ad≠ .eof:=by intro s;rw[s] at he;cases he
   have J:cG (aq ad) [101,115,97,99]=true:=he;rw[aO au,bc he,J];simp only[hI,aW];exact p ad F o l I he
  have J:cG (aq ad) [101,115,97,99]=false:=GR.2 he;rw[J,aO he];simp only[fo,aL];refine a2.ei ?_ (fm ((sn e [40]).some l I));dsimp only;have X:∀c,c<:+ad->eb e c F->a2 e r0 (cR (vt (aU false n) (a9 false n)) r0 (N (lJ (a9 false n)) (λ_=>N ((aU false n).ls .item true) λ_=>N (bV []) λt=>if t= .op [59,59] then N (b6 2) λ_=>a1 (.inl ()) else a1 (.inl ())) c F)) (λ_=>e.st)
    (a_ (me R (e.st c F)) (λx=>x) λy=>fixF (wg R (λy=>a_ (zA y) (λx=>x) λCj=>(a_ (R.kX Cj 8 true) (λx=>x) λ(Xy,i)=>(a_ (ow i ([59,59]:H)) (λx=>(x.1,x.2.1,i.2.2.1,x.2.2.2.1,i.2.2.2.2.1,x.2.2.2.2.2)) λ(Ck,f)=>(bif(!Ck) then Js (f.1,f.2.1,i.2.2.1,f.2.2.2.1,i.2.2.2.2.1,f.2.2.2.2.2) else(a_ (ma (f.1,(W (f.2.1+2)),i.2.2.1,f.2.2.2.1,i.2.2.2.2.1,f.2.2.2.2.2)) (λx=>x) λ(Xz,m)=>k (m.1,m.2.1,m.2.2.1,m.2.2.2.1,m.2.2.2.2.1,m.2.2.2.2.2))))))) bD y):=by
   intro c s2 D
   have aY:∀(K:aj->Option (bp aj aj)),(a_ (me R (e.st c F)) (λx=>x) λy=>fixF (wg R (λy=>a_ (zA y) (λx=>x) K)) bD y)=a_ (a_ (me R (e.st c F)) (λx=>x) λy=>fixF (wg R zA) bD y) (λx=>x) K:=by
    intro K;rw[o3];congr 1
    funext y
    refine aan (L:=wg R) (λbQ bT av x=>?_) bD y;unfold wg;dsimp only;rw[o3];congr 1
    funext z
    cases z.1 with
    |true=>simp_all[aL,o3]
    |false=>rfl
   rw[aY];refine a2.iZ c_.k ((amP hA bf c F D).mono (s2.trans o)) (λ_=>rfl) λ_ E b9 Nu i_ fe=>?_;have Fz:=SQ (mL false n) Nu;have at1:E.length<r.length:=by grind
   have at2:E.length<r0.length:=by grind
   obtain⟨ao,eK⟩:=A9 false n;have Wr:=bk.im e .item true (by simp) bf E b9 fe;refine a2.iZ c_.k (Wr.mono i_) (λ_=>rfl) λa d g M Y u=>?_;dsimp only;have at3:=((rF false n).ls .item true).sfx M;rw[eK] at M;obtain⟨v,t4⟩:=zv (by simp) M;rw[aS (cu v)];refine a2.ei ?_ (fm ((sn e [59,59]).some u v));dsimp only;by_cases U:aq d= .op [59,59]
   ·rw[bc U];have j:((aq d==Tok.op [59,59]):Bool)=true:=by grind
    rw[j];simp only[hI,aW];obtain⟨q,rfl⟩:=(h4 U).2.1;have A:q<:+[59,59]++q:=fO [59,59] q;have O:W (ax e.S ([59,59]++q)+2)=ax e.S q:=k9 (w:=[59,59]) u.b7 u.sfx;have at4:q.length<E.length:=by grind
    show a2 e r0 (cR _ r0 (.ok (.inl ()) q g)) _ (a_ (ma (e.S,W (ax e.S ([59,59]++q)+2),g,e.ne,e.op,e.kz)) _ _);rw[O];have P:=u.mono A;have Q:cR (vt (aU false n) (a9 false n)) r0 (.ok (.inl ()) q g)=b8 (vt (aU false n) (a9 false n)) () q g:=by show(if q.length<r0.length then _ else _)=_;grind
    rw[Q,cz];refine a2.mono ?_ ((A.trans Y));unfold vt;refine a2.A7 c_.k P fq λb eY lK _ n9 mX=>?_;exact T q eY lK n9 (by grind) mX
   ·rw[aO U];have j:((aq d==Tok.op [59,59]):Bool)=false:=by grind
    rw[j];simp only[fo,aL];have B:cG (aq d) eH=true:=by grind[d_]
    have Z:aq d≠ .line/\aq d≠ .eof:=by grind[aq,eH,cG]
    have n_:d.length<r0.length:=by grind
    have Q:cR (vt (aU false n) (a9 false n)) r0 (a1 (.inl ()) d g)=cR (vt (aU false n) (a9 false n)) d (N (b6 4) (λ_=>a1 (.inr ())) d g):=by show(if d.length<r0.length then _ else _)=_;rw[bc n_,cz];congr 1;show N c2 (λ_=>Jr (aU false n) (a9 false n)) d g=_;rw[aS (Nt v Z.1)];unfold Jr;rw[aS (cu v),aO Z.2,bc B]
    rw[Q];have:=p d g Y u v B;exact this
  by_cases aE:aq ad= .op [40]
  ·have j:((aq ad==Tok.op [40]):Bool)=true:=by grind
   rw[bc aE,aO (by grind),j];simp only[cond_true];obtain⟨q,rfl⟩:=(h4 aE).2.1;have A:q<:+[40]++q:=List.suffix_append [40] q;have O:W (ax e.S ([40]++q)+1)=ax e.S q:=k9 (w:=[40]) l.b7 l.sfx;have:=X q A (l.mono A);show a2 e r0 (cR _ r0 (N (lJ (a9 false n)) _ q F)) _ (a_ (me R (e.S,W (ax e.S ([40]++q)+1),F,e.ne,e.op,e.kz)) _ _);rw[O];refine a2.ei this ?_;congr 1
   funext y
   congr 2
   funext z
   unfold zA;rw[o3];rfl
  ·have j:((aq ad==Tok.op [40]):Bool)=false:=by grind
   rw[j];simp only[aW];have S:=X ad fq l;have bl:∀(y eS:Option (bp aj aj)),eS=y->a2 e r0 (cR (vt (aU false n) (a9 false n)) r0 (N (lJ (a9 false n)) (λ_=>N ((aU false n).ls .item true) λ_=>N (bV []) λt=>if t= .op [59,59] then N (b6 2) λ_=>a1 (.inl ()) else a1 (.inl ())) ad F)) (λ_=>e.st) y->
     a2 e r0 (cR (vt (aU false n) (a9 false n)) r0 ((if aq ad= .eof then cf [] else N (if aq ad= .op [40] then b6 1 else a1 ()) λ_=>N (lJ (a9 false n)) λ_=>N ((aU false n).ls .item true) λ_=>N (bV []) λt=>if t= .op [59,59] then N (b6 2) λ_=>a1 (.inl ()) else a1 (.inl ()):ae (Unit⊕Unit)) ad F)) (λ_=>e.st) eS:=by
    rintro y _ rfl s;by_cases hf:aq ad= .eof
    ·rw[bc hf]
     have aE:∃nd ds,lJ (a9 false n) ad F= .more [] nd ds:=by unfold lJ;rw[cz,aS (cu I),hf];exact⟨_,_,rfl⟩
     obtain⟨nd,ds,aE⟩:=aE;rw[dt aE] at s;exact s
    ·rw[aO hf,aO aE];exact s
   refine bl _ _ ?_ S;congr 1
   funext y
   congr 2
   funext z
   unfold zA;rw[o3];rfl
theorem amW:qX e (rD (aU false n) (a9 false n)) (λ_=>e.st) (EJ R):=by
 intro r F h;unfold EJ;have a:=Tp hA bf ([120,32]++fK++[10]++eH) r F h;unfold rD;unfold ke at a;cases aE:bV ([120,32]++fK++[10]++eH) r F with
 |more op nd ds=>rw[dt aE] at a⊢;obtain⟨st,c,i⟩:=a;exact⟨st,ib c,i⟩
 |bad q=>rw[hq aE] at a⊢;obtain⟨g,st,c⟩:=a;exact⟨g,st,ib c⟩
 |deep q=>
  have:N (bV ([120,32]++fK++[10]++eH)) (λt=>match t with
   | .eof=>cf ([120,32]++fK++[10]++eH)
   | .word _ _=>cX (a9 false n)
   |_=>bP) r F= .deep q:=by grind[N]
  unfold N;rw[aE];trivial
 |ok t ad K=>
  rw[aS aE] at a⊢;obtain⟨z,rfl,rfl⟩:=Jj aE;have s1:=ef z;cases k:aq ad with
  |eof=>rw[k] at a;obtain⟨st,c,i⟩:=a;exact⟨st,ib c,i⟩
  |line=>rw[k] at a;obtain⟨g,st,c⟩:=a;exact⟨g,st,ib c⟩
  |op o=>rw[k] at a;obtain⟨g,st,c⟩:=a;exact⟨g,st,ib c⟩
  |word w p=>
   rw[k] at a;dsimp only at a⊢;refine a2.aam ?_;rw[k6];refine a2.iZ (C:=λx=>x) c_.id a (λ_=>rfl) λ_ L O _ s2 A=>?_;rw[k6];refine a2.A7 (C:=λx=>x) c_.id A s2 λb v l _ B m=>?_;dsimp only;rw[k6];have D:=B.trans s2;cases j:bo v with
   |none=>rw[dt (iY j)];unfold oy;exact((((rO e _).none m j).bind λ_=> .inl rfl).bind λ_=> .inr rfl).sm
   |some d=>
    rw[aS (cu j)];have y:=ef j;have E:=m.mono y;have P:=l1 _ _ _ (cF _) j;have f:=Je [105,110] m;have he:cS [105,110] v l=(if aq d= .eof then cf [] else if cG (aq d) [105,110] then b6 2 else bP:ae Unit) d l:=by unfold cS nJ;grind[aS,cu]
    rw[he] at f;by_cases M:aq d= .eof
    ·rw[bc M] at f⊢;obtain⟨st,c,i⟩:=f;exact⟨_,ib c,by simp;rfl⟩
    rw[aO M] at f⊢;rw[show N (a1 (aq d)) (λt=>if cG t fK=true then N (b6 2) λ_=>(n4 (aU false n) (a9 false n)).aM (10::eH) else bP)=(if cG (aq d) fK=true then N (b6 2) λ_=>(n4 (aU false n) (a9 false n)).aM (10::eH) else bP) from rfl];by_cases U:cG (aq d) fK=true
    ·have s:cG (aq d) [105,110]=true:=U;rw[bc s] at f;rw[bc U];obtain⟨c,i,G⟩:=f;refine a2.ei ?_ (fm G);have aD:d.drop 2<:+d:=lO _ _;show a2 e r ((n4 (aU false n) (a9 false n)).aM (10::eH) (d.drop 2) l) _ _;refine a2.aM ?_;rw[amQ,cz];refine a2.mono ?_ (aD.trans (y.trans D));unfold vt;refine a2.A7 c_.k (E.mono aD) fq λb H I _ J u=>?_;have:=amS hA bk bf bD (d.drop 2) H I J (mj (kB (e3 u.sfx) u.b7)) u;exact this
    ·have s:¬cG (aq d) [105,110]=true:=U;rw[aO s] at f;rw[aO U];obtain⟨g,st,c⟩:=f;exact⟨g,_,ib c⟩
end
theorem aas{t:Tok}(h:gg t=true):(jH t).2.1=lX t/\0<(lX t).length:=by
 cases t with
 |eof=>cases h
 |line=>cases h
 |op o=>
  have:o=[40]:=by grind[gg]
  subst this;decide
 |word w p=>
  cases p with
  |false=>cases h
  |true=>
   refine⟨rfl,?_⟩;cases w with
   |nil=>exact absurd h (by decide)
   |cons a b=>simp[lX]
def Di(l:ea)(t:Tok):ae Unit:=match t with
 | .op _=>N ((l.ls .paren false).aM [41]) λ_=>j1 [41]
 | .word w _=>
  if w=[123] then N ((l.ls .p9 false).aM [10,125]) λ_=>cS [125]
  else if w=jT then rC l
  else if w=mz then qb l l.dl
  else if w=oB then rD l l.dl
  else N ((l.ls .p_ false).aM eB) λ_=>ji l eB
 |_=>bP
theorem aat{l:ea}{t:Tok}(h:gg t=true)(r:H)(F:ah):gK l t r F=Di l t (r.drop (lX t).length) F:=by
 cases t with
 |eof=>cases h
 |line=>cases h
 |op o=>rfl
 |word w p=>rfl
theorem aau{R:bj}{n:Nat}(au:n<=30)(hA:∀m,n=m+1->ug R m/\xS R m){e:cP}(bf:e.ne=30- (n:Int)){r:H}{F:ah}(h:eb e r F)(Y:bo r=some r)(az:gg (aq r)=true):
  a2 e r ((aU false n).cp (aq r) r F) (λ_=>e.st) (EP R (e.st r F)):=by
 cases n with
 |zero=>trivial
 |succ m=>
  obtain⟨l,g⟩:=hA m rfl;obtain⟨L,Tz⟩:=aas az;have O:lX (aq r)<+:r:=by
   cases b:aq r with
   |eof=>rw[b] at az;cases az
   |line=>rw[b] at az;cases az
   |op o=>
    rw[b] at az;have:o=[40]:=by grind[gg]
    subst this;exact(h4 b).2.1
   |word w p=>
    rw[b] at az;cases p with
    |false=>cases az
    |true=>exact(qQ b).1
  unfold EP a7;refine a2.ei ?_ (fm ((lL e).some h Y));dsimp only;rw[L];generalize s:lX (aq r)=x at*;have P:=Nc (p:=ax e.S r) (x:=x) h (by omega) (by omega);refine a2.ei ?_ (fm P);show a2 e r ((gK (aU false m) (aq r)).named (lX (aq r)) r F) _ _;rw[s];obtain⟨q,rfl⟩:=O;have d:q<:+x++q:=fO x q;have ay:q.length<(x++q).length:=by grind
  have Q:W (ax e.S (x++q)+(x.length:Int))=ax e.S q:=k9 h.b7 h.sfx;have j:=h.fH (x:=x) d ay;have S:(((e.fH x).st (x++q) F).1,(W (((e.fH x).st (x++q) F).2.1+(x.length:Int))),((e.fH x).st (x++q) F).2.2.1,((e.fH x).st (x++q) F).2.2.2.1,((e.fH x).st (x++q) F).2.2.2.2.1,((e.fH x).st (x++q) F).2.2.2.2.2)=(e.fH x).st q F:=by show(e.S,W (ax e.S (x++q)+(x.length:Int)),F,e.ne+1,e.op++[x],e.kz)=_;rw[Q];rfl
  rw[S];have i:(e.fH x).ne=30- (m:Int):=by show e.ne+1=_;omega
  have T:gK (aU false m) (aq (x++q)) (x++q) F=Di (aU false m) (aq (x++q)) q F:=by grind[aat,List.drop_left]
  have f:∀(y:Option (bp aj aj))(z:Option (bp aj aj)),a2 (e.fH x) (x++q) (Di (aU false m) (aq (x++q)) q F) (λ_=>(e.fH x).st) y->z=a_ y (λx=>x) (λy=>aw (v_ y) λy=>some (.inr y))->a2 e (x++q) ((gK (aU false m) (aq (x++q))).named x (x++q) F) (λ_=>e.st) z:=by
   rintro y _ G rfl;rw[<-T] at G;have k:=G.named;cases av:((gK (aU false m) (aq (x++q))).named x) (x++q) F with
   |ok a ad V=>rw[av] at k;obtain⟨t,u,X⟩:=k;refine⟨t,u.out,?_⟩;rw[fm X];exact(aR (Nd (r:=ad) (F:=V) (x:=x) h.xQ (show 0<=e.ne by omega) (by omega))).trans rfl
   |more op nd ds=>rw[av] at k;obtain⟨st,t,u⟩:=k;exact⟨st,ib t,u⟩
   |bad Z=>rw[av] at k;obtain⟨t,st,u⟩:=k;exact⟨t,st,ib u⟩
   |deep Z=>trivial
  have I:(aU false m).dl=a9 false m:=xR false m;cases b:aq (x++q) with
  |eof=>rw[b] at az;cases az
  |line=>rw[b] at az;cases az
  |op o=>
   rw[b] at az f s;have A:x=[40]:=s.symm;subst A;simp only[bA,aL];refine f (a_ (R.kX ((e.fH [40]).st q F) 1 false) (λx=>x) λy=>a_ (tN y.2 [41]) (λx=>(x.1,x.2.1,y.2.2.2.1,x.2.2.2.1,y.2.2.2.2.2.1,x.2.2.2.2.2)) λz=>some (.inr (z.1,z.2.1,y.2.2.2.1,z.2.2.2.1,y.2.2.2.2.2.1,z.2.2.2.2.2))) _ ?_ ?_
   ·refine a2.ls (c:= .paren) (C:=λx=>x) c_.id g i j d λa B D s2 v=>?_;exact a2.amz v (s2.trans d) λcB=>rfl
   ·rw[o3];congr 1
    funext y
    rw[o3];rfl
  |word w p=>
   rw[b] at az f s;have A:x=w:=s.symm;subst A;have E:oC x=true:=by
    cases p with
    |true=>exact az
    |false=>cases az
   have gz:decide (x=[40])=false:=by rw[GW];rintro rfl;exact absurd E (by decide)
   simp only[gz,aW];by_cases M:x=[123]
   ·subst M;simp only[bA,aL];refine f (a_ (R.kX ((e.fH [123]).st q F) 2 false) (λx=>x) λy=>a_ (oy y.2 [125]) (λx=>(x.1,x.2.1,y.2.2.2.1,x.2.2.2.1,y.2.2.2.2.2.1,x.2.2.2.2.2)) λz=>some (.inr (z.1,z.2.1,y.2.2.2.1,z.2.2.2.1,y.2.2.2.2.2.1,z.2.2.2.2.2))) _ ?_ ?_
    ·refine a2.ls (c:= .p9) (C:=λx=>x) c_.id g i j d λa B D s2 v=>?_;exact a2.aag v (s2.trans d) λcB=>rfl
    ·rw[o3];congr 1
     funext y
     rw[o3];rfl
   simp only[M,bG,aW];by_cases U:x=jT
   ·subst U;rw[show decide (jT=[105,102])=true from rfl];simp only[aL];refine f (EN R ((e.fH jT).st q F)) _ ((amF g i q F j).mono d) ?_;rfl
   have uI:decide (x=[105,102])=false:=GW.2 U;rw[uI];simp only[aW];by_cases J:x=mz
   ·subst J;rw[show decide (mz=[102,111,114])=true from rfl];simp only[aL];refine f (EL R ((e.fH mz).st q F)) _ ?_ rfl;have:=(amM l g i q F j).mono d;rw[<-I] at this;exact this
   have BF:decide (x=[102,111,114])=false:=GW.2 J;rw[BF];simp only[aW];by_cases K:x=oB
   ·subst K;rw[show decide (oB=[99,97,115,101])=true from rfl];simp only[aL];refine f (EJ R ((e.fH oB).st q F)) _ ?_ rfl;have:=(amW l g i q F j).mono d;rw[<-I] at this;exact this
   have WV:decide (x=[99,97,115,101])=false:=GW.2 K;rw[WV];simp only[aW];refine f (a_ (R.kX ((e.fH x).st q F) 6 false) (λx=>x) λy=>a_ (uY R y.2) (λx=>x) λz=>some (.inr z)) _ ?_ ?_
   ·have:Di (aU false m) (.word x p)=N (((aU false m).ls .p_ false).aM eB) λ_=>ji (aU false m) eB:=by simp_all[Di,aO]
    rw[this];refine a2.ls (c:= .p_) (C:=λx=>x) c_.id g i j d λa B D s2 v=>?_;dsimp only;rw[Dh];exact(TJ g i _ B D v).mono (s2.trans d)
   ·rw[o3];congr 1
    funext y
    rw[o3];rfl
def wK(R:bj)(n:Nat):Prop:=∀m,m<=n->ug R m
theorem wK.at{R:bj}{n:Nat}(h:wK R n):ug R n:=h n (cF _)
theorem wK.low{R:bj}{n:Nat}(h:wK R n):∀m,n=m+1->ug R m/\xS R m:=λm hm=>⟨h m (by omega),(h n (cF _)).ls m hm⟩
def jU(fr:Bool):Nat->Option ea
 |0=>none
 |n+1=>some (aU fr n)
theorem aaw(fr:Bool)(n:Nat):(aU fr n).cp=s4 (jU fr n):=by cases n<;>rfl
theorem F1(fr:Bool)(n:Nat):a9 fr n=dG (jU fr n):=by cases n<;>rfl
theorem amY{R:bj}{n:Nat}(hA:wK R n){e:cP}(bf:e.ne=30- (n:Int)){u:H}{F:ah}(h:eb e (40::u) F):
  a2 e (40::u) (lk false (jU false n) (40::u) F) (λ_=>e.st) (LZ R (e.st (40::u) F)):=by
 have hle:=hA.at.le;cases n with
 |zero=>trivial
 |succ m=>
  cases m with
  |zero=>trivial
  |succ k=>
   show a2 e (40::u) (lk false (some (aU false (k+1))) (40::u) F) _ _;unfold lk;dsimp only;rw[bc (show(aU false (k+1)).has=true from rfl)];unfold LZ a7;have Nw:W (e.ne+2)=e.ne+2:=dJ (by omega) (by omega);have P:decide (30<W ((e.st (40::u) F).2.2.2.1+2))=false:=by show decide (30<W (e.ne+2))=false;grind
   rw[P];simp only[aW];have Q:=Nc (p:=ax e.S (40::u)) (x:=[102,40,41]) h (by omega) (by omega);refine a2.ei ?_ (fm Q);have hu:u<:+40::u:=dL 40 u;have o:=h.fH (x:=[102,40,41]) hu (by simp);have S:W (ax e.S (40::u)+1)=ax e.S u:=jj h.b7 h.sfx;have T:(e.fH [102,40,41]).ne=30- ((k+1:Nat):Int):=by show e.ne+1=_;omega
   have V:(((e.fH [102,40,41]).st (40::u) F).1,(W (((e.fH [102,40,41]).st (40::u) F).2.1+1)),((e.fH [102,40,41]).st (40::u) F).2.2.1,((e.fH [102,40,41]).st (40::u) F).2.2.2.1,((e.fH [102,40,41]).st (40::u) F).2.2.2.2.1,((e.fH [102,40,41]).st (40::u) F).2.2.2.2.2)=(e.fH [102,40,41]).st u F:=by show(e.S,W (ax e.S (40::u)+1),F,e.ne+1,e.op++[[102,40,41]],e.kz)=_;rw[S];rfl
   rw[V];generalize X:(N (b6 1) λ_=>N (bV [41,32,123,32,120,10,125]) λt=>if t= .eof then cf [41,32,123,32,120,10,125] else if t= .op [41] then
    N (b6 1) λ_=>N (c2.aM [123,32,120,10,125]) λ_=>N (bV [123,32,120,10,125]) λt=>if t= .eof then cf [123,32,120,10,125] else
     if gg t then N ((aU false (k+1)).cp t) λ_=>if false=true then(aU false (k+1)).rd else a1 () else bP
    else bP:ae Unit)=B
   have Z:∀K:aj->Option (bp aj aj),(∀ad c,K ((e.fH [102,40,41]).st ad c)=some (.inr (e.st ad c)))->
     ∀y,a2 (e.fH [102,40,41]) (40::u) (B (40::u) F) (λ_=>(e.fH [102,40,41]).st) y->a2 e (40::u) ((B.named [102,40,41]) (40::u) F) (λ_=>e.st) (a_ y (λx=>x) K):=by
    intro K lv y bl;have f:=bl.named;cases av:(B.named [102,40,41]) (40::u) F with
    |ok a ad c=>rw[av] at f;obtain⟨g,i,v⟩:=f;exact⟨g,i.out,by grind[fm]⟩
    |more op nd ds=>rw[av] at f;obtain⟨st,g,i⟩:=f;exact⟨st,ib g,i⟩
    |bad dj=>rw[av] at f;obtain⟨g,st,i⟩:=f;exact⟨g,st,ib i⟩
    |deep dj=>trivial
   have A:∀ad c,(aw (v_ ((e.fH [102,40,41]).st ad c)) λ(D:aj)=>(some (.inr D):Option (bp aj aj)))=some (.inr (e.st ad c)):=λad c=>
    (aR (Nd (r:=ad) (F:=c) (x:=[102,40,41]) h.xQ (show 0<=e.ne by omega) (by omega))).trans rfl
   have E:=Z (λmb=>aw (v_ mb) λ(D:aj)=>some (.inr D)) A
    (a_ (tN ((e.fH [102,40,41]).st u F) ([41]:H)) (λx=>(x.1,x.2.1,F,x.2.2.2.1,e.op++[[102,40,41]],x.2.2.2.2.2)) λ(q:aj)=>
     (a_ (ma (q.1,q.2.1,F,q.2.2.2.1,e.op++[[102,40,41]],q.2.2.2.2.2)) (λx=>x) λy=>
     (a_ (HQ y.2) (λx=>(x.1,x.2.1,y.2.2.2.1,x.2.2.2.1,y.2.2.2.2.2.1,x.2.2.2.2.2)) λz=>
     (bif(!z.1) then
     a_ (lC (z.2.1,z.2.2.1,y.2.2.2.1,z.2.2.2.2.1,y.2.2.2.2.2.1,z.2.2.2.2.2.2)) (λx=>(x.1,x.2.1,y.2.2.2.1,x.2.2.2.1,y.2.2.2.2.2.1,x.2.2.2.2.2)) λy=>Empty.elim y
     else
     EP R (z.2.1,z.2.2.1,y.2.2.2.1,z.2.2.2.2.1,y.2.2.2.2.2.1,z.2.2.2.2.2.2)))))
   have G:=E (by
    rw[<-X];show a2 (e.fH [102,40,41]) (40::u) (N (bV [41,32,123,32,120,10,125]) _ u F) _ _;have at5:=o;cases Y:bo u with
    |none=>rw[dt (iY Y)];unfold tN;exact((((sn _ _).none o Y).bind λ_=> .inl rfl).bind λ_=> .inr rfl).sm
    |some ad=>
     rw[aS (cu Y)];have s1:=ef Y;have v1:=o.mono s1;have g:=l1 _ _ _ (cF _) Y;have d:=M8 [41] o;have he:j1 [41] u F=(if aq ad= .eof then cf [] else if(aq ad==Tok.op [41])=true then b6 1 else bP:ae Unit) ad F:=by unfold j1 nJ;rw[aS (cu Y)];rfl
     rw[he] at d;by_cases M:aq ad= .eof
     ·rw[bc M] at d⊢;obtain⟨st,s,aT⟩:=d;exact⟨_,ib s,by simp;rfl⟩
     rw[aO M] at d⊢;by_cases U:aq ad= .op [41]
     ·rw[bc (by grind)] at d;rw[if_pos U];obtain⟨s,aT,eN⟩:=d;refine a2.ei ?_ (fm eN);have aD:ad.drop 1<:+ad:=List.drop_suffix _ _;show a2 (e.fH [102,40,41]) (40::u) (N (c2.aM [123,32,120,10,125]) _ (ad.drop 1) F) _ _;have J:ad.drop 1<:+40::u:=aD.trans (s1.trans hu);refine a2.lines (C:=λx=>x) c_.id (v1.mono aD) J λb aC dr _ s2 v2=>?_;refine a2.tst (C:=λx=>x) c_.id (ZQ _) v2 λL si i_ O v=>?_;dsimp only;cases az:gg (aq L) with
      |true=>
       have au:aq L≠ .eof:=by intro l;rw[l] at az;cases az
       rw[aO au];simp only[cK,hI,aW,eQ,cA]
       have:=aau (R:=R) (n:=k+1) (by omega) (λm hm=>by
        have I:wK R (k+1):=λj cD=>hA j (by omega);exact I.low m hm) T O v az
       rw[FT];exact this.mono (i_.trans (s2.trans J))
      |false=>simp only[fo,aL,eQ,cA];exact Ni (x:=[123,32,120,10,125]) O v (λl=>bc l) (λl=>aO l) λ_=> .inr rfl
     ·rw[aO (by grind)] at d;rw[if_neg U];obtain⟨oI,st,s⟩:=d;exact⟨oI,_,ib s⟩)
   refine a2.ei G ?_;rw[o3];congr 1
   funext y
   rw[o3];congr 1
   funext z
   rw[o3];congr 1
   funext w
   cases w.1 with
   |true=>rfl
   |false=>simp only[Bool.not_false,cond_true];rw[o3];grind
theorem td{D:ae Unit}{r r':H}{F:ah}(Y:bo r=some r')(au:ff (bs (r'.dropWhile ch))=false):dz D r F= .ok false r' F:=by
 have a:fL r F= .ok none r' F:=by simp_all[fL,aO]
 unfold dz;rw[aS a];rfl
theorem aax{D:ae Unit}{r r':H}{F:ah}(Y:bo r=some r')(au:ff (bs (r'.dropWhile ch))=true){b:Bool}{ad:H}{a:ah}(h:dz D r F= .ok b ad a):b=true:=by
 have c:fL r F= .ok (some (bs (r'.dropWhile ch))) ((r'.dropWhile ch).drop (bs (r'.dropWhile ch)).length) F:=by simp_all[fL,bc]
 unfold dz at h;rw[aS c] at h;obtain⟨_,_,_,_,h⟩:=bY h;cases h;rfl
theorem am3{b:UInt8}{t:H}(h:bs (b::t)≠[]):ch b=false:=by
 cases a:ch b with
 |false=>rfl
 |true=>simp_all[absurd,mU,A6]
theorem aay{R:bj}{n:Nat}(hA:wK R n){e:cP}(bf:e.ne=30- (n:Int)):qX e (fG false (jU false n) (a9 false n)) (λ_=>e.st) (AE R):=by
 intro r F h;unfold fG AE;have a:=hA.at;refine a2.tst (C:=λx=>x) c_.id (ZQ e) h λad qN s1 c d=>?_;dsimp only;by_cases az:gg (aq ad)=true
 ·have au:aq ad≠ .eof:=by intro g;rw[g] at az;cases az
  rw[aO au,bc az,az];simp only[aL];have L:=aau (R:=R) (n:=n) a.le (λm hm=>hA.low m hm) bf c d az;rw[aaw] at L;refine a2.iZ (C:=λx=>x) c_.id (L.mono s1) (λ_=>rfl) λ_ l q _ s2 i=>?_;rw[Dh];exact(aae a bf l q i).mono s2
 have E:gg (aq ad)=false:=by grind
 rw[E];simp only[aW,eQ,cA];refine a2.ei ?_ (fm ((lL e).some c d));dsimp only;unfold a7;have G:∀(m:ae Unit)(z:Bool)(K:aj->Option (bp aj aj)),ff (bs (ad.dropWhile ch))=false->(aq ad= .eof->m=cf [120])->(aq ad≠ .eof->m=bP)->z=false->a2 e r (m ad F) (λ_=>e.st)
   (bif z then a_ (lC ((e.st ad F).1,(e.st ad F).2.1,(e.st r F).2.2.1,(e.st ad F).2.2.2.1,(e.st r F).2.2.2.2.1,(e.st ad F).2.2.2.2.2)) (λx=>(x.1,x.2.1,(e.st r F).2.2.1,x.2.2.2.1,(e.st r F).2.2.2.2.1,x.2.2.2.2.2)) λy=>Empty.elim y
    else a_ (AD R ((e.st ad F).1,(e.st ad F).2.1,(e.st r F).2.2.1,(e.st ad F).2.2.2.1,(e.st r F).2.2.2.2.1,(e.st ad F).2.2.2.2.2)) (λx=>x) λw=>bif w.1 then a_ (Ct R w.2) (λx=>x) (λQ=>some (.inr Q)) else
     a_ (lC w.2) (λx=>(x.1,x.2.1,w.2.2.2.1,x.2.2.2.1,w.2.2.2.2.2.1,x.2.2.2.2.2)) λy=>Empty.elim y):=by
  rintro m _ K v S T rfl;simp only[aW];have j:=Jo a bf ad F c;rw[td d v] at j;refine a2.ei ?_ (fm j.2.2);simp only[aW];exact Ni (x:=[120]) c d S T λ_=> .inr rfl
 have U:ff []=false:=by decide
 cases f:aq ad with
 |eof=>
  have nh:ad=[]:=by
   cases ad with
   |nil=>rfl
   |cons b t=>exfalso;have vr:(if b=10 then Tok.line else if bs (b::t)≠[] then .op (bs (b::t)) else .word (dc (b::t)).1 (dc (b::t)).2)=Tok.eof:=f;grind
  simp only[jH,cZ,show¬((0:Int)=3) by decide,bG,aW,cK,eQ,cA,fo,aL];have:=G (cf [120]) false (λ_=>none) (by simp_all[bs,kd,uF,List.isPrefixOf]) (λ_=>rfl) (λg=>absurd f g) rfl;exact this
 |line=>obtain⟨t,rfl⟩:=wD f;simp only[jH,cZ,show¬((1:Int)=3) by decide,bG,aW,cK,eQ,cA,fo,aL,reduceCtorEq];have fM:bs (10::t)=[]:=mU (by decide);have:=G bP false (λ_=>none) (by rfl) (λg=>by grind) (λ_=>rfl) rfl;exact this
 |op o=>
  simp only[jH,cZ,show¬((2:Int)=3) by decide,bG,aW,cK,eQ,cA,fo,aL,reduceCtorEq];have V:=(h4 f).1;have De:ad.dropWhile ch=ad:=by
   cases ad with
   |nil=>rfl
   |cons b t=>exact Kn (by rw[am3 (b:=b) (t:=t) (by rw[<-V];exact(h4 f).2.2.2)];simp)
  by_cases v:ff o=true
  ·rw[bc v];have j:=Jo a bf ad F c;refine a2.iZ (C:=λx=>x) c_.id (j.mono s1) (λ_=>rfl) λb l q A s2 i=>?_;have s:=aax d (by grind) A;subst s;simp only[aL];rw[Dh];exact(Nr a bf l q i).mono s2
  ·rw[aO v];have:=G bP false (λ_=>none) (by grind) (λg=>by grind) (λ_=>rfl) rfl;exact this
 |word w p=>
  simp only[jH,bA,aL,reduceCtorEq,cA,hI,aW];rw[ama,gy];have W:(bif p then(if p=true then rB w else false) else false)=(p&&rB w):=by simp
  rw[W];cases Nx:(p&&rB w) with
  |true=>simp only[aL,cK];exact Ni (x:=[]) c d (λg=>by grind) (λ_=>rfl) λ_=> .inr rfl
  |false=>
   simp only[aW,eQ,cA];have j:=Jo a bf ad F c;refine a2.iZ (C:=λx=>x) c_.id (j.mono s1) (λ_=>rfl) λb l q A s2 i=>?_;cases b with
   |true=>simp only[aL,cK];rw[Dh];exact(Nr a bf l q i).mono s2
   |false=>
    simp only[aW,eQ,cA];have X:ff (bs (ad.dropWhile ch))=false:=by grind[ff,bs,ch,aax]
    rw[td d X] at A;cases A;refine a2.iZ (C:=λx=>x) c_.id ((Nh a bf i d f).mono s2) (λ_=>rfl) λ_ H B _ I N=>?_;have Y:a2 e r (g8 false (a9 false n) H B) (λ_=>e.st) (a_ (Ct R (e.st H B)) (λx=>x) λZ=>some (.inr Z)):=by rw[Dh];exact(Nr a bf H B N).mono I
    have jM:Co w=some (my w)\/p=false:=by
     cases p with
     |false=>simp
     |true=>left;have:=(qQ f).1.length_le;have:=e3 c.sfx;have:=h.b7;grind[zy]
    have TA:∀(k:Bool->Option (bp aj aj)),cZ (p=true) (Co w) false k=k (p&&my w):=by
     intro k;rcases jM with M|rfl
     ·grind[gy]
     rfl
    refine a2.ei ?_ (TA _);cases Ba:(p&&my w) with
    |false=>simp_all[a2.ei,ZL,aW,eQ,cA]
    |true=>
     have aE:p=true:=by grind
     subst aE;refine a2.ei ?_ (zt rfl);simp only[cK];refine a2.tst (C:=λx=>x) c_.id (sn e [40]) N λD A8 O P i4=>?_;dsimp only[cond_true];by_cases J:aq D= .op [40]
     ·have s:((aq D==Tok.op [40]):Bool)=true:=by grind
      rw[bc J,s];simp only[aL];obtain⟨u,rfl⟩:=(h4 J).2.1;refine a2.iZ (C:=λx=>x) c_.id ((amY hA bf P).mono (O.trans I)) (λ_=>rfl) λ_ eY lK _ n9 mX=>?_;rw[Dh];exact(aae a bf eY lK mX).mono n9
     ·have s:((aq D==Tok.op [40]):Bool)=false:=by grind
      rw[aO J,s];simp only[aW];rw[Dh];exact(Nr a bf D B P).mono (O.trans I)
theorem TM{e:cP}{r o:H}{F:ah}(v:eb e r F)(b:aq r= .op o):r.drop o.length<:+r/\(r.drop o.length).length<r.length/\eb e (r.drop o.length) F/\W (ax e.S r+(o.length:Int))=ax e.S (r.drop o.length):=by obtain⟨_,⟨q,rfl⟩,_,bf⟩:=h4 b;have ay:0<o.length:=OR.2 bf;rw[oN];have a:q<:+o++q:=fO o q;exact⟨a,by grind,v.mono a,k9 v.b7 v.sfx⟩
def rQ(fr:Bool)(n:Nat):ae Unit:=fG fr (jU fr n) (a9 fr n)
theorem aaz(fr:Bool)(n:Nat):ar (rQ fr n):=by
 unfold rQ;refine ar.command (λl ay=>?_) (mL fr n);cases n with
 |zero=>cases ay
 |succ m=>cases ay;simp[rF]
theorem aaA(fr:Bool)(n:Nat):ar (fu (rQ fr n)):=ar.pipe (aaz fr n)
section
variable{R:bj}{n:Nat}(hA:wK R n){e:cP}(bf:e.ne=30- (n:Int))
include hA bf
theorem aaB:qX e (fu (rQ false n)) (λ_=>e.st) (EU R):=by
 intro r F h;unfold fu EU a7;refine a2.tst (C:=λx=>x) c_.id (rO e [33]) h λad qN s1 d i1=>?_;dsimp only;have u:∀c,c<:+r->eb e c F->a2 e r (N (rQ false n) (λ_=>b8 (λ_=>N (bV []) λt=>if t= .op [124] then N (b6 1) λ_=>N (c2.aM [120]) λ_=>N (rQ false n) λ_=>a1 (.inl ()) else a1 (.inr ())) ()) c F) (λ_=>e.st)
   (a_ (AE R (e.st c F)) (λx=>x) λ(E:aj)=>fixF (L1 R λy=>some (.inr y)) bD E):=by
  intro c s2 G;refine a2.iZ (C:=λx=>x) c_.id ((aay hA bf c F G).mono s2) (λ_=>rfl) λ_ I J _ K f=>?_;refine a2.mono ?_ K;refine a2.rep (en:=λ_ r F=>e.st r F) (λk s g v L av=>?_) bD () I J (mj (kB (e3 f.sfx) f.b7)) f;unfold L1;refine a2.tst c_.k (sn e [124]) L λa M i z i5=>?_;dsimp only;by_cases j:aq a= .op [124]
  ·have l:((aq a==Tok.op [124]):Bool)=true:=by grind
   rw[bc j,l];simp only[aL];obtain⟨m,O,A,B⟩:=TM z j;show a2 e g (cR _ g (N (c2.aM [120]) _ (a.drop 1) v)) _ (a_ (ma (e.S,W (ax e.S a+1),v,e.ne,e.op,e.kz)) _ _);rw[show([124]:H).length=1 from rfl] at m O A B;have P:W (ax e.S a+1)=ax e.S (a.drop 1):=B;rw[P];refine a2.lines c_.k A (m.trans i) λb Q S _ T U=>?_;have V:=T.trans (m.trans i);refine a2.iZ c_.k ((aay hA bf Q S U).mono V) (λ_=>rfl) λ_ X rE Y FZ Jq=>?_;have Z:X.length<g.length:=by have cx:=((aaz false n).sfx Y).length_le;grind
   grind[a2.inl]
  ·have l:((aq a==Tok.op [124]):Bool)=false:=by grind
   rw[aO j,l];exact a2.inr i z rfl
 by_cases o:cG (aq ad) [33]=true
 ·rw[bc o,o];simp only[aL];have p:aq ad= .word [33] true:=by grind[cG]
  obtain⟨q,rfl⟩:=(qQ p).1;have D:q<:+[33]++q:=fO [33] q;have lq:W (ax e.S ([33]++q)+1)=ax e.S q:=k9 (w:=[33]) d.b7 d.sfx;have:=u q (D.trans s1) (d.mono D);show a2 e r (N (rQ false n) _ q F) _ (a_ (AE R (e.S,W (ax e.S ([33]++q)+1),F,e.ne,e.op,e.kz)) _ _);rw[lq];exact this
 ·have p:cG (aq ad) [33]=false:=by grind
  rw[aO o,p];exact u ad s1 d
theorem TO:qX e (h2 (fu (rQ false n))) (λ_=>e.st) (AF R):=by
 intro r F h;unfold h2 AF a7;refine a2.iZ (C:=λx=>x) c_.id (aaB hA bf r F h) (λ_=>rfl) λ_ z A _ B f=>?_;refine a2.mono ?_ B;refine a2.rep (en:=λ_ r F=>e.st r F) (λk s c g D av=>?_) bD () z A (mj (kB (e3 f.sfx) f.b7)) f;unfold Ry;refine a2.tst c_.k (sn e [38,38]) D λa E i j G=>?_;dsimp only;have q:∀o:H,o.length=2->aq a= .op o->a2 e c (cR (λ_=>N (bV []) λt=>if t= .op [38,38]\/t= .op [124,124] then N (b6 2) λ_=>N (c2.aM [120]) λ_=>N (fu (rQ false n)) λ_=>a1 (.inl ()) else a1 (.inr ())) c (N (b6 2) (λ_=>N (c2.aM [120]) λ_=>N (fu (rQ false n)) λ_=>a1 (.inl ())) a g)) (λ_=>e.st)
   (a_ (ma (e.S,W (ax e.S a+2),g,e.ne,e.op,e.kz)) (λx=>x) λy=>a_ (EU R y.2) (λx=>x) λI=>k I):=by
  intro o J d;obtain⟨l,K,u,v⟩:=TM j d;rw[J] at l K u v;have L:W (ax e.S a+2)=ax e.S (a.drop 2):=v;rw[L];show a2 e c (cR _ c (N (c2.aM [120]) _ (a.drop 2) g)) _ _;refine a2.lines c_.k u (l.trans i) λb M O _ P Q=>?_;have S:=P.trans (l.trans i);refine a2.iZ c_.k ((aaB hA bf M O Q).mono S) (λ_=>rfl) λ_ T X U Y Z=>?_;have V:T.length<c.length:=by have cx:=((aaA false n).sfx U).length_le;grind
  grind[a2.inl]
 by_cases d:aq a= .op [38,38]
 ·have m:((aq a==Tok.op [38,38]):Bool)=true:=by grind
  rw[bc (.inl d),m];simp only[nS,uE,cA,aL];exact q _ rfl d
 ·have m:((aq a==Tok.op [38,38]):Bool)=false:=by grind
  rw[m];refine a2.ei ?_ ((zt rfl).trans (fm ((sn e [124,124]).some j G)));dsimp only;by_cases w:aq a= .op [124,124]
  ·have p:((aq a==Tok.op [124,124]):Bool)=true:=by grind
   rw[bc (.inr w),p];simp only[aL,aW];exact q _ rfl w
  ·have p:((aq a==Tok.op [124,124]):Bool)=false:=by grind
   rw[aO (by grind),p];simp only[cond_false];exact a2.inr i j rfl
end
def nk(fr:Bool)(n:Nat):ae Unit:=h2 (fu (rQ fr n))
theorem am6(fr:Bool)(n:Nat):ar (nk fr n):=ar.qc (aaA fr n)
theorem aaC(fr:Bool)(n:Nat)(c:Ctx)(no:Bool):(aU fr n).ls c no=oZ (nk fr n) c no:=by cases n<;>rfl
theorem aaD{c:Ctx}:d_ c .eof=decide (c= .text):=by cases c<;>simp[d_,cG]
theorem am7{r:H}{F:ah}{b:Bool}{r':H}{a:ah}(Y:bo r=some r)(h:c2 r F= .ok b r' a):(aq r= .line->b=true/\r'.length<r.length)/\(aq r≠ .line->b=false/\r'=r/\a=F):=by
 constructor
 ·intro c;obtain⟨t,rfl⟩:=wD c;refine⟨?_,Y6 h⟩;rw[rG,cz,ub Y] at h;unfold cR at h;cases hm:N jt (λ_=>(a1 (.inl true):ae (Bool⊕Bool))) (10::t) F with
  |ok x ad e=>
   have d:x=(Sum.inl true:Bool⊕Bool):=by obtain⟨_,_,_,_,U⟩:=bY hm;cases U;rfl
   subst d;rw[hm] at h;simp only at h;split at h
   ·have:∀(bw:Nat)(r:H)(F:ah)(b:Bool)(r':H)(a:ah),r.length<=bw->b8 hX true r F= .ok b r' a->b=true:=by
     intro bw;induction bw with
     |zero=>intro r F b r' a f h;have:r=[]:=m4.1 (by omega);subst this;rw[cz,rH (ad:=[]) (by rw[mK]) (by decide)] at h;cases h;rfl
     |succ bw i=>
      intro r F b r' a f h;rw[cz] at h;cases Y:bo r with
      |none=>have:hX true r F= .more [] (cW [] F []).1 (cW [] F []).2:=dt (iY Y);rw[this] at h;cases h
      |some g=>
       by_cases c:aq g= .line
       ·obtain⟨t,rfl⟩:=wD c;rw[ub Y] at h;unfold cR at h;cases hm:N jt (λ_=>(a1 (.inl true):ae (Bool⊕Bool))) (10::t) F with
        |ok x ad e=>
         have d:x=(Sum.inl true:Bool⊕Bool):=by obtain⟨_,_,_,_,U⟩:=bY hm;cases U;rfl
         grind
        |more _ _ _=>grind
        |bad _=>grind
        |deep _=>grind
       ·rw[rH Y c] at h;cases h;rfl
    exact this _ _ _ _ _ _ (cF _) h
   grind
  |more _ _ _=>grind
  |bad _=>grind
  |deep _=>grind
 ·intro c;rw[Nt Y c] at h;cases h;exact⟨rfl,rfl,rfl⟩
theorem aaE(fr:Bool)(n:Nat){r r':H}{F:ah}(Y:bo r=some r'):nk fr n r F=nk fr n r' F:=by have a:=l1 _ _ _ (cF _) Y;unfold nk h2 fu;rw[k6];rw[aS (cu Y),aS (cu a)]
theorem aaF(fr:Bool)(n:Nat){r:H}{F:ah}(Y:bo r=none):∃nd ds,nk fr n r F= .more [] nd ds:=by unfold nk h2 fu;rw[k6];exact⟨_,_,dt (iY Y)⟩
theorem aaG(fr:Bool)(n:Nat)(F:ah):∃nd ds,nk fr n [] F= .more [] nd ds:=by
 have Y:bo []=some []:=mK;unfold nk h2 fu;rw[k6,aS (cu Y),k6];have M:cG (aq []) [33]=false:=rfl;rw[M];simp only[eQ,cA];show∃nd ds,N (N (rQ fr n) _) _ [] F=_
 have U:∃nd ds,rQ fr n [] F= .more [] nd ds:=by unfold rQ fG;rw[aS (cu Y)];exact⟨_,_,rfl⟩
 grind[dt]
theorem aaH{R:bj}{n:Nat}(hA:wK R n){e:cP}(bf:e.ne=30- (n:Int))(c:Ctx)(no:Bool)(FV:c≠ .text\/no=true):qX e (oZ (nk false n) c no) (λa r F=>((a:Int),e.st r F)) (λx=>EW R x (Da c) no):=by
 intro r F h;rw[o0];unfold EW;refine a2.lines (C:=λx=>x) c_.id h fq λb ad aH _ s1 q=>?_;dsimp only;refine a2.mono ?_ s1
 have T:∀(bw:Nat)(k:Nat)(r F),r.length<bw->k+r.length<=2000000->eb e r F->a2 e r (b8 (dS (nk false n) c no) k r F) (λa r F=>((a:Int),e.st r F)) (fixF (Ib R (Da c) no) bw ((k:Int),e.st r F)):=by
  intro bw;induction bw with
  |zero=>omega
  |succ bw V=>
   intro k r F fx av h;rw[fl,cz];generalize fixF (Ib R (Da c) no) bw=K at V;unfold Ib a7;have hW:k<2000000->W ((k:Int)+1)=((k+1:Nat):Int):=by grind[dJ]
   have X:∀g,r≠[]->g<:+r->eb e g F->a2 e r (cR (dS (nk false n) c no) r (N (nk false n) (λ_=>N (bV []) (hU c k)) g F)) (λa r F=>((a:Int),e.st r F))
     (a_ (AF R (e.st g F)) (λx=>x) λ(i:aj)=>(a_ (ow i ([59]:H)) (λx=>(x.1,x.2.1,i.2.2.1,x.2.2.2.1,i.2.2.2.2.1,x.2.2.2.2.2)) λ(sY,v)=>(nS (sY=false) (ow (v.1,v.2.1,i.2.2.1,v.2.2.2.1,i.2.2.2.2.1,v.2.2.2.2.2) ([38]:H)) (λx=>(x.1,x.2.1,i.2.2.1,x.2.2.2.1,i.2.2.2.2.1,x.2.2.2.2.2)) (false,(v.1,v.2.1,i.2.2.1,v.2.2.2.1,i.2.2.2.2.1,v.2.2.2.2.2)) λ(kM,z)=>(bif(bif sY then true else kM) then(a_ (ma (z.1,(W (z.2.1+1)),i.2.2.1,z.2.2.2.1,i.2.2.2.2.1,z.2.2.2.2.2)) (λx=>x) λ(ik,A)=>K ((W ((k:Int)+1)),A.1,A.2.1,A.2.2.1,A.2.2.2.1,A.2.2.2.2.1,A.2.2.2.2.2)) else(a_ (ma (z.1,z.2.1,i.2.2.1,z.2.2.2.1,i.2.2.2.2.1,z.2.2.2.2.2)) (λx=>x) λ(pq,d)=>(bif pq then K ((W ((k:Int)+1)),d.1,d.2.1,d.2.2.1,d.2.2.2.1,d.2.2.2.2.1,d.2.2.2.2.2) else(a_ (mG d) (λx=>(x.1,x.2.1,d.2.2.1,x.2.2.2.1,d.2.2.2.2.1,x.2.2.2.2.2)) λ(nG,B)=>(nS ((decide (nG.1=3))=false) (Ey (B.1,B.2.1,d.2.2.1,B.2.2.2.1,d.2.2.2.2.1,B.2.2.2.2.2) (Da c)) (λx=>(x.1,x.2.1,d.2.2.1,x.2.2.2.1,d.2.2.2.2.1,x.2.2.2.2.2)) (false,(B.1,B.2.1,d.2.2.1,B.2.2.2.1,d.2.2.2.2.1,B.2.2.2.2.2)) λ(hC,D)=>(bif(bif(decide (nG.1=3)) then true else(!hC)) then a_ (lC (D.1,D.2.1,d.2.2.1,D.2.2.2.1,d.2.2.2.2.1,D.2.2.2.2.2)) (λx=>(x.1,x.2.1,d.2.2.1,x.2.2.2.1,d.2.2.2.2.1,x.2.2.2.2.2)) λy=>Empty.elim y else some (.inr ((W ((k:Int)+1)),(D.1,D.2.1,d.2.2.1,D.2.2.2.1,d.2.2.2.2.1,D.2.2.2.2.2)))))))))))):=by
    intro g nh s2 Z;refine a2.iZ c_.k ((TO hA bf g F Z).mono s2) (λ_=>rfl) λ_ cB s Nu i_ fe=>?_;have Fz:=((am6 false n).sfx Nu).length_le;dsimp only;refine a2.tst c_.k (sn e [59]) fe λf A8 qe j t=>?_;dsimp only;have G:=qe.trans i_;have te:aq f≠ .eof->k<2000000:=by
     intro J;have:f≠[]:=by rintro rfl;exact J rfl
     grind[List.length_pos_iff]
    have L:∀o:H,o.length=1->(o=[59]\/o=[38])->aq f= .op o->a2 e r (cR (dS (nk false n) c no) r (hU c k (.op o) f s)) (λa r F=>((a:Int),e.st r F))
      (a_ (ma (e.S,W (ax e.S f+1),s,e.ne,e.op,e.kz)) (λx=>x) λ(ik,A)=>K ((W ((k:Int)+1)),A)):=by
     intro o aN am_ E;obtain⟨b3,cH,eX,cr⟩:=TM j E;rw[aN] at b3 cH eX cr;have Jt:W (ax e.S f+1)=ax e.S (f.drop 1):=cr;rw[Jt];unfold hU;dsimp only;rw[bc am_];show a2 e r (cR _ r (N c2 _ (f.drop 1) s)) _ _;refine a2.A7 c_.k eX (b3.trans G) λb O lK _ n9 mX=>?_;have Bb:O.length<r.length:=by grind
     rw[hW (te (by grind))];exact a2.inl Bb ((V (k+1) O lK (by omega) (by omega) mX).mono (n9.trans (b3.trans G)))
    by_cases lN:aq f= .op [59]
    ·have hb:((aq f==Tok.op [59]):Bool)=true:=by grind
     rw[hb,lN];simp only[nS,uE,cA,aL];exact L [59] rfl (.inl rfl) lN
    have hb:((aq f==Tok.op [59]):Bool)=false:=by grind
    rw[hb];refine a2.ei ?_ ((zt rfl).trans (fm ((sn e [38]).some j t)));dsimp only;by_cases P:aq f= .op [38]
    ·have oe:((aq f==Tok.op [38]):Bool)=true:=by grind
     rw[oe,P];simp only[aL,aW];exact L [38] rfl (.inr rfl) P
    have oe:((aq f==Tok.op [38]):Bool)=false:=by grind
    rw[oe];simp only[aW];by_cases ay:aq f= .line
    ·rw[ay];unfold hU;dsimp only;refine a2.A7 c_.k j G λb O lK ana n9 mX=>?_;obtain⟨anb,Bb⟩:=(am7 t ana).1 ay;subst anb;simp only[aL];have anc:O.length<r.length:=by grind
     rw[hW (te (by grind))];exact a2.inl anc ((V (k+1) O lK (by omega) (by omega) mX).mono (n9.trans G))
    have D8:=Nt (F:=s) t ay;have No:=ZP j;rw[D8] at No;refine a2.ei ?_ (fm No.2.2);dsimp only;simp only[aW];refine a2.ei ?_ (fm ((lL e).some j t));dsimp only
    have Q:∀(m:ae (Nat⊕Nat)),aq f≠ .eof->m=bP->a2 e r (cR (dS (nk false n) c no) r (m f s)) (λa r F=>((a:Int),e.st r F)) (a_ (lC (e.st f s)) (λx=>(x.1,x.2.1,s,x.2.2.2.1,e.op,x.2.2.2.2.2)) λy=>(Empty.elim y:Option (bp aj (Int×aj)))):=by rintro m J rfl;exact⟨j.sfx,_,ib ((ud j t).2 J)⟩
    cases E:aq f with
    |line=>grind
    |word w p=>simp only[jH,bA,nS,uE,cA,aL];exact Q bP (by grind) rfl
    |op o=>
     have l:(decide ((jH (Tok.op o)).1=3))=false:=rfl;refine a2.ei ?_ ((zt l).trans (fm ((Tk e c).some j t)));dsimp only;rw[l,E];simp only[aW];have aN:¬(o=[59]\/o=[38]):=by grind
     unfold hU;dsimp only;rw[aO aN];cases zw:d_ c (.op o) with
     |true=>simp only[hI,aW,cK];rw[hW (te (by grind))];exact a2.inr G j rfl
     |false=>simp only[Bool.not_false,cond_true,Bool.false_eq_true,if_false];exact Q bP (by grind) rfl
    |eof=>
     have vp:f=[]:=by
      cases f with
      |nil=>rfl
      |cons b u=>exfalso;have vr:(if b=10 then Tok.line else if bs (b::u)≠[] then .op (bs (b::u)) else .word (dc (b::u)).1 (dc (b::u)).2)=Tok.eof:=E;grind
     subst vp;have l:(decide ((jH Tok.eof).1=3))=false:=rfl;refine a2.ei ?_ ((zt l).trans (fm ((Tk e c).some j t)));dsimp only;rw[l,E,aaD];simp only[aW];have ni:k<2000000:=by grind[List.length_pos_iff]
     have pP:cR (dS (nk false n) c no) r (hU c k .eof [] s)=cR (dS (nk false n) c no) [] ((if c= .text then a1 (.inr (k+1)) else cf (if no||k+1>0 then [] else [120]):ae (Nat⊕Nat)) [] s):=by show(if([]:H).length<r.length then _ else _)=_;rw[bc (by grind),cz];congr 1;unfold dS;rw[aS (cu t),E,if_pos rfl]
     rw[pP];by_cases az:c= .text
     ·rw[if_pos az];simp only[az,decide_true,Bool.not_true,cond_false];rw[hW ni];exact⟨G,j,rfl⟩
     ·rw[if_neg az];simp only[az,decide_false,Bool.not_false,cond_true];exact(((ud j t).1 E).bind λ_=> .inr rfl).sm
   unfold dS;have Tj:(0<(k:Int))↔k>0:=by omega
   have bu:(bif no then true else decide (0<(k:Int)))=(no||decide (k>0)):=by simp
   have mW:=X;dsimp only;have aua:bo r=none->a2 e r (cR (dS (nk false n) c no) r (N (nk false n) (λ_=>N (bV []) (hU c k)) r F)) (λa r F=>((a:Int),e.st r F)) (a_ (AF R (e.st r F)) (λx=>x) λ_=>none):=by intro Y;obtain⟨nd,ds,M⟩:=aaF false n (F:=F) Y;have U:=TO hA bf r F h;have vq:h2 (fu (rQ false n)) r F= .more [] nd ds:=M;rw[vq] at U;rw[dt M];obtain⟨st,bt,aT⟩:=U;exact⟨st,ib bt,aT⟩
   have TP:∀(g:H)(I:ah)(wM:aj->Option (bp aj (Int×aj)))(x:dp (Nat⊕Nat)),eb e g I->(∃nd ds,nk false n g I= .more [] nd ds)->(∃nd ds,x= .more [] nd ds)->a2 e r (cR (dS (nk false n) c no) r x) (λa r F=>((a:Int),e.st r F)) (a_ (AF R (e.st g I)) (λx=>x) wM):=by rintro g I wM x Z ⟨nd,ds,M⟩ ⟨aub,auc,rfl⟩;have U:=TO hA bf g I Z;have vq:h2 (fu (rQ false n)) g I= .more [] nd ds:=M;rw[vq] at U;obtain⟨st,bt,aT⟩:=U;exact⟨st,ib bt,aT⟩
   have qf:∀{g:H},g<:+r->aq g≠ .eof->r≠[]:=by rintro g s2 J rfl;have:g=[]:=List.suffix_nil.1 s2;subst this;exact J rfl
   cases aud:(no||decide (k>0)) with
   |true=>
    have S:(bif no then true else decide (0<(k:Int)))=true:=by grind
    refine a2.ei ?_ (zt S);refine a2.tst c_.k (Tk e c) h λad qN s1 q i1=>?_;dsimp only;rw[S];simp only[aL,Ki];by_cases hf:aq ad= .eof
    ·rw[bc hf,hf,aaD];by_cases az:c= .text
     ·rw[bc az];simp only[az,bA,aL];exact a2.inr s1 q rfl
     ·rw[aO az];simp only[az,bG,aW];have kt:ad=[]:=by
       cases ad with
       |nil=>rfl
       |cons b u=>exfalso;have vr:(if b=10 then Tok.line else if bs (b::u)≠[] then .op (bs (b::u)) else .word (dc (b::u)).1 (dc (b::u)).2)=Tok.eof:=hf;grind
      subst kt;exact TP [] F _ _ q (aaG false n F) ⟨_,_,rfl⟩
    ·rw[aO hf];cases zw:d_ c (aq ad) with
     |true=>simp only[aL,cK];exact a2.inr s1 q rfl
     |false=>simp only[aW,eQ,cA];exact mW ad (qf s1 hf) s1 q
   |false=>
    have S:(bif no then true else decide (0<(k:Int)))=false:=by grind
    refine a2.ei ?_ (ZL (by grind));dsimp only;rw[S];simp only[aW,Bool.false_and,eQ,cA];cases Y:bo r with
    |none=>rw[dt (nd:=(cW [] F [120]).1) (ds:=(cW [] F [120]).2) (op:=[]) (by rw[iY Y];rfl)];exact TP r F _ _ h (aaF false n Y) ⟨_,_,rfl⟩
    |some ad=>
     rw[aS (cu Y)];have s1:=ef Y;by_cases hf:aq ad= .eof
     ·rw[bc hf];have kt:ad=[]:=by
       cases ad with
       |nil=>rfl
       |cons b u=>exfalso;have vr:(if b=10 then Tok.line else if bs (b::u)≠[] then .op (bs (b::u)) else .word (dc (b::u)).1 (dc (b::u)).2)=Tok.eof:=hf;grind
      subst kt
      have eK:∃nd ds,nk false n r F= .more [] nd ds:=by rw[aaE false n Y];simp[aaG]
      by_cases az:c= .text
      ·grind
      ·rw[aO az];exact TP r F _ _ h eK ⟨_,_,rfl⟩
     ·rw[aO hf];have:=mW r (qf s1 hf) fq h;have aY:N (nk false n) (λ_=>N (bV []) (hU c k)) ad F=N (nk false n) (λ_=>N (bV []) (hU c k)) r F:=by grind[aaE,N]
      rw[aY];exact this
 exact T bD 0 ad aH (mj (kB (e3 q.sfx) q.b7)) (by have:=e3 q.sfx;have:=q.b7;omega) q
theorem ane{k n:Nat}(hA:wK (lj k) n):xS (lj (k+1)) n:=⟨λe c no az bf=>by have:=aaH hA bf c no (.inl az);intro r F h;rw[aaC];exact this r F h⟩
theorem jd:∀(k n:Nat),n<=30->(2*n+1<=k->Db (lj k) n)/\(2*n+2<=k->Ji (lj k) n/\xS (lj k) n):=by
 intro k;induction k with
 |zero=>omega
 |succ k b=>
  have a:∀n,n<=30->2*n<=k->Below (lj k) n:=λn au h=>
   ⟨au,λm hm=>((b m (by omega)).2 (by omega)).1,λm hm=>((b m (by omega)).2 (by omega)).2⟩
  intro n au;refine⟨λh=>amk (a n au (by omega)),λh=>⟨aml (a n au (by omega)) ((b n au).1 (by omega)),ane λm hm=>?_⟩⟩;exact {toBelow:=a m (by omega) (by omega),u0:=(b m (by omega)).1 (by omega)}
theorem anf{S:H}(du:S.length<=1000000):a2 ⟨S,0,[],0⟩ S (f_ false 30 S) (λa r F=>((a:Int),(⟨S,0,[],0⟩:cP).st r F)) (rz.kX (S,0,[],0,[],0) 0 true):=by
 have b:eb ⟨S,0,[],0⟩ S []:=⟨du,fq,by simp,by simp⟩
 have av:∃k,bD=k+1/\62<=k:=by
  refine⟨bD-1,?_,?_⟩
  ·rw[gD]
  simp[gD]
 obtain⟨k,av,c⟩:=av;have hA:wK (lj k) 30:=by intro m hm;exact {le:=by omega,u1:=λj d=>((jd k j (by omega)).2 (by omega)).1,ls:=λj d=>((jd k j (by omega)).2 (by omega)).2,u0:=(jd k m hm).1 (by omega)}
 have:=aaH hA (e:=⟨S,0,[],0⟩) (show(0:Int)=30- ((30:Nat):Int) by decide) .text true (.inr rfl) S [] b;unfold f_;rw[aaC];have f:(⟨S,0,[],0⟩:cP).st S []=(S,0,[],0,[],0):=by show(S,ax S S,([]:ah),(0:Int),([]:bx),(0:Int))=_;rw[Ja]
 rw[f] at this;have g:rz.kX (S,0,[],0,[],0) 0 true=EW (lj k) (S,0,[],0,[],0) 0 true:=by unfold rz;rw[av];rfl
 rw[g];exact this
def c8(s:H):H:=if s.getLast?=some 10 then s else s++[10]
theorem anh(s:H)(Y:s.length<=1000000):MM s [10]=some (decide (s.getLast?=some 10)):=by
 unfold MM;rcases List.eq_nil_or_concat s with rfl|⟨t,b,rfl⟩
 ·decide
 ·rw[List.concat_eq_append] at*;have ay:(t++[b]).length=t.length+1:=by simp
  have a:W (((t++[b]).length:Int)- (([10]:H).length:Int))=(t.length:Int):=by grind[dJ,List.length_singleton]
  simp only[a];have c:b4 (t++[b]) (t.length:Int) ((t++[b]).length:Int)=[b]:=by simp[b4]
  rw[c,b1 (by omega)];have M:(([10]:H).length:Int)<=((t++[b]).length:Int):=by grind
  simp_all
theorem ani(s:H)(Y:s.length<=1000000):(((s.length+([10]:H).length:Nat):Int)<=9223372036854775807):=by grind
theorem aaL(s:H)(Y:s.length<=1000000):a4 (((s.length+([10]:H).length:Nat):Int)<=9223372036854775807) (some (s++[10]))=some (s++[10]):=by exact bc (ani s Y)
theorem anj(s:H)(Y:s.length<=1000000)(b:Bool):(aw (aw (some b) λ(a:Bool)=>some a) λ(c:Bool)=>
 (bif c then
 some s
 else
 (a4 (((s.length+([10]:H).length:Nat):Int)<=9223372036854775807)<|
 some (s++([10]:H)))))=some (bif b then s else s++[10]):=by
 cases b with
 |true=>rfl
 |false=>exact(aR (aR rfl)).trans ((aW _ _).trans (aaL s Y))
theorem Ny(s:H)(Y:s.length<=1000000):CS s=some (c8 s):=by unfold CS Su;rw[anh s Y,anj s Y];simp[c8,bc,decide_eq_true,aO,eE]
theorem ank(s:H)(Y:(c8 s).length<=1000000):match f_ false 30 (c8 s) with
  | .ok a _ _=>CW s=some (((0:Int),((c8 s).length:Int)),([]:bx),(a:Int))
  | .more op _ _=>CW s=some (((1:Int),((c8 s).length:Int)),op,(0:Int))
  | .bad r=>r<:+c8 s/\∃op,CW s=some (((2:Int),ax (c8 s) r),op,(0:Int))
  | .deep _=>True:=by
 have ay:s.length<=(c8 s).length:=by grind[c8]
 have h:=anf Y;unfold CW;rw[Ny s (by omega),aR rfl];cases aE:f_ false 30 (c8 s) with
 |ok a r F=>rw[aE] at h;obtain⟨M,U,b⟩:=h;simp only;rw[b];rfl
 |more op nd ds=>rw[aE] at h;obtain⟨st,M,U⟩:=h;grind
 |bad r=>rw[aE] at h;obtain⟨M,st,U⟩:=h;grind
 |deep q=>trivial
end Go.Eng
namespace Go.Eng
def eC(F:ah):Nat:=(mh F).length
theorem aaM:∀(a b:ah),mh (a++b)=mh a++mh b
 |[],b=>rfl
 |d::a,b=>by simp[mh,aaM]
theorem aaN(a b:ah):eC (a++b)=eC a+eC b:=by simp[eC,aaM]
theorem Bc:∀(x nd:H)(ds:ah),(cW nd ds x).1.length+eC (cW nd ds x).2=nd.length+eC ds+x.length
 |[],nd,ds=>rfl
 |b::x,nd,ds=>by
  unfold cW;split
  ·rw[Bc x];grind[List.length_append,List.length_cons,eC,mh,List.length_nil]
  ·rw[Bc x];simp only[m3,j5,w8];omega
def ep(c:Nat){α:Type}(r:H)(F:ah):dp α->Prop
 | .ok _ r' a=>eC a+100*r'.length<=eC F+100*r.length
 | .more _ nd ds=>nd.length+eC ds<=eC F+100*r.length+c
 | .bad _=>True
 | .deep _=>True
def aJ(c:Nat){α:Type}(f:ae α):Prop:=∀r F,ep c r F (f r F)
section
theorem aJ.mono{α:Type}{c b:Nat}{f:ae α}(h:aJ c f)(az:c<=b):aJ b f:=by
 intro r F;have:=h r F;cases hm:f r F with
 |more op nd ds=>grind[ep]
 |ok a ad d=>rw[hm] at this;exact this
 |bad _=>trivial
 |deep _=>trivial
theorem aJ.N{α β:Type}{c:Nat}{m:ae α}{k:α->ae β}(hm:aJ c m)(av:∀a,aJ c (k a)):aJ c (Go.Eng.N m k):=by
 intro r F;unfold Go.Eng.N;have:=hm r F;cases h:m r F with
 |ok a ad b=>rw[h] at this;simp only[ep] at this⊢;have U:=av a ad b;grind[ep]
 |more op nd ds=>rw[h] at this;exact this
 |bad _=>trivial
 |deep _=>trivial
theorem aJ.aM{α:Type}{c:Nat}{m:ae α}(h:aJ c m)(x:H):aJ (c+x.length) (m.aM x):=by
 intro r F;unfold ae.aM;have:=h r F;cases hm:m r F with
 |more op nd ds=>grind[ep,Bc]
 |ok a ad b=>rw[hm] at this;exact this
 |bad _=>trivial
 |deep _=>trivial
theorem aJ.named{α:Type}{c:Nat}{m:ae α}(h:aJ c m)(x:H):aJ c (m.named x):=by
 intro r F;unfold ae.named;have:=h r F;cases hm:m r F with
 |more op nd ds=>rw[hm] at this;exact this
 |ok a ad b=>grind
 |bad _=>trivial
 |deep _=>trivial
theorem aJ.cf{α:Type}{c:Nat}{x:H}(h:x.length<=c):aJ c (Go.Eng.cf x:ae α):=by intro r F;grind[Go.Eng.cf,ep,Bc,List.length_nil]
theorem aJ.bP{α:Type}{c:Nat}:aJ c (Go.Eng.bP:ae α):=λr F=>trivial
theorem aJ.ret{α:Type}{c:Nat}(a:α):aJ c (a1 a):=λr F=>cF _
theorem aJ.ite{α:Type}{c:Nat}{p:Prop}[Decidable p]{f g:ae α}(hf:aJ c f)(bu:aJ c g):aJ c (if p then f else g):=by grind
theorem aJ.iE{c:Nat}{f:ae Unit}(hf:∀r F,match f r F with| .ok _ r' b=>r'.length<=r.length/\b=F| .more _ nd ds=>nd.length<=c/\ds=F|_=>True):aJ c f:=by
 intro r F;have:=hf r F;cases hm:f r F with
 |ok a ad d=>rw[hm] at this;obtain⟨M,rfl⟩:=this;grind[ep]
 |more op nd ds=>rw[hm] at this;obtain⟨M,rfl⟩:=this;grind[ep]
 |bad _=>trivial
 |deep _=>trivial
theorem aJ.dA{c:Nat}(k:Nat):aJ c (b6 k):=aJ.iE λr F=>⟨by simp,rfl⟩
theorem aJ.dR{c:Nat}{x:H}(h:x.length<=c):aJ c (bV x):=by
 intro r F;cases Y:bo r with
 |none=>rw[iY Y];exact aJ.cf (α:=Tok) h r F
 |some r'=>rw[cu Y];have:=(ef Y).length_le;grind[ep]
theorem aJ.rep{σ α:Type}{c:Nat}{f:σ->ae (σ⊕α)}(hf:∀s,aJ c (f s))(s:σ):aJ c (b8 f s):=by
 have d:∀(bw:Nat)(s:σ)(r:H)(F:ah),r.length<=bw->ep c r F (b8 f s r F):=by
  intro bw;induction bw with
  |zero=>
   intro s r F g;rw[cz];have:=hf s r F;unfold cR;cases hm:f s r F with
   |ok x ad e=>
    rw[hm] at this;cases x with
    |inl s'=>simp only;rw[aO (by omega)];trivial
    |inr a=>exact this
   |more _ _ _=>rw[hm] at this;exact this
   |bad _=>trivial
   |deep _=>trivial
  |succ bw h=>
   intro s r F g;rw[cz];have:=hf s r F;unfold cR;cases hm:f s r F with
   |ok x ad e=>
    rw[hm] at this;cases x with
    |inl s'=>
     simp only[ep] at this;simp only;split
     ·have U:=h s' ad e (by omega);cases i:b8 f s' ad e with
      |ok b j k=>grind[ep]
      |more op nd ds=>grind[ep]
      |bad _=>trivial
      |deep _=>trivial
     ·trivial
    |inr a=>exact this
   |more _ _ _=>rw[hm] at this;exact this
   |bad _=>trivial
   |deep _=>trivial
 exactλr F=>d _ s r F (cF _)
theorem aJ.exp{c:Nat}(b:Tok->Bool)(k:Nat):aJ c (nJ b k):=(aJ.dR (by simp)).N λt=>aJ.ite (aJ.cf (by simp)) (aJ.ite (aJ.dA _) aJ.bP)
theorem aJ.j1{c:Nat}(o:H):aJ c (Go.Eng.j1 o):=aJ.exp _ _
theorem aJ.cS{c:Nat}(o:H):aJ c (Go.Eng.cS o):=aJ.exp _ _
theorem TQ:∀(F:ah)(t nd:H),ks F t= .inr nd->nd.length<=eC F
 |[],t,nd,h=>by cases h
 |d::ds,t,nd,h=>by
  unfold ks at h;split at h
  ·have:=TQ ds _ nd h;grind[eC,mh,List.length_append,List.length_cons]
  ·cases h;exact cF _
theorem aJ.nl{c:Nat}:aJ c jt:=by
 intro r F;cases r with
 |nil=>exact cF _
 |cons b t=>
  unfold jt;simp only;cases a:ks F t with
  |inl r'=>have:=((vl F t [] r' a).1).length_le;grind[ep,eC,mh,List.length_nil,List.length_cons]
  |inr nd=>have:=TQ F t nd a;grind[ep,eC,mh,List.length_nil]
theorem aJ.lines{c:Nat}:aJ c c2:=aJ.rep (λ_=>(aJ.dR (by simp)).N λt=>aJ.ite (aJ.nl.N λ_=>aJ.ret _) (aJ.ret _)) _
theorem aJ.part{D:ae Unit}(hD:aJ 10 D){dq:Option (ae Unit)}(d:∀q,dq=some q->aJ 50 q):aJ 11 (cJ D dq):=by
 intro r F;cases r with
 |nil=>exact cF _
 |cons b t=>
  have e:∀(f:H->Option H)(x:UInt8),(∀r q,f r=some q->q.length<=r.length)->ep 11 (b::t) F (jS f [x] t F):=by grind[jS,ep,List.length_cons,List.length_nil]
  unfold cJ;simp only;split
  ·grind[ep,List.length_drop,List.length_cons]
  ·split
   ·exact e _ _ λr q g=>(c r q g)
   ·split
    ·exact hD.mono (by decide) _ _
    ·cases dq with
     |none=>grind[ep,List.length_cons]
     |some q=>
      simp only;split
      ·grind[Nat.le_of_lt,zl]
      ·split
       ·have:=d q rfl t F;cases hm:q t F with
        |ok a ad i=>grind[ep,List.length_cons]
        |more op nd ds=>grind[ep,List.length_cons]
        |bad _=>trivial
        |deep _=>trivial
       grind[ep,List.length_cons]
where
 c:∀(r q:H),hE r=some q->q.length<=r.length:=by
  intro r q h
  have:∀(n:Nat)(r q:H),r.length<=n->hE r=some q->q.length<=r.length:=by
   intro n;induction n with
   |zero=>simp_all[m4,Nat.le_zero,hE]
   |succ n j=>
    intro r q au h;cases r with
    |nil=>grind
    |cons b t=>unfold hE at h;grind
  exact this _ r q (cF _) h
theorem aJ.C6{p:ae Unit}{n:Nat}(aE:aJ n p)(c:UInt8):aJ n (jD c p):=by
 refine aJ.rep (λ_=>?_) _;intro r F;cases r with
 |nil=>exact aJ.cf (α:=Unit⊕Unit) (by simp) [] F
 |cons b t=>
  simp only;split
  ·grind[ep,List.length_cons]
  ·exact(aE.N (λ_=>aJ.ret _)) _ _
end
theorem ep.mono{c:Nat}{α:Type}{r0 r:H}{b F:ah}{x:dp α}(h:ep c r F x)(M:eC F+100*r.length<=eC b+100*r0.length):ep c r0 b x:=by
 cases x with
 |ok a ad d=>grind[ep]
 |more op nd ds=>grind[ep]
 |bad _=>trivial
 |deep _=>trivial
theorem ep.qp{c b:Nat}{α:Type}{r:H}{F:ah}{x:dp α}(h:ep c r F x)(M:c<=b):ep b r F x:=by
 cases x with
 |ok a ad d=>exact h
 |more op nd ds=>grind[ep]
 |bad _=>trivial
 |deep _=>trivial
theorem ep.less{c b k:Nat}{α:Type}{r0 r:H}{F:ah}{x:dp α}(h:ep c r F x)(ay:r.length+k<=r0.length)(az:c<=b+100*k):ep b r0 F x:=by
 cases x with
 |ok a ad d=>grind[ep]
 |more op nd ds=>grind[ep]
 |bad _=>trivial
 |deep _=>trivial
theorem ep.N{c:Nat}{α β:Type}{m:ae α}{k:α->ae β}{r v:H}{F:ah}(h:ep c r F (m v F))(av:∀a,aJ c (k a)):ep c r F (Go.Eng.N m k v F):=by
 unfold Go.Eng.N;cases hm:m v F with
 |ok a ad b=>rw[hm] at h;have:=av a ad b;exact this.mono (by grind[ep])
 |more op nd ds=>rw[hm] at h;exact h
 |bad _=>trivial
 |deep _=>trivial
theorem aJ.TR{c a:Nat}{α:Type}{k:Nat}{f:ae α}(hf:aJ c f){r:H}{F:ah}(ay:k<=r.length)(az:c<=a+100*k):ep a r F (Go.Eng.N (b6 k) (λ_=>f) r F):=
 (hf (r.drop k) F).less (by grind) az
section
variable{D:ae Unit}(hD:aJ 10 D)
include hD
theorem aJ.double:aJ 50 (e2 D):=((((aJ.C6 (n:=11) (aJ.part hD (dq:=none) (λq h=>by cases h)) 34)).aM [34]).named [34]).mono (by decide)
theorem aJ.zp:aJ 11 (cJ D (some (e2 D))):=aJ.part hD λq h=>by grind[aJ.double]
theorem aJ.param:aJ 12 (rA D):=(aJ.C6 (aJ.zp hD) 125).aM [125]
theorem aJ.cX:aJ 11 (Go.Eng.cX D):=by
 refine aJ.rep (λ_=>?_) _;intro r F;cases r with
 |nil=>exact aJ.cf (α:=Unit⊕Unit) (by simp) [] F
 |cons b t=>
  simp only;split
  ·exact cF _
  ·exact((aJ.zp hD).N (λ_=>aJ.ret _)) _ _
theorem aJ.ke{x:H}(a:x.length<=11):aJ 11 (Go.Eng.ke D x):=(aJ.dR a).N λt=>by grind[aJ.cf,aJ.cX,aJ.bP]
omit hD in
theorem anm{r:H}{x:H×H×H}(h:df r=some x):x.1.length+x.2.1.length<=r.length+1/\x.2.2.length<=1:=by
 have Y:=Z4 _ r (cF _);cases az:gH r with
 |none=>grind
 |some y=>
  obtain⟨q,b⟩:=y;rw[az] at Y;obtain⟨w,c,aD⟩:=Y;rw[h] at aD;have e:=Z7 _ _ _ az;cases a:dl (w++b) 0 with
  |none=>grind
  |some d=>rw[a] at aD;cases aD;have:=ZF _ _ (cF _) 0 d a;grind
omit hD in
theorem aJ.s7{tabs:Bool}{r0 v:H}{F:ah}(ay:v.length+1<=r0.length):ep 10 r0 F (gS tabs v F):=by
 have a:∀d:H,eC (F++[(d,tabs)])=eC F+d.length+1:=by intro d;rw[aaN];grind[eC,mh]
 have M:ep 10 r0 F (.more [] [120] (F++[([120],tabs)]):dp Unit):=by grind[ep,List.length_cons,List.length_nil]
 unfold gS;cases Y:bo v with
 |none=>exact M
 |some r'=>
  have b:=(ef Y).length_le;simp only;cases c:aq r' with
  |eof=>exact M
  |line=>trivial
  |op o=>trivial
  |word w p=>
   simp only;cases aD:df r' with
   |none=>trivial
   |some x=>obtain⟨d,q,e⟩:=x;obtain⟨f,g⟩:=anm aD;have h:=(MU _ _ _ (cF _) aD).length_le;grind[ep,List.length_nil]
theorem aJ.jF:aJ 11 (dz D):=by
 intro r F;unfold dz;cases Y:bo r with
 |none=>
  have:fL r F=Go.Eng.cf [] r F:=by grind[fL]
  rw[dt (nd:=(cW [] F []).1) (ds:=(cW [] F []).2) (op:=[]) this];exact aJ.cf (α:=Bool) (x:=[]) (by simp) r F
 |some r'=>
  have e:=(ef Y).length_le;have f:(r'.dropWhile ch).length<=r'.length:=(C1).length_le;by_cases d:ff (bs (r'.dropWhile ch))=true
  ·have a:fL r F= .ok (some (bs (r'.dropWhile ch))) ((r'.dropWhile ch).drop (bs (r'.dropWhile ch)).length) F:=by simp_all[fL,bc]
   rw[aS a];have M:=Ty d;have U:=SI (r:=r'.dropWhile ch);generalize r'.dropWhile ch=q at*;have ay:(q.drop (bs q).length).length+1<=r.length:=by grind
   generalize q.drop (bs q).length=v at*;simp only;refine ep.N ?_ λ_=>aJ.ret _;by_cases b:bs q=[60,60]
   ·rw[bc b];exact(aJ.s7 (tabs:=false) (F:=F) ay).qp (by decide)
   ·rw[aO b];by_cases c:bs q=[60,60,45]
    ·rw[bc c];exact(aJ.s7 (tabs:=true) (F:=F) ay).qp (by decide)
    ·rw[aO c];exact(aJ.ke hD (by decide) v F).less ay (by decide)
  ·have a:fL r F= .ok none r' F:=by simp_all[fL,aO]
   rw[aS a];show eC F+100*r'.length<=eC F+100*r.length;omega
theorem aJ.nc:aJ 11 (g7 D):=aJ.rep (λ_=>(aJ.jF hD).N λb=>aJ.ret _) _
theorem aJ.simple(fr:Bool):aJ 11 (g8 fr D):=aJ.rep (λ_=>(aJ.jF hD).N λb=>aJ.ite (aJ.ret _) ((aJ.dR (by simp)).N λt=>by
 cases t with
 |word _ _=>grind[aJ.cX,aJ.N,aJ.ret]
 |op o=>simp[aJ.ite,aJ.bP,aJ.ret]
 |_=>simp[aJ.ret])) _
end
theorem aJ.Nz{c:Nat}(x:H)(h:x.length<=c):aJ c (c2.aM x):=((aJ.lines (c:=0)).aM x).mono (by omega)
theorem aJ.pipe{dm:ae Unit}(h:aJ 50 dm):aJ 50 (fu dm):=(aJ.dR (by decide)).N λt=>(aJ.ite (aJ.dA _) (aJ.ret _)).N λ_=>h.N λ_=>
 aJ.rep (λ_=>(aJ.dR (by simp)).N λt=>aJ.ite ((aJ.dA _).N λ_=>(aJ.Nz _ (by decide)).N λ_=>h.N λ_=>aJ.ret _) (aJ.ret _)) _
theorem aJ.qc{a:ae Unit}(h:aJ 50 a):aJ 50 (h2 a):=h.N λ_=>
 aJ.rep (λ_=>(aJ.dR (by simp)).N λt=>aJ.ite ((aJ.dA _).N λ_=>(aJ.Nz _ (by decide)).N λ_=>h.N λ_=>aJ.ret _) (aJ.ret _)) _
theorem aJ.list{ao:ae Unit}(h:aJ 50 ao)(c:Ctx)(no:Bool):aJ 50 (oZ ao c no):=(aJ.Nz _ (by grind)).N λ_=>aJ.rep (λk=>(aJ.dR (by grind)).N λt=>
 aJ.ite (aJ.ite (aJ.ret _) (aJ.cf (by grind))) (aJ.ite (aJ.ret _) (h.N λ_=>(aJ.dR (by simp)).N λt=>by
  cases t with
  |eof=>simp[aJ.ret]
  |line=>exact aJ.lines.N λ_=>aJ.ret _
  |word _ _=>exact aJ.bP
  |op o=>exact aJ.ite ((aJ.dA _).N λ_=>aJ.lines.N λ_=>aJ.ret _) (aJ.ite (aJ.ret _) aJ.bP)))) _
structure zB(l:ea):Prop where
 ls:∀c no,aJ 50 (l.ls c no)
 pm:aJ 12 l.pm
 cp:∀r F,gg (aq r)=true->ep 50 r F (l.cp (aq r) r F)
 rd:aJ 11 l.rd
 dl:aJ 10 l.dl
section
variable{l:ea}(ay:zB l)
include ay
theorem aJ.body{x:H}(a:x.length<=60):aJ 60 (ji l x):=(((aJ.cS (c:=0) hp).aM x).mono (by omega)).N λ_=>(((ay.ls _ _).aM _).mono (by decide)).N λ_=>aJ.cS _
theorem aJ.cond:aJ 70 (rC l):=aJ.rep (λ_=>(((ay.ls _ _).aM _).mono (by decide)).N λ_=>(aJ.cS _).N λ_=>(((ay.ls _ _).aM _).mono (by decide)).N λ_=>(aJ.dR (by simp)).N λt=>
 aJ.ite ((aJ.cS _).N λ_=>aJ.ret _) (aJ.ite ((aJ.cS _).N λ_=>(((ay.ls _ _).aM _).mono (by decide)).N λ_=>(aJ.cS _).N λ_=>aJ.ret _) ((aJ.cS _).N λ_=>aJ.ret _))) _
theorem aJ.words:aJ 11 (qa l.dl):=aJ.rep (λ_=>(aJ.dR (by simp)).N λt=>by
 cases t with
 |eof=>simp[aJ.cf]
 |word _ _=>exact(aJ.cX ay.dl).N λ_=>aJ.ret _
 |line=>simp[aJ.ret]
 |op o=>simp[aJ.ite,aJ.dA,aJ.N,aJ.ret,aJ.bP]) _
theorem aJ.for_:aJ 60 (qb l l.dl):=(aJ.dR (by decide)).N λt=>by
 cases t with
 |eof=>exact aJ.cf (by decide)
 |word w p=>
  cases p with
  |true=>
   refine aJ.ite ((aJ.dA _).N λ_=>((aJ.aM (c:=11) ((aJ.dR (by simp)).N λt=>?_) eB).mono (by decide)).N λ_=>aJ.body ay (by decide)) aJ.bP
   exact aJ.ite ((aJ.dA _).N λ_=>aJ.lines.N λ_=>aJ.ret _) (aJ.lines.N λ_=>(aJ.dR (by simp)).N λt=>
    aJ.ite ((aJ.dA _).N λ_=>(aJ.words ay).N λ_=>aJ.lines.N λ_=>aJ.ret _) (aJ.ret _))
  |false=>exact aJ.bP
 |_=>exact aJ.bP
theorem aJ.xK:aJ 12 (lJ l.dl):=aJ.rep (λ_=>(aJ.dR (by decide)).N λt=>by
 cases t with
 |eof=>simp[aJ.cf]
 |word _ _=>
  refine((aJ.cX ay.dl).aM [41]).N λ_=>(aJ.dR (by decide)).N λt=>?_;cases t with
  |op o=>exact aJ.ite ((aJ.dA _).N λ_=>aJ.ret _) (aJ.ite ((aJ.dA _).N λ_=>aJ.ret _) aJ.bP)
  |eof=>simp[aJ.cf]
  |_=>exact aJ.bP
 |_=>exact aJ.bP) _
theorem aJ.items:aJ 50 (n4 l l.dl):=aJ.rep (λ_=>aJ.lines.N λ_=>(aJ.dR (by simp)).N λt=>aJ.ite (aJ.cf (by simp)) (aJ.ite ((aJ.dA _).N λ_=>aJ.ret _)
 ((aJ.ite (aJ.dA _) (aJ.ret _)).N λ_=>((aJ.xK ay).mono (by decide)).N λ_=>(ay.ls _ _).N λ_=>(aJ.dR (by simp)).N λt=>aJ.ite ((aJ.dA _).N λ_=>aJ.ret _) (aJ.ret _)))) _
theorem aJ.xL:aJ 60 (rD l l.dl):=(aJ.dR (by decide)).N λt=>by
 cases t with
 |eof=>exact aJ.cf (by decide)
 |word _ _=>refine((aJ.aM (c:=11) ((aJ.cX ay.dl).N λ_=>aJ.lines.N λ_=>(aJ.dR (by simp)).N λt=>aJ.ite (aJ.cf (by simp)) (aJ.ret _)) ([32]++fK++[10]++eH)).mono (by decide)).N λt=>?_;exact aJ.ite ((aJ.dA _).N λ_=>((aJ.items ay).aM _).mono (by decide)) aJ.bP
 |_=>exact aJ.bP
theorem ep.kind{r:H}{F:ah}(az:gg (aq r)=true):ep 50 r F (gK l (aq r) r F):=by
 obtain⟨c,d⟩:=aas az;have e:(lX (aq r)).length<=r.length:=by
  cases a:aq r with
  |eof=>rw[a] at az;cases az
  |line=>rw[a] at az;cases az
  |op o=>
   have:=(h4 a).2.1.length_le;rw[a] at az;have b:o=[40]:=by grind[gg]
   subst b;exact this
  |word w p=>
   rw[a] at az;cases p with
   |false=>cases az
   |true=>exact(qQ a).1.length_le
 rw[aat az];have av:aJ 70 (Di l (aq r)):=by
  unfold Di;cases a:aq r with
  |op o=>exact(((ay.ls _ _).aM _).mono (by decide)).N λ_=>aJ.j1 _
  |word w p=>refine aJ.ite ((((ay.ls _ _).aM _).mono (by decide)).N λ_=>aJ.cS _) (aJ.ite (aJ.cond ay) (aJ.ite ((aJ.for_ ay).mono (by decide)) (aJ.ite ((aJ.xL ay).mono (by decide)) ?_)));exact(((ay.ls _ _).aM _).mono (by decide)).N λ_=>(aJ.body ay (by decide)).mono (by decide)
  |_=>exact aJ.bP
 exact(av _ F).less (k:=1) (by grind) (by decide)
end
theorem aJ.TS:∀(t:H)(d n:Nat),iu d t= .more n->n<=d+t.length+2
 |[],d,n,h=>by grind[iu]
 |b::t,d,n,h=>by have a:=aJ.TS t;unfold iu at h;grind
theorem aJ.ua{lo:Option ea}(ay:∀l,lo=some l->zB l):aJ 10 (dG lo):=by
 intro r F;unfold dG;split
 ·rename_i h;rw[DP] at h;obtain⟨t,rfl⟩:=h;show ep 10 _ F (n3 t F);unfold n3;cases Y:iu 0 t with
  |ok q=>have:=(AZ 0 t q Y).length_le;grind[ep,List.length_append]
  |more n=>have:=aJ.TS t 0 n Y;grind[ep,List.length_append,List.length_replicate,List.length_cons,List.length_nil]
  |bad q=>trivial
 ·split
  ·rename_i h;rw[DP] at h;have U:=h.length_le;cases lo with
   |none=>trivial
   |some l=>have a:=ay l rfl;have aE:aJ 60 (vk l):=((((a.ls _ _).aM _).mono (by decide)).named _).N λ_=>aJ.j1 _;exact aJ.TR aE (k:=2) (by omega) (by decide)
  ·split
   ·rename_i h;rw[DP] at h;have U:=h.length_le;cases lo with
    |none=>trivial
    |some l=>exact aJ.TR ((ay l rfl).pm.named _) (k:=2) (by omega) (by decide)
   grind[ep,List.length_drop]
theorem aJ.function{fr:Bool}{lo:Option ea}(ay:∀l,lo=some l->zB l){u:H}{F:ah}:ep 50 (40::u) F (lk fr lo (40::u) F):=by
 unfold lk;cases lo with
 |none=>trivial
 |some l=>
  have b:=ay l rfl;dsimp only;split
  ·have au:∀{α:Type}{c:Nat}{m:ae α}{r:H}{F:ah}{x:H},ep c r F (m r F)->ep c r F (m.named x r F):=by
    intro α c m r F x h;unfold ae.named;cases hm:m r F with
    |more op nd ds=>rw[hm] at h;exact h
    |ok a ad d=>grind
    |bad _=>trivial
    |deep _=>trivial
   refine au ?_;refine aJ.TR (c:=60) (k:=1) ?_ (by simp) (by decide);refine(aJ.dR (by decide)).N λt=>aJ.ite (aJ.cf (by decide)) (aJ.ite ((aJ.dA _).N λ_=>(aJ.Nz _ (by decide)).N λ_=>?_) aJ.bP);intro r F;cases Y:bo r with
   |none=>rw[dt (iY Y)];exact aJ.cf (α:=Unit) (by decide) r F
   |some r'=>
    rw[aS (cu Y)];have e:=(ef Y).length_le;refine ep.mono (r:=r') (F:=F) ?_ (by omega);split
    ·exact aJ.cf (α:=Unit) (by decide) _ _
    ·split
     ·rename_i az;exact(ep.N ((b.cp r' F az).qp (by decide)) λ_=>aJ.ite (b.rd.mono (by decide)) (aJ.ret _))
     ·trivial
  ·trivial
theorem aJ.command{fr:Bool}{lo:Option ea}(ay:∀l,lo=some l->zB l):aJ 50 (fG fr lo (dG lo)):=by
 have hD:=aJ.ua ay;intro r F;unfold fG;cases Y:bo r with
 |none=>rw[dt (iY Y)];exact aJ.cf (α:=Unit) (by decide) r F
 |some r'=>
  rw[aS (cu Y)];have e:=(ef Y).length_le;refine ep.mono (r:=r') (F:=F) ?_ (by omega);by_cases M:aq r'= .eof
  ·rw[bc M];exact aJ.cf (α:=Unit) (by decide) _ _
  rw[aO M];by_cases az:gg (aq r')=true
  ·rw[bc az];refine ep.N ?_ λ_=>(aJ.nc hD).mono (by decide);cases lo with
   |none=>trivial
   |some l=>
    have:=ep.kind (ay l rfl) az (r:=r') (F:=F);show ep 50 r' F ((gK l (aq r')).named _ r' F);unfold ae.named;cases hm:gK l (aq r') r' F with
    |more op nd ds=>rw[hm] at this;exact this
    |ok a ad f=>grind
    |bad _=>trivial
    |deep _=>trivial
  ·rw[aO az];cases g:aq r' with
   |eof=>grind
   |line=>trivial
   |op o=>exact aJ.ite (((aJ.jF hD).mono (by decide)).N λ_=>(aJ.simple hD fr).mono (by decide)) aJ.bP _ _
   |word w p=>
    refine aJ.ite aJ.bP (((aJ.jF hD).mono (by decide)).N λb=>aJ.ite ((aJ.simple hD fr).mono (by decide)) (((aJ.cX hD).mono (by decide)).N λ_=>aJ.ite ?_ ((aJ.simple hD fr).mono (by decide)))) _ _;intro r F;cases Y:bo r with
    |none=>rw[dt (iY Y)];exact aJ.cf (α:=Unit) (by decide) r F
    |some d=>
     rw[aS (cu Y)];have e:=(ef Y).length_le;refine ep.mono (r:=d) (F:=F) ?_ (by omega);by_cases c:aq d= .op [40]
     ·rw[bc c];obtain⟨u,rfl⟩:=(h4 c).2.1;exact ep.N (aJ.function ay) λ_=>aJ.ite (aJ.ret _) ((aJ.nc hD).mono (by decide))
     ·rw[aO c];exact(aJ.simple hD fr).mono (by decide) _ _
theorem aaO{fr:Bool}{lo:Option ea}(ay:∀l,lo=some l->zB l)(b:Bool):zB {ls:=oZ (h2 (fu (fG fr lo (dG lo)))),pm:=rA (dG lo),cp:=s4 lo,rd:=g7 (dG lo),dl:=dG lo,has:=b}:=by
 have hD:=aJ.ua ay;refine⟨λc no=>aJ.list (aJ.qc (aJ.pipe (aJ.command ay))) c no,aJ.param hD,λr F az=>?_,aJ.nc hD,hD⟩;cases lo with
 |none=>trivial
 |some l=>
  have:=ep.kind (ay l rfl) az (r:=r) (F:=F);show ep 50 r F ((gK l (aq r)).named _ r F);unfold ae.named;cases hm:gK l (aq r) r F with
  |more op nd ds=>rw[hm] at this;exact this
  |ok a ad d=>grind
  |bad _=>trivial
  |deep _=>trivial
theorem um(fr:Bool):∀n,zB (aU fr n)
 |0=>aaO (λl h=>by cases h) false
 |n+1=>aaO (λl h=>by cases h;exact um fr n) true
end Go.Eng
namespace Go.Eng
open Go Go.Proofs
theorem NA{S r:H}(a:r<:+S):Cy (ax S r) S.length=some (ax S r):=by grind[Cy,ax,e3,pz]
theorem ann{S:H}(du:S.length<=1000000):∀(n:Nat)(r:H),r.length<n->r<:+S->fixF (Mr S λ_=>some (-1)) n (ax S r)=some (lM S (gw r)):=by
 intro n;induction n with
 |zero=>omega
 |succ n c=>
  intro r au a;rw[fl];generalize fixF (Mr S _) n=k at c;unfold Mr;cases r with
  |nil=>simp[iO,gw,lM]
  |cons b t=>
   have d:=jj du a;simp only[nN a,bA,aL];rw[b1 ⟨(iy a).1,trivial⟩];simp only[j2 a,d,rM];unfold gw;by_cases e:b=39
   ·grind[lM]
   ·simp only[e,bG,aW,cA];grind[List.length_cons,eo]
theorem ano{S r:H}(du:S.length<=1000000)(a:r<:+S):E6 S (ax S r)=some (lM S (gw r)):=by unfold E6 a7;rw[NA a,aR rfl];grind[ann,mj,Nat.le_trans,e3]
theorem anp{S:H}(du:S.length<=1000000):∀(n:Nat)(r:H),r.length+1<n->r<:+S->fixF (E4 S λ_=>some (-1)) n (ax S r)=some (lM S (hE r)):=by
 intro n;induction n with
 |zero=>omega
 |succ n f=>
  intro r au a;have i:=e3 a;have d:n≠0->fixF (E4 S λ_=>some (-1)) n ((S.length:Int)+1)=some (-1):=by
   intro h0
   obtain⟨m,rfl⟩:∃m,n=m+1:=⟨n-1,by omega⟩
   grind[fl,E4]
  rw[fl];generalize fixF (E4 S _) n=k at f d;unfold E4 a7;cases r with
  |nil=>simp[iO,hE,lM]
  |cons b t=>
   have g:=jj du a;have j:(b::t).length=t.length+1:=rfl;simp only[nN a,bA,aL];rw[b1 ⟨(iy a).1,trivial⟩];simp only[j2 a,g,oF,ng];unfold hE;by_cases h:b=96
   ·grind[lM]
   simp only[h,bG,aW,cA];rw[b1 ⟨(iy a).1,trivial⟩];by_cases e:b=92
   ·subst e;simp only[bA,aL,cK];cases t with
    |nil=>
     have:W (ax S []+1)=(S.length:Int)+1:=by grind[iO,dJ]
     rw[this];exact d (by omega)
    |cons c u=>grind[jj,eo,List.length_cons]
   ·simp only[e,bG,aW,cA];grind[eo]
theorem anq{S r:H}(du:S.length<=1000000)(a:r<:+S):CC S (ax S r)=some (lM S (hE r)):=by unfold CC a7;rw[NA a,aR rfl];grind[anp,e3,gD]
theorem anr(l:H)(ay:(l.length:Int)<=1048576)(a g:Int->Option (Int×Int))(y:∀d,a d=g d)(z:∀d,∃v,g d=some v):∀(m:Nat)(d k:Int),0<=d->d<=k->k<=2000000->(l.length:Int)-k<m->0<m->
  ∃v,fixF (Sm l a) m (d,k)=some v/\fixF (EC l g) m (d,k)=some v:=by
 intro m;induction m with
 |zero=>omega
 |succ m i=>
  intro d k aD j A hm _;have av:0<=k:=by omega
  simp only[fixF,Sm,EC,a4,a7];by_cases M:k<(l.length:Int)
  ·simp only[M,av,bA,aL,cK,oc];rw[dJ (x:=k+1) (by omega) (by omega),dJ (x:=k+2) (by omega) (by omega),dJ (x:=d+1) (by omega) (by omega),dJ (x:=d-1) (by omega) (by omega)];have o:0<=k+1:=by omega
   have c:=λ(e:Int)(M:0<=e)(U:e<=k+1)=>i e (k+1) M U (by omega) (by omega) (by omega);have u0:=c d (by omega) (by omega);have u1:=c (d+1) (by omega) (by omega);by_cases U:k+1<(l.length:Int)
   ·have f:¬k+1=(l.length:Int):=by omega
    simp only[U,f,o,bA,bG,aL,aW,cK,oc,implies_true];generalize ((at' l k).toNat:Int)=b;generalize ((at' l (k+1)).toNat:Int)=n;by_cases p:b=39
    ·grind
    by_cases q:b=34
    ·grind
    by_cases r:b=92
    ·grind
    by_cases s:b=96
    ·grind
    by_cases t:b=40
    ·grind
    by_cases h:b=41
    ·subst h;by_cases aE:0<d
     ·have u:=c (d-1) (by omega) (by omega);grind
     grind
    grind
   ·have w:((0:UInt8).toNat:Int)=0:=rfl;simp only[U,bG,aW,w,eQ,false_implies,implies_true,cK];generalize ((at' l k).toNat:Int)=b;have f:k+1=(l.length:Int):=by omega
    simp only[f,bA];rw[<-f];by_cases p:b=39
    ·grind
    by_cases q:b=34
    ·grind
    by_cases r:b=92
    ·grind
    by_cases s:b=96
    ·grind
    by_cases t:b=40
    ·grind
    by_cases h:b=41
    ·subst h;by_cases aE:0<d
     ·have u:=c (d-1) (by omega) (by omega);grind
     grind
    grind
  ·simp only[M,bG,aW];simp_all
theorem ans{S r:H}(du:S.length<=1000000)(a:r<:+S):IH S (ax S r)=some (qV S (iu 0 r)):=by
 have bh:=ZT du a;have h0:0<=ax S r:=by grind[e3,ax]
 have hle:= @pz r S;obtain⟨v,M,U⟩:=anr S (by omega) (λx=>some ((-1),(W (x+2)))) (λx=>some ((-1),(W (x+2)))) (λ_=>rfl) (λd=>⟨_,rfl⟩) bD 0 (ax S r) (by omega) h0 (by omega) (by grind[gD]) (by simp[gD]);have b:IH S (ax S r)=some v:=by unfold IH a7;rw[NA a,aR rfl];exact M
 have c:ED S (ax S r)=some v:=by unfold ED a7;rw[Jh a,aR rfl];exact U
 grind
theorem ant{S d:H}{tabs:Bool}{r:H}(du:S.length<=1000000)(a:r<:+S):Ih S (ax S r) d tabs=some (match jR d tabs r with|some q=>ax S q|none=> -1):=by
 have bh:=ZO (d:=d) (tabs:=tabs) du a;have h0:0<=ax S r:=by grind[e3,ax]
 have hle:= @pz r S;obtain⟨v,ad,b⟩:=alP S d tabs (by omega) bD (ax S r) h0 hle (by grind[gD]) (by simp[gD]);have c:Ih S (ax S r) d tabs=some v:=by unfold Ih;rw[NA a,aR rfl];exact ad
 have e:Ew S (ax S r) d tabs=some v:=by unfold Ew;rw[Jh a,aR rfl];exact b
 grind
theorem TX{S r:H}(du:S.length<=1000000)(a:r<:+S):AH S (ax S r)=some (bs r):=by
 have M:¬ax S r<0:=by grind[e3,ax]
 unfold AH RP;by_cases U:(S.length:Int)<=ax S r
 ·have b:r=[]:=zr.1 (show ax S r=S.length by have:= @pz r S;omega);simp_all[bs,kd,uF,List.isPrefixOf]
 ·simp only[M,U,bG,aW];rw[aR rfl];unfold a7;show fixF (Mg S (ax S r) kd λ_=>some []) bD 0=_;rw[(ZA S (ax S r) (by omega) (by omega) (by omega) kd (by decide) (by decide) (λ_=>some []) bD 0 (by omega) (by decide) (by rw[gD];decide) (by simp[gD])).1];rw[Tg a];grind[bs,Lib.hasPrefix,List.isPrefixOf,List.find?,kd]
theorem NB(w:H)(l:bx)(ay:l.length<=1000):AJ w l=some (l.contains w):=by
 have a:∀(n i:Nat),l.length-i<n->i<=l.length->fixF (Ml w l λ_=>some false) n (i:Int)=some ((l.drop i).contains w):=by
  intro n;induction n with
  |zero=>omega
  |succ n b=>
   intro i au bh;rw[fl];generalize fixF (Ml w l _) n=k at b;unfold Ml;by_cases c:i<l.length
   ·have d:(i:Int)<(l.length:Int):=by omega
    have e:l.drop i=at' l (i:Int)::l.drop (i+1):=by rw[OO c];simp_all[at',adY,ad0]
    simp only[d,bA,aL];rw[b1 ⟨by omega,trivial⟩,dJ (by omega) (by omega),e];by_cases he:at' l (i:Int)=w
    ·grind
    ·have:=b (i+1) (by omega) (by omega);have f:(i:Int)+1=((i+1:Nat):Int):=by omega
     simp only[he,bG,aW,f];rw[this];have:(w==at' l (i:Int))=false:=by grind
     rw[List.contains_cons,this,Bool.false_or]
   grind
 unfold AJ a7;have:=a bD 0 (by grind[gD]) (by omega);grind
theorem aaQ(w:H):AK w=some (oC w):=by unfold AK;rw[aR (NB w _ (by decide))];rfl
theorem aaR(w:H):Ii w=some (rB w):=by unfold Ii;rw[aR (NB w _ (by decide))];rfl
theorem F4(w:H):xD w=some (ff w):=by unfold xD;rw[aR (NB w _ (by decide))];rfl
structure cm where
 S:H
 ne:Int
def cm.st(e:cm)(r:H)(F:ah)(ai:Bool):Z:=(e.S,ax e.S r,e.ne,F,0,0,[],[],ai)
def cm.tt(e:cm)(F:ah):Z:=(e.S,e.S.length,e.ne,F,0,0,[],[],true)
structure cI(e:cm)(r:H)(F:ah):Prop where
 b7:e.S.length<=1000000
 nl:dK e.S
 Ju:e.S≠[]
 sfx:r<:+e.S
 kf:eC F+100*r.length<=100*e.S.length
theorem cI.mono{e:cm}{r r':H}{F:ah}(h:cI e r F)(M:r'<:+r):cI e r' F:=
 ⟨h.b7,h.nl,h.Ju,M.trans h.sfx,by have:=h.kf;grind⟩
structure oJ(e:cm)(r0:H)(st:Z):Prop where
 s:st.1=e.S
 lo:ax e.S r0<=st.2.1
 bh:st.2.1<=(e.S.length:Int)+1+r0.length
 nd:st.2.2.2.2.2.2.1.length+eC st.2.2.2.1<=100*e.S.length+1000
 op:st.2.2.2.2.2.2.2.1.length<=r0.length+1
def jb(q:Bool)(e:cm)(r0:H)(nd:H)(ds:ah)(st:Z):Prop:=
 (st.2.2.2.2.1=1/\st.2.2.2.2.2.2.1=nd/\st.2.2.2.1=ds/\oJ e r0 st/\(e.S.length:Int)<=st.2.1)\/(q=true/\nd=[]/\st=e.tt ds)
def jk(e:cm)(r0:H)(st:Z):Prop:=st.2.2.2.2.1=2/\oJ e r0 st
def gA(e:cm)(r:H)(F:ah)(st:Z):Prop:=∃ai,st=e.st r F ai/\(r=[]->ai=false)
def bR{α β:Type}(q:Bool)(e:cm)(r0:H)(m:dp α)(pr:β->Z)(cv:α->H->β->Prop)(y:Option β):Prop:=∃b,y=some b/\match m with
 | .ok a r F=>r<:+r0/\cI e r F/\gA e r F (pr b)/\cv a r b
 | .more _ nd ds=>jb q e r0 nd ds (pr b)
 | .bad _=>jk e r0 (pr b)
 | .deep _=>jk e r0 (pr b)
theorem oJ.mono{e:cm}{r0 ad:H}{st:Z}(h:oJ e r0 st)(M:r0<:+ad):oJ e ad st:=by
 have:=M.length_le;have U:ax e.S ad<=ax e.S r0:=by grind[ax]
 exact⟨h.s,by have:=h.lo;omega,by have:=h.bh;omega,h.nd,by have:=h.op;omega⟩
theorem jb.mono{q:Bool}{e:cm}{r0 ad:H}{nd:H}{ds:ah}{st:Z}(h:jb q e r0 nd ds st)(M:r0<:+ad):jb q e ad nd ds st:=by
 rcases h with⟨a,b,c,d,f⟩|h
 ·exact .inl ⟨a,b,c,d.mono M,f⟩
 ·exact .inr h
theorem jb.up{q:Bool}{e:cm}{r0:H}{nd:H}{ds:ah}{st:Z}(h:jb false e r0 nd ds st):jb q e r0 nd ds st:=by
 rcases h with h|h
 ·exact .inl h
 grind
theorem jb.z{e:cm}{r0:H}{nd:H}{ds:ah}{st:Z}(h:jb false e r0 nd ds st):st.2.2.2.2.1=1/\st.2.2.2.2.2.2.1=nd/\st.2.2.2.1=ds/\oJ e r0 st/\(e.S.length:Int)<=st.2.1:=by
 rcases h with h|h
 ·exact h
 grind
theorem jk.mono{e:cm}{r0 ad:H}{st:Z}(h:jk e r0 st)(M:r0<:+ad):jk e ad st:=⟨h.1,h.2.mono M⟩
theorem bR.mono{q:Bool}{α β:Type}{e:cm}{r0 ad:H}{m:dp α}{pr:β->Z}{cv:α->H->β->Prop}{y:Option β}(h:bR q e r0 m pr cv y)(M:r0<:+ad):bR q e ad m pr cv y:=by obtain⟨b,a,h⟩:=h;refine⟨b,a,?_⟩;grind[trans,jb.mono,jk.mono]
theorem bR.ei{q:Bool}{α β:Type}{e:cm}{r0:H}{m:dp α}{pr:β->Z}{cv:α->H->β->Prop}{y a:Option β}(h:bR q e r0 m pr cv y)(b:a=y):bR q e r0 m pr cv a:=b▸h
theorem bR.iZ{q o:Bool}{α p s β l:Type}{C:dp p->dp s}(n:c_ C){e:cm}{r0 r:H}{F:ah}{m:ae α}{k:α->ae p}{pr:β->Z}{cv:α->H->β->Prop}{i:l->Z}{cv':s->H->l->Prop}{y:Option β}{K:β->Option l}
  (h:bR o e r0 (m r F) pr cv y)
  (av:∀a ad d b,m r F= .ok a ad d->ad<:+r0->cI e ad d->gA e ad d (pr b)->cv a ad b->bR q e r0 (C (k a ad d)) i cv' (K b))
  (hm:∀op nd ds b,m r F= .more op nd ds->jb o e r0 nd ds (pr b)->∃c,K b=some c/\jb q e r0 nd ds (i c))
  (t:∀b,jk e r0 (pr b)->∃c,K b=some c/\jk e r0 (i c)):
  bR q e r0 (C (Go.Eng.N m k r F)) i cv' (aw y K):=by
 obtain⟨b,u,h⟩:=h;rw[u,aR rfl];unfold Go.Eng.N;cases j:m r F with
 |ok a ad d=>grind
 |more op nd ds=>rw[j] at h;obtain⟨c,f,g⟩:=hm op nd ds b j h;rw[n.more];exact⟨c,f,g⟩
 |bad q=>rw[j] at h;obtain⟨c,f,g⟩:=t b h;rw[n.bad];exact⟨c,f,g⟩
 |deep q=>rw[j] at h;obtain⟨c,f,g⟩:=t b h;rw[n.deep];exact⟨c,f,g⟩
theorem wN(e:cm)(r:H)(a b c:Int)(d:ah)(f:H)(g:bx)(h:Bool):gY (e.S,ax e.S r,a,d,b,c,f,g,h)=some (decide (r=[])):=by
 unfold gY;have:((e.S.length:Int)<=ax e.S r)↔r=[]:=by rw[<-zr (S:=e.S)];have:= @pz r e.S;omega
 grind
theorem wO{e:cm}{r:H}(j:r<:+e.S)(a c d:Int)(f:ah)(g:H)(h:bx)(i:Bool):iW (e.S,ax e.S r,a,f,c,d,g,h,i)=some (r.headD 0):=by
 unfold iW;rw[wN,aR rfl];cases r with
 |nil=>rfl
 |cons b t=>simp only[reduceCtorEq,bG,aW];simp_all[b1,iy,j2]
theorem TY(b:UInt8):Cw b=some (fJ b):=by grind[Cw,fJ,Ta,Jb]
theorem Jv{e:cm}{r:H}(a:e.S.length<=1000000)(b:r<:+e.S)(c d f:Int)(g:ah)(h:H)(i:bx)(j:Bool):ir (e.S,ax e.S r,c,g,d,f,h,i,j)=some (bs r):=by unfold ir;rw[TX a b];rfl
theorem xX(e:cm)(F:ah):e.tt F=e.st [] F true:=by rfl
def F5(e:cm)(r:H)(F:ah)(ai:Bool)(y:Option Z):Prop:=match bo r with
 |some r'=>∃a,y=some (e.st r' F a)/\(a=ai\/a=true)
 |none=>y=some (e.tt F)
theorem anu{e:cm}{I:Z}{ai:Bool}(c:I.1=e.S){j:Int->Option Z}(du:e.S.length<=1000000):∀(n:Nat)(r:H),r.length<n->r<:+e.S->fixF (EZ I ai j) n (ax e.S r)=j (ax e.S (lW r)):=by
 intro n;induction n with
 |zero=>omega
 |succ n d=>
  intro r au a;rw[fl];generalize fixF (EZ I ai j) n=k at d;unfold EZ;rw[c];rw[wN,aR rfl];cases r with
  |nil=>rfl
  |cons b t=>
   simp only[reduceCtorEq,bG,fo,aL];rw[b1 (λ_=>iy a),j2 a,jj du a];simp only[qd];unfold lW;by_cases f:b=10
   ·grind
   ·simp only[f,bG,fo,aL,cA];grind[List.length_cons,eo]
theorem anv{e:cm}{F:ah}(du:e.S.length<=1000000)(I:Z)(m:∃r0 tr0,I=e.st r0 F tr0):∀(n:Nat)(r:H)(ai:Bool),r.length<n->r<:+e.S->
  F5 e r F ai (fixF (Cx I λx=>some (I.1,x.1,I.2.2.1,I.2.2.2.1,I.2.2.2.2.1,I.2.2.2.2.2.1,I.2.2.2.2.2.2.1,I.2.2.2.2.2.2.2.1,x.2)) n (ax e.S r,ai)):=by
 obtain⟨r0,tr0,rfl⟩:=m;intro n;induction n with
 |zero=>omega
 |succ n d=>
  intro r ai au a;rw[fl];generalize fixF (Cx (e.st r0 F tr0) _) n=k at d;unfold Cx a7;dsimp only;have he:gY ((e.st r0 F tr0).1,ax e.S r,(e.st r0 F tr0).2.2.1,(e.st r0 F tr0).2.2.2.1,(e.st r0 F tr0).2.2.2.2.1,(e.st r0 F tr0).2.2.2.2.2.1,(e.st r0 F tr0).2.2.2.2.2.2.1,(e.st r0 F tr0).2.2.2.2.2.2.2.1,ai)=some (decide (r=[])):=wN e r _ _ _ _ _ _ _;rw[he,aR rfl];unfold F5;cases r with
  |nil=>rw[mK];exact⟨ai,rfl,.inl rfl⟩
  |cons b t=>
   have j:t.length<n:=by grind
   simp only[reduceCtorEq,bG,fo,aL];have f:(e.st r0 F tr0).1=e.S:=rfl;rw[f];rw[b1 (iy a),j2 a,TY,aR rfl,jj du a];by_cases g:fJ b=true
   ·rw[FO g,g];exact d t ai j (eo a)
   have o:fJ b=false:=by grind
   rw[o];simp only[aW,ng,ZG];by_cases l:b=92
   ·subst l;cases t with
    |nil=>
     rw[ZI];refine⟨ai,?_,.inl rfl⟩;have h0:decide (ax e.S []<(e.S.length:Int))=false:=by simp[iO]
     simp only[bA,aL,h0,aW];rfl
    |cons c u=>
     simp only[bA,aL,nN (eo a)];rw[b1 (λ_=>⟨(iy (eo a)).1,trivial⟩),j2 (eo a)];simp only[qd];by_cases az:c=10
     ·subst az;have p:W (ax e.S (92::10::u)+2)=ax e.S u:=k9 (w:=[92,10]) du a;rw[p,Tc];simp only[bA,aL];by_cases hu:u=[]
      ·subst hu;rw[bc rfl];have:=d [] true (by grind) List.nil_suffix;unfold F5 at this;rw[mK] at this;obtain⟨q,M,U⟩:=this;have:q=true:=by rcases U with rfl|rfl<;>rfl
       subst this;simp only;rw[xX];exact M
      ·rw[aO hu];have:=d u true (by grind) (eo (eo a));unfold F5 at this;grind
     ·rw[Tb az];simp only[az,bG,aW,show¬((92:UInt8)=35) by decide];exact⟨ai,rfl,.inl rfl⟩
   ·have s:decide (b=92)=false:=by grind
    rw[s];simp only[aW];rw[b1 (λh=>by cases h)];by_cases i:b=35
    ·subst i;rw[Td];simp only[bA,aL];have aD:fixF (EZ (e.st r0 F tr0) ai λv=>k (v,ai)) bD (ax e.S (35::t))=k (ax e.S (lW (35::t)),ai):=anu (e:=e) rfl du _ _ (mj (kB (e3 a) du)) a;rw[aD];have:lW (35::t)=lW t:=by rfl
     rw[this];exact d _ ai (Nat.lt_of_le_of_lt (AW t) j) ((Ft t).trans (eo a))
    ·rw[Te g i l];simp only[i,bG,aW];exact⟨ai,rfl,.inl rfl⟩
theorem anx{e:cm}{r:H}{F:ah}{ai:Bool}(h:cI e r F):F5 e r F ai (hR (e.st r F ai)):=by unfold hR a7;exact anv h.b7 _ ⟨r,ai,rfl⟩ bD r ai (mj (kB (e3 h.sfx) h.b7)) h.sfx
theorem dK.iE{r S:H}(h:dK S)(a:r<:+S):dK r:=by
 obtain⟨u,rfl⟩:=a;induction u with
 |nil=>exact h
 |cons b u c=>exact c h.tail
theorem aaS{r r':H}(a:dK r)(j:r≠[])(Y:bo r=some r'):r'≠[]:=by
 have d:∀(n:Nat)(r r':H),r.length<=n->dK r->r≠[]->bo r=some r'->r'≠[]:=by
  intro n;induction n with
  |zero=>grind
  |succ n e=>
   intro r r' au a j Y;cases r with
   |nil=>grind
   |cons b t=>
    have k:t.length<=n:=by grind
    have f:b≠10->t≠[]:=by
     intro g h0;subst h0;rcases a with h|⟨s,h⟩
     ·cases h
     ·have:=mC List.getLast? h;grind
    by_cases g:fJ b=true
    ·rw[FO g] at Y;exact e t r' k a.tail (f (by rintro rfl;exact absurd g (by decide))) Y
    by_cases m:b=35
    ·subst m;rw[Td] at Y;have bf:=f (by decide);have aD:lW t≠[]:=by
      have:∀t:H,dK t->t≠[]->lW t≠[]:=by
       intro t;induction t with
       |nil=>simp
       |cons c u i=>
        intro l _;unfold lW;by_cases az:c=10
        ·grind
        ·rw[aO az];refine i l.tail ?_;rintro rfl;rcases l with h|⟨s,h⟩
         ·cases h
         ·have:=mC List.getLast? h;grind
      exact this t a.tail bf
     exact e _ r' (kB (AW t) k) (a.tail.iE (Ft t)) aD Y
    by_cases o:b=92
    ·subst o;have bf:=f (by decide);cases t with
     |nil=>grind
     |cons c u=>
      by_cases az:c=10
      ·subst az;rw[Tc] at Y;by_cases hu:u=[]
       ·grind
       ·rw[aO hu] at Y;exact e u r' (by grind) a.tail.tail hu Y
      grind[Tb]
    grind[Te]
 exact d _ r r' (cF _) a j Y
theorem xY{e:cm}{r:H}{F:ah}{st:Z}(h:cI e r F)(f:gA e r F st):(∃r' a,bo r=some r'/\hR st=some a/\gA e r' F a/\cI e r' F/\r'<:+r/\bo r'=some r')\/(bo r=none/\hR st=some (e.tt F)):=by
 obtain⟨ai,rfl,j⟩:=f;have:=anx (ai:=ai) h;unfold F5 at this;cases Y:bo r with
 |none=>grind
 |some r'=>
  rw[Y] at this;obtain⟨b,M,U⟩:=this;have c:=ef Y;refine .inl ⟨r',_,rfl,M,⟨b,rfl,λg=>?_⟩,h.mono c,c,l1 _ _ _ (cF _) Y⟩;subst g;by_cases d:r=[]
  ·subst d;have i:hR (e.st [] F ai)=some (e.st [] F ai):=by
    unfold hR a7
    obtain⟨n,au⟩:∃n,bD=n+1:=⟨bD-1,by rw[gD]⟩
    dsimp only;rw[au,fl];unfold Cx;dsimp only;have he:gY ((e.st [] F ai).1,(e.st [] F ai).2.1,(e.st [] F ai).2.2.1,(e.st [] F ai).2.2.2.1,(e.st [] F ai).2.2.2.2.1,(e.st [] F ai).2.2.2.2.2.1,(e.st [] F ai).2.2.2.2.2.2.1,(e.st [] F ai).2.2.2.2.2.2.2.1,(e.st [] F ai).2.2.2.2.2.2.2.2)=some (decide (([]:H)=[])):=wN e [] _ _ _ _ _ _ _;rw[he,aR rfl];rfl
   rw[i] at M;have:=mC (λx=>x.2.2.2.2.2.2.2.2) (Option.some.inj M);have k:ai=b:=this;grind
  ·exact absurd rfl (aaS (h.nl.iE h.sfx) d Y)
theorem Dj(e:cm)(F:ah):hR (e.tt F)=some (e.tt F):=by
 rw[xX];unfold hR a7
 obtain⟨n,au⟩:∃n,bD=n+1:=⟨bD-1,by rw[gD]⟩
 dsimp only;rw[au,fl];unfold Cx;dsimp only;have he:gY ((e.st [] F true).1,(e.st [] F true).2.1,(e.st [] F true).2.2.1,(e.st [] F true).2.2.2.1,(e.st [] F true).2.2.2.2.1,(e.st [] F true).2.2.2.2.2.1,(e.st [] F true).2.2.2.2.2.2.1,(e.st [] F true).2.2.2.2.2.2.2.1,(e.st [] F true).2.2.2.2.2.2.2.2)=some (decide (([]:H)=[])):=wN e [] _ _ _ _ _ _ _;rw[he,aR rfl];rfl
theorem bR.rep{q:Bool}{σ α τ β:Type}{e:cm}{f:σ->ae (σ⊕α)}{pr:β->Z}{cv:α->H->β->Prop}{en:σ->H->ah->τ->Prop}{body:(τ->Option β)->τ->Option β}
  (c:∀(k:τ->Option β)(s:σ)(r:H)(F:ah)(x:τ),cI e r F->en s r F x->(∀a,∃k',k a=body k' a)->(∀s' r' b a,r'<:+r->cI e r' b->r'.length<r.length->en s' r' b a->bR q e r (b8 f s' r' b) pr cv (k a))->bR q e r (cR f r (f s r F)) pr cv (body k x)):
  ∀(n:Nat)(s:σ)(r:H)(F:ah)(x:τ),r.length+1<n->cI e r F->en s r F x->bR q e r (b8 f s r F) pr cv (fixF body n x):=by
 intro n;induction n with
 |zero=>omega
 |succ n d=>
  intro s r F x au g he;rw[cz,fl];refine c _ s r F x g he (λa=>?_) λs' r' b a M U i h=>(d s' r' b a (by omega) U h).mono M
  obtain⟨m,rfl⟩:∃m,n=m+1:=⟨n-1,by omega⟩
  exact⟨_,fl⟩
theorem bR.inl{q:Bool}{σ α β:Type}{e:cm}{f:σ->ae (σ⊕α)}{r0 r r':H}{a:ah}{s':σ}{pr:β->Z}{cv:α->H->β->Prop}{y:Option β}(ay:r'.length<r.length)(h:bR q e r0 (b8 f s' r' a) pr cv y):bR q e r0 (cR f r (.ok (.inl s') r' a)) pr cv y:=by simp_all[cR,bc]
theorem wQ{e:cm}{r:H}{F:ah}(h:cI e r F):r.length+1<bD:=by have:=h.b7;have:=e3 h.sfx;grind[gD]
theorem ND{α:Type}[Inhabited α]{l:List α}{i:Nat}(bh:i<l.length):l.drop i=at' l (i:Int)::l.drop (i+1):=by grind[List.drop_eq_getElem_cons,at',List.getElem?_eq_getElem]
theorem anA{ds:ah}{j:H->Option Z}(e:ds.length<=1000000000):∀(n i:Nat)(x:H),ds.length-i<n->i<=ds.length->x.length+eC (ds.drop i)<=1000000000->fixF (L_ ds j) n ((i:Int),x)=j (x++mh (ds.drop i)):=by
 intro n;induction n with
 |zero=>omega
 |succ n b=>
  intro i x au bh f;rw[fl];generalize fixF (L_ ds j) n=k at b;unfold L_;dsimp only;by_cases c:i<ds.length
  ·have a:(i:Int)<(ds.length:Int):=by omega
   have aD:=ND c;have ay:eC (ds.drop i)=(at' ds (i:Int)).1.length+1+eC (ds.drop (i+1)):=by grind[eC,mh]
   simp only[a,bA,aL];rw[b1 ⟨by omega,trivial⟩,b1 (by omega),b1 (by grind)];have d:W ((i:Int)+1)=((i+1:Nat):Int):=by grind[dJ]
   rw[d,b (i+1) _ (by omega) (by omega) (by grind),aD];simp[mh]
  ·have a:¬(i:Int)<(ds.length:Int):=by omega
   simp only[a,decide_false,cond_false];grind[List.drop_eq_nil_of_le,mh]
theorem anB{a:H}{j:ah×H->Option Z}(l:a.length<=2000000):∀(n i:Nat)(nd:H)(ds:ah),a.length-i<n->i<=a.length->nd.length+eC ds+(a.length-i)<=1000000000->ds.length<=1000000000->fixF (Ma a j) n ((i:Int),ds,nd)=j ((cW nd ds (a.drop i)).2,(cW nd ds (a.drop i)).1):=by
 intro n;induction n with
 |zero=>omega
 |succ n d=>
  intro i nd ds au bh m e;rw[fl];generalize fixF (Ma a j) n=k at d;unfold Ma a7;dsimp only;by_cases f:i<a.length
  ·have b:(i:Int)<(a.length:Int):=by omega
   have aD:=ND f;have g:W ((i:Int)+1)=((i+1:Nat):Int):=by grind[dJ]
   have h:b4 a (i:Int) ((i+1:Nat):Int)=[at' a (i:Int)]:=by simp_all[b4,Kj]
   simp only[b,bA,aL,g];rw[b1 (by omega),h,b1 (by grind),b1 ⟨by omega,trivial⟩];simp only[qd];rw[aD];unfold cW;by_cases c:at' a (i:Int)=10
   ·rw[if_pos c];simp only[c,decide_true,cond_true];have h0:(0:Int)=((0:Nat):Int):=rfl;rw[h0,anA e bD 0 (nd++[10]) (by grind[gD]) (by omega) (by grind)];simp only[List.drop_zero];grind[mh,List.length_append,List.length_cons,eC,List.length_nil]
   grind
  ·have b:¬(i:Int)<(a.length:Int):=by omega
   simp only[b,bG,aW];rw[w7 (by omega)];rfl
theorem Dk(a b c f:Int)(S nd:H)(ds:ah)(op:bx)(ai:Bool)(x:H)(d:x.length<=2000000)(g:nd.length+eC ds+x.length<=1000000000)(e:ds.length<=1000000000):
  xA (S,a,b,ds,c,f,nd,op,ai) x=some (S,a,b,(cW nd ds x).2,c,f,(cW nd ds x).1,op,ai):=by
 unfold xA a7;dsimp only;have h0:(0:Int)=((0:Nat):Int):=rfl;rw[h0,anB d bD 0 nd ds (by grind[gD]) (by omega) (by omega) e];simp
theorem uo:∀(l:ah),l.length<=eC l
 |[]=>by simp
 |a::b=>by have:=uo b;simp[eC,mh] at this⊢;omega
def oK(e:cm)(r0:H)(nd:H)(ds:ah)(st:Z):Prop:=st.2.2.2.2.1=1/\st.2.2.2.2.2.2.1=nd/\st.2.2.2.1=ds/\oJ e r0 st/\(e.S.length:Int)<=st.2.1
theorem oK.s{q:Bool}{e:cm}{r0:H}{nd:H}{ds:ah}{st:Z}(h:oK e r0 nd ds st):jb q e r0 nd ds st:= .inl h
theorem oK.mono{e:cm}{r0 ad:H}{nd:H}{ds:ah}{st:Z}(h:oK e r0 nd ds st)(M:r0<:+ad):oK e ad nd ds st:=⟨h.1,h.2.1,h.2.2.1,h.2.2.2.1.mono M,h.2.2.2.2⟩
theorem F6{e:cm}{F:ah}{ai:Bool}{x:H}(h:cI e [] F)(b:x.length<=100):∃a,hS (e.st [] F ai) x=some a/\oK e [] (cW [] F x).1 (cW [] F x).2 a:=by
 have aE:=h.kf;have c:=h.b7;have ay:=Bc x [] F;simp only[w8] at ay aE;have d:=uo F;refine⟨(e.S,ax e.S [],e.ne,(cW [] F x).2,1,0,(cW [] F x).1,[],ai),?_,rfl,rfl,rfl,⟨rfl,sz (ax e.S []),?_,?_,?_⟩,?_⟩
 ·unfold hS a7 cm.st;simp only[bA,aL];rw[Dk _ _ _ _ _ _ _ _ _ _ (by omega) (by grind) (by omega),aR rfl]
 ·grind[ax,iO]
 ·grind
 ·simp
 simp[ax,iO,sz]
theorem xZ{e:cm}{ad r0 nd:H}{ds:ah}{st:Z}{nm x:H}(h:oK e ad nd ds st)(M:ad<:+r0)(h0:r0<:+e.S)(w:nm=[]\/ad.length<r0.length)(y:nd.length+eC ds+x.length<=100*e.S.length+1000)(du:e.S.length<=1000000)(z:x.length<=1000):
  ∃k,gZ st nm x=some k/\oK e r0 (cW nd ds x).1 (cW nd ds x).2 k:=by
 obtain⟨a,b,c,d,T0,f,g,op,ai⟩:=st;obtain⟨U,l,m,q,i⟩:=h;simp only at U l m i;subst U l m;have ay:=Bc x g d;have n:=M.length_le;have r:=h0.length_le;have A:ax e.S r0<=ax e.S ad:=by grind[ax]
 have B:=uo d;obtain⟨o,s,t,u,v⟩:=q;simp only at o s t u v;subst o
 have p:∀j,xA (e.S,b,c,d,1,f,g,j,ai) x=some (e.S,b,c,(cW g d x).2,1,f,(cW g d x).1,j,ai):=λj=>Dk _ _ _ _ _ _ _ _ _ _ (by omega) (by omega) (by omega)
 unfold gZ a7;simp only[bA,aL];by_cases au:nm=[]
 ·subst au;simp only[bA,hI,aW];rw[p,aR rfl];exact⟨_,rfl,rfl,rfl,rfl,⟨rfl,by grind,by grind,by grind,by grind⟩,i⟩
 ·have C:ad.length<r0.length:=by grind
  simp only[au,bG,fo,aL];rw[b1 (by grind),p,aR rfl];exact⟨_,rfl,rfl,rfl,rfl,⟨rfl,by grind,by grind,by grind,by grind⟩,i⟩
theorem qg{st:Z}{nm x:H}(h:st.2.2.2.2.1≠1):gZ st nm x=some st:=by simp_all[gZ,bG,aW]
theorem T1:∀(x nd:H)(ds:ah),(10:UInt8)∉x->cW nd ds x=(nd++x,ds)
 |[],nd,ds,_=>by simp[cW]
 |b::x,nd,ds,h=>by have a:b≠10:=λc=>h (by grind);simp_all[cW,aO,T1]
theorem T2{q:Bool}{e:cm}{r0 r:H}{F:ah}{ai:Bool}{o:Option H}{nm x:H}(h:cI e r F)(h0:r<:+r0)(b:∀q,o=some q->q<:+r)(c:(10:UInt8)∉x)(i:x.length<=r.length+100)(j:r0≠[])(d:∀q,o=some q->q=[]->ai=false):
  bR q e r0 (match o with|some r'=>dp.ok () r' F|none=> .more [nm] x F) (λst=>st) (λ_ _ _=>True) (tU (e.st r F ai) (lM e.S o) nm x):=by
 cases o with
 |some q=>
  have a:=b q rfl;have M:¬ax e.S q<0:=by have:=e3 (a.trans h.sfx);grind[ax]
  refine⟨e.st q F ai,?_,a.trans h0,h.mono a,⟨ai,rfl,d q rfl⟩,trivial⟩;unfold tU;simp only[lM,M,bG,aW];rfl
 |none=>
  have aE:=h.kf;have k:=h.b7;have l:=uo F;have m:=e3 h.sfx;have hm:hS (e.st [] F ai) x=some (e.S,ax e.S [],e.ne,F,1,0,x,[],ai):=by unfold hS a7 cm.st;simp only[bA,aL];rw[Dk _ _ _ _ _ _ _ _ _ _ (by omega) (by grind) (by omega),aR rfl,T1 _ _ _ c];rfl
  refine⟨(e.S,ax e.S [],e.ne,F,1,0,x,[nm],ai),?_,?_⟩
  ·unfold tU;simp only[lM,show((-1:Int)<0) from by decide,decide_true,cond_true];have f:((e.st r F ai).1,((e.st r F ai).1.length:Int),(e.st r F ai).2.2.1,(e.st r F ai).2.2.2.1,(e.st r F ai).2.2.2.2.1,(e.st r F ai).2.2.2.2.2.1,(e.st r F ai).2.2.2.2.2.2.1,(e.st r F ai).2.2.2.2.2.2.2.1,(e.st r F ai).2.2.2.2.2.2.2.2)=e.st [] F ai:=by rfl
   rw[f,hm,aR rfl];exact b1 (by simp)
  ·have g:ax e.S r0<=ax e.S []:=by grind[ax,List.length_nil]
   refine .inl ⟨rfl,rfl,rfl,⟨rfl,g,?_,?_,?_⟩,?_⟩
   ·grind[ax,iO]
   ·grind
   ·simp
   simp[ax,iO,sz]
theorem aaT{q:Bool}{e:cm}{r0 r:H}{F:ah}{ai:Bool}{o:Option H}{x:UInt8}(h:cI e r F)(h0:r<:+r0)(a:∀q,o=some q->q<:+r)(d:x≠10)(b:r0≠[])(c:∀q,o=some q->q=[]->ai=false):
  bR q e r0 (match o with|some r'=>dp.ok () r' F|none=> .more [[x]] [x] F) (λst=>st) (λ_ _ _=>True) (tU (e.st r F ai) (lM e.S o) [x] [x]):=
 T2 h h0 a (by grind) (by simp) b c
theorem anC{I:Z}{i0:Nat}{j:H->Option Z}(c:i0<=I.2.2.2.1.length)(h:I.2.2.2.1.length<=1000000000):∀(n i:Nat)(x:H),(I.2.2.2.1.length-i0)-i<n->i<=I.2.2.2.1.length-i0->x.length+eC ((I.2.2.2.1.drop i0).drop i)<=1000000000->
  fixF (Me I (i0:Int) j) n ((i:Int),x)=j (x++mh ((I.2.2.2.1.drop i0).drop i)):=by
 have d:b4 I.2.2.2.1 (i0:Int) (I.2.2.2.1.length:Int)=I.2.2.2.1.drop i0:=by simp[b4,Kj,GV]
 have e:(I.2.2.2.1.drop i0).length=I.2.2.2.1.length-i0:=DQ;intro n;induction n with
 |zero=>omega
 |succ n b=>
  intro i x au bh l;rw[fl];generalize fixF (Me I (i0:Int) j) n=k at b;unfold Me;dsimp only;rw[d];generalize I.2.2.2.1.drop i0=ds at*;by_cases f:i<ds.length
  ·have a:(i:Int)<(ds.length:Int):=by omega
   have aD:=ND f;have ay:eC (ds.drop i)=(at' ds (i:Int)).1.length+1+eC (ds.drop (i+1)):=by grind[eC,mh]
   simp only[a,bA,aL];rw[b1 ⟨by omega,trivial⟩,b1 (by omega),b1 (by grind)];have g:W ((i:Int)+1)=((i+1:Nat):Int):=by grind[dJ]
   rw[g,b (i+1) _ (by omega) (by omega) (by grind),aD];simp[mh]
  ·have a:¬(i:Int)<(ds.length:Int):=by omega
   simp only[a,decide_false,cond_false];grind[List.drop_eq_nil_of_le,mh]
theorem anD{e:cm}{r0:H}{F:ah}{ai:Bool}{j:Int->Option Z}(du:e.S.length<=1000000)(p:eC F<=100000000):∀(n i:Nat)(q:H),F.length-i<n->i<=F.length->q<:+e.S->
  match ks (F.drop i) q with
  | .inl r'=>fixF (E2 (e.st r0 F ai) j) n ((i:Int),ax e.S q)=j (ax e.S r')
  | .inr nd=>fixF (E2 (e.st r0 F ai) j) n ((i:Int),ax e.S q)=some (e.S,(e.S.length:Int),e.ne,[],1,0,nd,[[60,60]],false):=by
 have r:=uo F;intro n;induction n with
 |zero=>omega
 |succ n d=>
  intro i q au bh c;rw[fl];generalize fixF (E2 (e.st r0 F ai) j) n=k at d;unfold E2 a7;dsimp only;have f:(e.st r0 F ai).1=e.S:=rfl;have g:(e.st r0 F ai).2.2.2.1=F:=rfl;rw[f,g];by_cases l:i<F.length
  ·have a:(i:Int)<(F.length:Int):=by omega
   have aD:=ND l;rw[aD];simp only[a,bA,aL];rw[b1 (show 0<=(i:Int)/\True from⟨by omega,trivial⟩),ant du c,aR rfl,dJ (x:=(i:Int)+1) (by omega) (by omega)];unfold ks;cases m:jR (at' F (i:Int)).1 (at' F (i:Int)).2 q with
   |none=>
    simp only[show((-1:Int)<0) from by decide,bA,aL];rw[b1 (by omega)]
    have:=anC (I:=e.st r0 F ai) (i0:=i) (j:=λo=>some (e.S,(e.S.length:Int),(e.st r0 F ai).2.2.1,[],1,(e.st r0 F ai).2.2.2.2.2.1,o,([([60,60]:H)]:bx),false)) bh (by grind) bD 0 [] (by grind[gD]) (by omega) (by
     show 0+eC ((F.drop i).drop 0)<=_;rw[ym];have:eC (F.drop i)<=eC F:=by have h:=aaN (F.take i) (F.drop i);grind[List.take_append_drop]
     omega)
    have h0:(e.st r0 F ai).2.2.2.2.2.2.1=[]:=rfl;rw[h0];refine Eq.trans this ?_;show some (e.S,(e.S.length:Int),e.ne,([]:ah),(1:Int),(0:Int),[]++mh ((F.drop i).drop 0),[[60,60]],false)=_;grind
   |some b=>
    have s:b<:+e.S:=((SH _ _ _ q [] b (cF _) m).1).trans c;have h0:¬ax e.S b<0:=by grind[e3,ax]
    grind
  ·have a:¬(i:Int)<(F.length:Int):=by omega
   rw[w7 (by omega)];simp only[a,bG,aW];rfl
theorem aaU{q:Bool}{e:cm}{t:H}{F:ah}{ai:Bool}(h:cI e (10::t) F):bR q e (10::t) (jt (10::t) F) (λst=>st) (λ_ _ _=>True) (Cz (e.st (10::t) F ai)):=by
 have aE:=h.kf;have k:=h.b7;have c:t<:+e.S:=eo h.sfx;have l:=e3 c;have a:=anD (e:=e) (r0:=10::t) (F:=F) (ai:=ai) (j:=λd=>some (e.S,d,e.ne,[],0,0,[],[],false)) h.b7 (by omega) bD 0 t (by grind[uo,gD]) (by omega) c;rw[ym] at a;have g:W (ax e.S (10::t)+1)=ax e.S t:=jj h.b7 h.sfx;have f:Cz (e.st (10::t) F ai)=fixF (E2 (e.st (10::t) F ai) λd=>some (e.S,d,e.ne,[],0,0,[],[],false)) bD ((0:Nat),ax e.S t):=by unfold Cz a7;show fixF _ bD ((0:Int),W (ax e.S (10::t)+1))=_;rw[g];rfl
 unfold jt;simp only;cases b:ks F t with
 |inl r'=>rw[b] at a;simp only at a⊢;have Y:=(vl F t [] r' b).1;have ay:=Y.length_le;refine⟨e.st r' [] false,?_,Y.trans (dL 10 t),⟨h.b7,h.nl,h.Ju,Y.trans c,by grind[eC,mh]⟩,⟨false,rfl,λ_=>rfl⟩,trivial⟩;rw[f];exact a
 |inr nd=>
  rw[b] at a;simp only at a⊢;have i:=TQ F t nd b;refine⟨_,f.trans a,.inl ⟨rfl,rfl,rfl,⟨rfl,?_,?_,?_,?_⟩,?_⟩⟩
  ·grind[ax,pz]
  ·grind
  ·grind[eC,mh]
  ·simp
  simp
theorem T3{t:H}{F:ah}{a:Unit}{ad:H}{b:ah}(h:jt (10::t) F= .ok a ad b):ad<:+t/\b=[]:=by
 unfold jt at h;simp only at h;cases c:ks F t with
 |inl r'=>rw[c] at h;cases h;exact⟨(vl F t [] _ c).1,rfl⟩
 |inr nd=>grind
theorem F7{e:cm}{r:H}{F:ah}{st:Z}(h:cI e r F)(C:gA e r F st):bR true e r (c2 r F) (λst=>st) (λ_ r' _=>bo r'=some r'/\aq r'≠ .line) (pt st):=by
 unfold pt a7;have D:st.2.2.2.1=F/\st.2.2.2.2.2.2.2.1=[]:=by obtain⟨ai,rfl,_⟩:=C;exact⟨rfl,rfl⟩
 rw[D.1,D.2]
 have L:∀(bw:Nat)(b:Bool)(r:H)(F:ah)(st:Z),r.length+1<bw->cI e r F->gA e r F st->bo r=some r->∀r0:H,r<:+r0->(aq r= .line->r.length<=r0.length)->bR true e r0 (cR hX r0 (if aq r= .line then N jt (λ_=>a1 (.inl true)) r F else .ok (.inr b) r F)) (λst=>st) (λ_ r' _=>bo r'=some r'/\aq r'≠ .line) (fixF (AP λx=>some x) bw st):=by
  intro bw;induction bw with
  |zero=>omega
  |succ bw E=>
   intro b r F st fx s O P r0 G _;rw[fl]
   obtain⟨gP,Q⟩:∃gP,bw=gP+1:=⟨bw-1,by omega⟩
   have v:∀x:Z,(x.2.2.2.2.1≠0\/∃ds,x=e.tt ds)->fixF (AP λx=>some x) bw x=some x:=by
    intro x I;rw[Q,fl];unfold AP;dsimp only;rcases I with I|⟨ds,rfl⟩
    ·simp_all[bG,cZ,eQ,cA,aW]
    ·have m:iW (e.tt ds)=some 0:=by rw[xX];exact wO (e:=e) (r:=[]) nP _ _ _ _ _ _ _
     have h0:(e.tt ds).2.2.2.2.1=0:=rfl;rw[show iW ((e.tt ds).1,(e.tt ds).2.1,(e.tt ds).2.2.1,(e.tt ds).2.2.2.1,(e.tt ds).2.2.2.2.1,(e.tt ds).2.2.2.2.2.1,(e.tt ds).2.2.2.2.2.2.1,(e.tt ds).2.2.2.2.2.2.2.1,(e.tt ds).2.2.2.2.2.2.2.2)=some 0 from m];rw[gy,h0];rfl
   generalize uQ:fixF (AP λx=>some x) bw=k at E v;obtain⟨ai,rfl,R⟩:=O;unfold AP a7;dsimp only;have m:iW ((e.st r F ai).1,(e.st r F ai).2.1,(e.st r F ai).2.2.1,(e.st r F ai).2.2.2.1,(e.st r F ai).2.2.2.2.1,(e.st r F ai).2.2.2.2.2.1,(e.st r F ai).2.2.2.2.2.2.1,(e.st r F ai).2.2.2.2.2.2.2.1,(e.st r F ai).2.2.2.2.2.2.2.2)=some (r.headD 0):=wO s.sfx _ _ _ _ _ _ _;rw[m,gy];have h0:(e.st r F ai).2.2.2.2.1=0:=rfl;rw[h0];simp only[bA,cK,aL,qd];by_cases ay:aq r= .line
   ·rw[bc ay];obtain⟨t,rfl⟩:=wD ay;simp only[zY,bA,aL];refine bR.iZ c_.k ((aaU (q:=false) s).mono G) (λ_ ad d c S s1 T w _=>?_) (λop nd ds c mZ J=>?_) (λc p=>?_)
    ·have U:c.2.2.2.2.1=0:=by obtain⟨V,rfl,_⟩:=w;rfl
     have K:c.2.2.2.1=d/\c.2.2.2.2.2.2.2.1=[]:=by obtain⟨V,rfl,_⟩:=w;exact⟨rfl,rfl⟩
     rw[U,K.1,K.2];simp only[bA,aL];have T5:ad.length<(10::t).length:=by have:=(T3 S).1.length_le;grind
     have W:ad.length<r0.length:=by grind
     show bR true e r0 (cR hX r0 (.ok (.inl true) ad d)) _ _ _;refine bR.inl W ?_;rw[cz];rcases xY T w with⟨f,a,g,i,o,y,j,z⟩|⟨g,i⟩
     ·have A:hX true ad d=(if aq f= .line then N jt (λ_=>a1 (.inl true)) f d else .ok (.inr true) f d):=by
       by_cases l:aq f= .line
       ·obtain⟨u,rfl⟩:=wD l;simp_all[bc,ub]
       simp_all[aO,rH]
      rw[A,i,aR rfl];have B:a=(a.1,a.2.1,a.2.2.1,d,a.2.2.2.2.1,a.2.2.2.2.2.1,a.2.2.2.2.2.2.1,([]:bx),a.2.2.2.2.2.2.2.2):=by obtain⟨X,rfl,_⟩:=o;rfl
      rw[<-B];exact(E true f d a (by grind) y o z ad j (λ_=>j.length_le)).mono s1
     ·rw[i,aR rfl];have:hX true ad d= .more [] (cW [] d []).1 (cW [] d []).2:=dt (iY g);rw[this];refine⟨e.tt d,?_,.inr ⟨rfl,rfl,rfl⟩⟩;exact v (e.tt d) (.inr ⟨d,rfl⟩)
    ·have M:=J.z.1;refine⟨c,?_,J.up⟩;grind
    ·refine⟨c,?_,p⟩;rw[p.1];simp only[show¬((2:Int)=0) by decide,bG,aW];have:=v c (.inl (by rw[p.1];decide));have Y:c=(c.1,c.2.1,c.2.2.1,c.2.2.2.1,2,c.2.2.2.2.2.1,c.2.2.2.2.2.2.1,c.2.2.2.2.2.2.2.1,c.2.2.2.2.2.2.2.2):=by rw[<-p.1]
     grind
   ·rw[aO ay];have hh:decide (r.headD 0=10)=false:=by
     cases r with
     |nil=>rfl
     |cons b t=>
      have:b≠10:=by rintro rfl;grind[aq]
      grind
    rw[hh];simp only[aW];exact⟨_,rfl,G,s,⟨ai,rfl,R⟩,P,ay⟩
 rw[rG,cz];rcases xY h C with⟨f,a,g,i,o,y,j,z⟩|⟨g,i⟩
 ·rw[i,aR rfl];have B:a=(a.1,a.2.1,a.2.2.1,F,a.2.2.2.2.1,a.2.2.2.2.2.1,a.2.2.2.2.2.2.1,([]:bx),a.2.2.2.2.2.2.2.2):=by obtain⟨X,rfl,_⟩:=o;rfl
  rw[<-B];have A:hX false r F=(if aq f= .line then N jt (λ_=>a1 (.inl true)) f F else .ok (.inr false) f F):=by
   by_cases l:aq f= .line
   ·obtain⟨u,rfl⟩:=wD l;rw[bc l,ub g]
   ·rw[aO l,rH g l]
  rw[A];exact L bD false f F a (by have:=j.length_le;have:=h.b7;have:=e3 h.sfx;grind[gD]) y o z r j (λ_=>j.length_le)
 ·rw[i,aR rfl];have:hX false r F= .more [] (cW [] F []).1 (cW [] F []).2:=dt (iY g);rw[this];refine⟨e.tt F,?_,.inr ⟨rfl,rfl,rfl⟩⟩
  obtain⟨n,au⟩:∃n,bD=n+1:=⟨bD-1,by rw[gD]⟩
  dsimp only;rw[au,fl];unfold AP;dsimp only;have m:iW ((e.tt F).1,(e.tt F).2.1,(e.tt F).2.2.1,F,(e.tt F).2.2.2.2.1,(e.tt F).2.2.2.2.2.1,(e.tt F).2.2.2.2.2.2.1,[],(e.tt F).2.2.2.2.2.2.2.2)=some 0:=by have:=wO (e:=e) (r:=[]) nP e.ne 0 0 F [] [] true;rw[iO] at this;exact this
  rw[m,gy];rfl
def gN(b:UInt8):Bool:=(decide (97<=b)&&decide (b<=122))||decide (b=123)||decide (b=125)||decide (b=33)
def jw(r:H):H:=if r.dropWhile gN≠[]/\c1 (r.dropWhile gN)=true then r.takeWhile gN else []
theorem anF(b:UInt8):((b.toNat:Int)=33)↔b=33:=rN (c:=33)
theorem aaV(b:UInt8):((b.toNat:Int)=125)↔b=125:=rN (c:=125)
theorem anG{e:cm}{I:Z}{j:Int->Option H}(d:I.1=e.S)(du:e.S.length<=1000000):∀(n:Nat)(r:H),r.length<n->r<:+e.S->fixF (Mi I j) n (ax e.S r)=j (ax e.S (r.dropWhile gN)):=by
 intro n;induction n with
 |zero=>omega
 |succ n f=>
  intro r au c;rw[fl];generalize fixF (Mi I j) n=k at f;unfold Mi;rw[d];cases r with
  |nil=>simp[iO,a4]
  |cons b t=>
   have g:0<=ax e.S (b::t)/\ax e.S (b::t)<(e.S.length:Int):=iy c;have a:∀p:Prop,(p->0<=ax e.S (b::t)/\ax e.S (b::t)<(e.S.length:Int)):=λp _=>g
   rw[b1 (a _),b1 (λ_=>a _),b1 (λ_=>a _),b1 (λ_=>a _),b1 (λ_=>a _)];simp only[nN c,bA,aL,j2 c,jj du c,TF,TG,C_,aaV,anF];have az:(bif(bif(bif(bif decide (97<=b) then decide (b<=122) else false) then true else decide (b=123)) then true else decide (b=125)) then true else decide (b=33))=gN b:=by simp[gN,decide]
   grind[gN,List.dropWhile_cons_of_pos,List.length_cons,eo,List.dropWhile_cons_of_neg]
theorem wR{e:cm}{r:H}{F:ah}{ai:Bool}(h:cI e r F):mx (e.st r F ai)=some (jw r):=by
 unfold mx a7;have q:(e.st r F ai).1=e.S:=rfl;have U:(e.st r F ai).2.1=ax e.S r:=rfl;have ay:=anG (e:=e) (I:=e.st r F ai) (j:=λc=>(a4 (((decide (c<(e.S.length:Int)))=true)->0<=c/\c<(e.S.length:Int))<|(cZ ((decide (c<(e.S.length:Int)))=true) (Cw (at' e.S c)) false λ(f:Bool)=>(a4 ((f=false)->((decide (c<(e.S.length:Int)))=true)->0<=c/\c<(e.S.length:Int))<|(cZ ((bif f then true else(decide (((at' e.S c).toNat:Int)=(10:Int))))=false/\(decide (c<(e.S.length:Int)))=true) (AH e.S c) [] λ(k:H)=>(bif(bif(decide (c<(e.S.length:Int))) then(bif(bif f then true else(decide (((at' e.S c).toNat:Int)=(10:Int)))) then true else(!(decide (k=[])))) else false) then(a4 (0<=ax e.S r/\ax e.S r<=c/\c<=(e.S.length:Int))<|some (b4 e.S (ax e.S r) c)) else some ([]))))))) rfl h.b7 bD r (mj (kB (e3 h.sfx) h.b7)) h.sfx;refine Eq.trans ay ?_;have Y:r.dropWhile gN<:+r:=List.dropWhile_suffix _;have d:=Y.trans h.sfx;have i:0<=ax e.S r/\ax e.S r<=ax e.S (r.dropWhile gN)/\ax e.S (r.dropWhile gN)<=(e.S.length:Int):=by have:=Y.length_le;have:=e3 h.sfx;grind[ax]
 have m:b4 e.S (ax e.S r) (ax e.S (r.dropWhile gN))=r.takeWhile gN:=by rw[Jd h.sfx Y];have n:=OV (p:=gN) (l:=r);generalize r.takeWhile gN=a at*;generalize r.dropWhile gN=b at*;rw[<-n];simp
 unfold jw;cases o:r.dropWhile gN with
 |nil=>simp[iO,a4,cZ]
 |cons b t=>
  rw[o] at d i m;have g:=iy d;rw[b1 (λ_=>g)];simp only[nN d,bA,j2 d,TY,gy,cK];refine Eq.trans (b1 (λ_ _=>⟨g.1,trivial⟩)) ?_;simp only[TX h.b7 d,gy,qd,and_true,aL];have s:c1 (b::t)=(fJ b||decide (b=10)|| !decide (bs (b::t)=[])):=by show(fJ b||(b==10)||(bs (b::t)!=[]))=_;grind
  grind[fJ,a4,bs]
theorem NG{b:UInt8}(h:gN b=true):fJ b=false/\b≠10/\b≠92/\b≠39/\b≠34/\b≠96/\b≠36/\b≠35/\o1 b=false:=by
 have M:(97<=b.toNat/\b.toNat<=122)\/b.toNat=123\/b.toNat=125\/b.toNat=33:=by
  unfold gN at h;simp only[yl,hH,VI,DT] at h;have a:(97:UInt8).toNat=97:=rfl;have c:(122:UInt8).toNat=122:=rfl;rw[a,c] at h;rcases h with((h|h)|h)|h
  ·omega
  ·simp_all
  ·simp_all
  simp_all
 have d:b=UInt8.ofNat b.toNat:=by simp
 generalize b.toNat=n at*;subst d;have:n=97\/n=98\/n=99\/n=100\/n=101\/n=102\/n=103\/n=104\/n=105\/n=106\/n=107\/n=108\/n=109\/n=110\/n=111\/n=112\/n=113\/n=114\/n=115\/n=116\/n=117\/n=118\/n=119\/n=120\/n=121\/n=122\/n=123\/n=125\/n=33:=by omega
 rcases this with rfl|rfl|rfl|rfl|rfl|rfl|rfl|rfl|rfl|rfl|rfl|rfl|rfl|rfl|rfl|rfl|rfl|rfl|rfl|rfl|rfl|rfl|rfl|rfl|rfl|rfl|rfl|rfl|rfl<;>decide
theorem aaW{b:UInt8}{t:H}(h:gN b=true):c1 (b::t)=false:=by obtain⟨M,U,_,_,_,_,_,_,a⟩:=NG h;show(fJ b||b==10||bs (b::t)!=[])=false;grind[mU]
theorem anI{b:UInt8}{t:H}(h:gN b=true):gG (b::t)=false:=by simp_all[NG,tb]
theorem aaX:∀(r:H),c1 (r.dropWhile gN)=true->dc r=(r.takeWhile gN,true)
 |[],_=>by decide
 |b::t,h=>by
  cases a:gN b with
  |true=>rw[VB a] at h;obtain⟨M,U,c,d,e,f,g,i,j⟩:=NG a;unfold dc;simp_all[aaW,aO,anI,aaX,List.takeWhile_cons_of_pos]
  |false=>simp_all[Kn,dc,bc,VG]
theorem x1(b:UInt8)(t:H):aq (b::t)=if b=10 then Tok.line else if bs (b::t)≠[] then .op (bs (b::t)) else .word (dc (b::t)).1 (dc (b::t)).2:=rfl
theorem sq{r w:H}(e:dK r)(i:w≠[])(f:w.all gN=true):jw r=w↔aq r= .word w true:=by
 unfold jw;constructor
 ·intro h;split at h
  ·rename_i az;have aE:=aaX r az.2;cases r with
   |nil=>simp_all
   |cons b t=>
    have j:gN b=true:=by grind[gN,List.takeWhile_cons_of_neg,absurd]
    simp_all[NG,x1,aO,mU]
  grind
 ·intro h;cases r with
  |nil=>grind[aq]
  |cons b t=>
   have aE:dc (b::t)=(w,true):=by grind[x1,Prod.ext]
   obtain⟨v,a⟩:=(Fx _ _ aE).1;have he:=Np _ _ aE;rw[<-a,oN] at he;have g:v≠[]:=by
    rintro rfl;rw[kj] at a;rcases e with h0|⟨s,h0⟩
    ·cases h0
    grind[gN,List.all_eq_true,absurd]
   have aD:v.dropWhile gN=v/\v.takeWhile gN=[]:=by
    cases v with
    |nil=>simp
    |cons c u=>grind[gN,aaW,List.dropWhile_cons_of_neg,List.takeWhile_cons_of_neg]
   have d:∀x∈w,gN x=true:=pI.1 f
   rw[<-a,List.dropWhile_append_of_pos d,aD.1,bc ⟨g,he⟩,List.takeWhile_append_of_pos d,aD.2,kj]
theorem Jy{r w:H}(a:dK r)(b:w≠[])(c:w.all gN=true):decide (jw r=w)=cG (aq r) w:=by have:=sq a b c;grind[cG,jw,decide_eq_true,decide_eq_false,aq]
theorem aaY{r:H}{L:bx}(a:dK r)(bk:∀w∈L,w≠[]/\w.all gN=true):L.contains (jw r)=(match aq r with| .word w true=>L.contains w|_=>false):=by
 rw[Bool.eq_iff_iff];constructor
 ·intro h;have hm:=List.contains_iff_mem.1 h;obtain⟨M,U⟩:=bk _ hm;have:=(sq a M U).1 rfl;grind
 grind[aq,List.contains_iff_mem,sq]
theorem anJ{r:H}(a:dK r):oC (jw r)=(match aq r with| .word w true=>oC w|_=>false):=by unfold oC;exact aaY a (by decide)
theorem anK{r:H}(a:dK r):rB (jw r)=(match aq r with| .word w true=>rB w|_=>false):=by unfold rB;exact aaY a (by decide)
theorem mB{r o:H}(a:o≠[]):aq r= .op o↔bs r=o:=by
 constructor
 ·intro h;exact(h4 h).1.symm
 ·intro h;cases r with
  |nil=>simp_all[bs,kd,uF,List.isPrefixOf,absurd]
  |cons b t=>
   have c:b≠10:=by rintro rfl;rw[mU (by decide)] at h;grind
   simp_all[x1,aO,bc]
theorem aaZ{r:H}(a:dK r):(decide (bs r=[40])||oC (jw r))=gg (aq r):=by rw[anJ a];grind[gg,bs,mB,aq,decide_eq_false]
theorem anL{e:cm}{I:Z}{j:Int->Option Bool}(c:I.1=e.S)(du:e.S.length<=1000000):∀(n:Nat)(r:H),r.length<n->r<:+e.S->fixF (Mo I j) n (ax e.S r)=j (ax e.S (r.dropWhile ch)):=by
 intro n;induction n with
 |zero=>omega
 |succ n d=>
  intro r au a;rw[fl];generalize fixF (Mo I j) n=k at d;unfold Mo;rw[c];cases r with
  |nil=>simp[iO,a4]
  |cons b t=>
   have g:=iy a;rw[b1 (λ_=>g),b1 (λ_=>g)];simp only[nN a,bA,aL,j2 a,jj du a,TH,TI];have az:(bif decide (48<=b) then decide (b<=57) else false)=ch b:=by simp[ch,decide]
   grind[ch,List.dropWhile_cons_of_pos,List.length_cons,eo,List.dropWhile_cons_of_neg]
theorem T6{e:cm}{r:H}{F:ah}{ai:Bool}(h:cI e r F):CA (e.st r F ai)=some (decide (r.dropWhile ch≠r)&&ff (bs (r.dropWhile ch))):=by
 unfold CA a7;have Y:r.dropWhile ch<:+r:=List.dropWhile_suffix _;have ay:=anL (e:=e) (I:=e.st r F ai) (j:=λa=>cZ ((decide (ax e.S r<a))=true) (AH e.S a) [] λ(b:H)=>(cZ ((decide (ax e.S r<a))=true) (xD b) false λ(c:Bool)=>some (bif(decide (ax e.S r<a)) then c else false))) rfl h.b7 bD r (mj (kB (e3 h.sfx) h.b7)) h.sfx;refine Eq.trans ay ?_;rw[TX h.b7 (Y.trans h.sfx),gy];have f:decide (ax e.S r<ax e.S (r.dropWhile ch))=decide (r.dropWhile ch≠r):=by
  by_cases d:r.dropWhile ch=r
  ·grind
  ·have:(r.dropWhile ch).length<r.length:=by
    rcases OX (r.dropWhile ch).length r.length with M|M
    ·exact M
    ·exact absurd (Y.eq_of_length (Nat.le_antisymm Y.length_le M)) d
   grind[ax,ch]
 grind[F4,gy,decide,ch]
theorem NH(r:H):(ff (bs r)||(decide (r.dropWhile ch≠r)&&ff (bs (r.dropWhile ch))))=ff (bs (r.dropWhile ch)):=by
 by_cases h:r.dropWhile ch=r
 ·grind
 ·have h0:bs r=[]:=by
   cases r with
   |nil=>simp_all
   |cons b t=>
    cases a:ch b with
    |true=>simp_all[mU,A6]
    |false=>simp_all
  simp_all[ff]
theorem T7{e:cm}{r:H}{F:ah}{ai:Bool}(h:cI e r F)(k:Nat)(av:k<=1000):vc (e.st r F ai) k=some ((r.drop k).headD 0):=by
 unfold vc;have ay:=e3 h.sfx;have d:=h.b7;have M:(e.st r F ai).2.1=ax e.S r:=rfl;have U:(e.st r F ai).1=e.S:=rfl;have aE:0<=ax e.S r/\ax e.S r<=(e.S.length:Int):=by grind[ax]
 have a:W (ax e.S r+(k:Int))=ax e.S r+k:=dJ (by omega) (by omega);rw[M,U,a];by_cases f:k<r.length
 ·have Y:r.drop k<:+e.S:=(lO k r).trans h.sfx;have c:ax e.S r+(k:Int)=ax e.S (r.drop k):=by grind[ax,List.length_drop]
  rw[c];cases aD:r.drop k with
  |nil=>grind
  |cons b t=>rw[aD] at Y;simp only[nN Y,bA,aL];simp_all[b1,iy,trivial,trans,j2]
 grind[ax,List.drop_eq_nil_of_le]
theorem tg{α β b:Type}{m:Option α}{f:α->Option β}{g:β->Option b}:aw (aw m f) g=aw m (λa=>aw (f a) g):=by cases m<;>rfl
theorem T8{α β:Type}{b:Bool}{x y:Option α}{g:α->Option β}:aw (bif b then x else y) g=bif b then aw x g else aw y g:=by grind
theorem oL{α β:Type}{a:α}{g:α->Option β}:aw (some a) g=g a:=rfl
theorem aa0{R:bj}{a b:H}:∀(n:Nat)(x:Z),fixF (y9 R λst=>aw (gZ st a b) λy=>some y) n x=aw (fixF (y9 R λst=>some st) n x) λst=>gZ st a b
 |0,x=>rfl
 |n+1,x=>by
  rw[fl,fl];have c:=aa0 (R:=R) (a:=a) (b:=b) n;generalize fixF (y9 R λst=>aw (gZ st a b) λy=>some y) n=o at c;generalize fixF (y9 R λst=>some st) n=p at c;obtain⟨e,f,g,i,d,j,k,l,m⟩:=x;unfold y9 a7;dsimp only;by_cases h:d=0
  ·subst h;simp only[bA,aL,tg,T8,c,oL];rfl
  ·simp only[h,bG,aW,oL];cases gZ (e,f,g,i,d,j,k,l,m) a b<;>rfl
theorem aa1{R:bj}{a b:H}:∀(n:Nat)(x:Z),fixF (zh R λst=>aw (gZ st a b) λy=>some y) n x=aw (fixF (zh R λst=>some st) n x) λst=>gZ st a b
 |0,x=>rfl
 |n+1,x=>by
  rw[fl,fl];have c:=aa1 (R:=R) (a:=a) (b:=b) n;generalize fixF (zh R λst=>aw (gZ st a b) λy=>some y) n=o at c;generalize fixF (zh R λst=>some st) n=p at c;obtain⟨e,f,g,i,d,j,k,l,m⟩:=x;unfold zh a7;dsimp only;by_cases h:d=0
  ·subst h;simp only[bA,aL,tg,T8,c,oL];rfl
  ·simp only[h,bG,aW,oL];cases gZ (e,f,g,i,d,j,k,l,m) a b<;>rfl
theorem cI.zC{e:cm}{b:UInt8}{t:H}{F:ah}(h:cI e (b::t) F)(a:b≠10):t≠[]:=by
 rintro rfl;have:=h.nl.iE h.sfx;rcases this with M|⟨s,M⟩
 ·cases M
 ·have:=mC List.getLast? M;grind
theorem dK.last{t:H}(h:dK t)(a:t≠[]){x:H}{b:UInt8}(he:t=x++[b]):b=10:=by
 rcases h with M|⟨s,M⟩
 ·grind
 simp_all
theorem anM:∀(n:Nat)(r q:H),r.length<=n->hE r=some q->∃x,r=x++96::q:=by
 intro n;induction n with
 |zero=>simp_all[m4,Nat.le_zero,hE]
 |succ n d=>
  intro r q au h;cases r with
  |nil=>grind
  |cons b t=>
   unfold hE at h;split at h
   ·simp_all
   ·split at h
    ·cases t with
     |nil=>cases h
     |cons c u=>obtain⟨x,a⟩:=d u q (by simp only[j5] at au;omega) h;exact⟨b::c::x,by rw[a];rfl⟩
    ·obtain⟨x,a⟩:=d t q (by simp only[j5] at au;omega) h;exact⟨b::x,by rw[a];rfl⟩
theorem aa2:∀(r q:H),gw r=some q->∃x,r=x++39::q
 |[],q,h=>by grind[gw]
 |b::t,q,h=>by
  unfold gw at h;split at h
  ·rename_i a;cases h;subst a;exact⟨[],rfl⟩
  ·obtain⟨x,c⟩:=aa2 t q h;exact⟨b::x,by rw[c];rfl⟩
theorem T9{t x q:H}{c:UInt8}(az:c≠10)(h:dK t)(he:t=x++c::q):q≠[]:=by rintro rfl;exact az (h.last (by simp_all) he)
structure k_(R:bj)(n:Nat):Prop where
 im:∀(e:cm),e.ne=30- (n:Int)->∀(t:H)(F:ah)(ai:Bool),cI e (36::t) F->bR false e (36::t) (a9 true n (36::t) F) (λst=>st) (λ_ _ _=>True) (R.vV (e.st (36::t) F ai))
theorem F8{e:cm}{r0 r:H}{F:ah}{f:Unit->ae (Unit⊕Unit)}{part:ae Unit}{y:Option Z}{β:Type}{pr:β->Z}{cv:Unit->H->β->Prop}{k:Z->Option β}
  (hm:bR false e r0 (part r F) (λst=>st) (λ_ _ _=>True) y) (ay:∀a r' c,part r F= .ok a r' c->r'.length<r.length)
  (av:∀r' c g,r'<:+r0->cI e r' c->r'.length<r.length->gA e r' c g->bR false e r0 (b8 f () r' c) pr cv (k g))
  (h:∀x,x.2.2.2.2.1≠0->∃b,k x=some b/\pr b=x):
  bR false e r0 (cR f r (N part (λ_=>a1 (.inl ())) r F)) pr cv (aw y k):=by
 refine bR.iZ c_.k hm (λa ad i d j s1 l m _=>?_) (λop nd ds d _ n=>?_) (λd o=>?_)
 ·have:=ay a ad i j;exact bR.inl this (av ad i d s1 l this m)
 ·obtain⟨b,p,q⟩:=h d (by rw[n.z.1];decide);grind
 ·obtain⟨b,p,q⟩:=h d (by rw[o.1];decide);grind
theorem T_{e:cm}{t:H}{F:ah}{ai:Bool}(h:cI e (92::t) F):y8 (e.st (92::t) F ai)=some (e.st (t.drop 1) F ai):=by
 have b:=h.zC (by decide);cases t with
 |nil=>grind
 |cons c u=>
  have a:W (ax e.S (92::c::u)+2)=ax e.S u:=k9 (w:=[92,c]) h.b7 h.sfx;unfold y8;have M:(e.st (92::c::u) F ai).2.1=ax e.S (92::c::u):=rfl;rw[M,a];have:¬((e.st (92::c::u) F ai).1.length:Int)<ax e.S u:=by have:= @pz u e.S;show¬(e.S.length:Int)<ax e.S u;omega
  simp only[this,bG,aW];rfl
theorem Ua{e:cm}{t r0:H}{F:ah}{ai:Bool}(h:cI e (96::t) F)(h0:96::t<:+r0):bR false e r0 (jS hE [96] t F) (λst=>st) (λ_ _ _=>True) (aw (CC e.S (W (ax e.S (96::t)+1))) λy=>tU (e.st (96::t) F ai) y [96] [96]):=by rw[jj h.b7 h.sfx,anq h.b7 (eo h.sfx),aR rfl];unfold jS;have b:=(h.nl.iE h.sfx).tail;refine aaT h h0 (λq a=>(FG _ _ q (cF _) a).trans (dL _ _)) (by decide) (by grind) λq a c=>?_;obtain⟨x,d⟩:=anM _ _ _ (cF _) a;grind[absurd,T9]
theorem aa3{e:cm}{t r0:H}{F:ah}{ai:Bool}(h:cI e (39::t) F)(h0:39::t<:+r0):bR false e r0 (jS gw [39] t F) (λst=>st) (λ_ _ _=>True) (aw (E6 e.S (W (ax e.S (39::t)+1))) λy=>tU (e.st (39::t) F ai) y [39] [39]):=by rw[jj h.b7 h.sfx,ano h.b7 (eo h.sfx),aR rfl];unfold jS;have b:=(h.nl.iE h.sfx).tail;refine aaT h h0 (λq a=>(A1 _ q a).trans (dL _ _)) (by decide) (by grind) λq a c=>?_;grind[aa2,absurd,T9]
theorem Jz(fr:Bool)(n:Nat){t:H}{F:ah}(h:gG (36::t)=false):a9 fr n (36::t) F= .ok () t F:=by rw[F1];unfold dG;rw[tb] at h;grind
theorem Ub(fr:Bool)(n:Nat){t:H}{F:ah}{a:Unit}{r':H}{b:ah}(h:a9 fr n (36::t) F= .ok a r' b):r'.length<(36::t).length:=by
 cases c:gG (36::t) with
 |true=>exact(mL fr n).lt c h
 |false=>grind[Jz]
theorem Dl(fr:Bool)(n:Nat)(dq:Option (ae Unit))(t:H)(F:ah):cJ (a9 fr n) dq (36::t) F=a9 fr n (36::t) F:=by
 unfold cJ;simp only;rw[aO (by decide),aO (by decide)];cases a:gG (36::t) with
 |true=>simp
 |false=>grind[Jz]
theorem F9{D:ae Unit}{dq:Option (ae Unit)}{b:UInt8}{t:H}{F:ah}(a:b≠92)(c:b≠96)(d:b≠36)(e:dq=none\/(b≠39/\b≠34)):cJ D dq (b::t) F= .ok () t F:=by
 unfold cJ;simp only;have f:gG (b::t)=false:=by grind[tb]
 grind
section
variable{R:bj}{n:Nat}(hD:k_ R n){e:cm}(bf:e.ne=30- (n:Int))
include hD bf
theorem anN{r:H}{F:ah}{ai:Bool}(h:cI e r F):bR false e r (jD 34 (cJ (a9 true n) none) r F) (λst=>st) (λ_ _ _=>True) (fixF (y9 R λst=>some st) bD (e.st r F ai)):=by
 unfold jD;refine bR.rep (en:=λ_ r F x=>∃ai,x=e.st r F ai) (λk s r F x c l P av=>?_) bD () r F _ (wQ h) h ⟨ai,rfl⟩;obtain⟨ai,rfl⟩:=l
 have E:∀x:Z,x.2.2.2.2.1≠0->k x=some x:=by intro x l;obtain⟨k',M⟩:=P x;simp_all[y9]
 have G:∀x:Z,x.2.2.2.2.1≠0->∃b,k x=some b/\b=x:=λx l=>⟨x,E x l,rfl⟩
 have I:∀r' d m,r'<:+r->cI e r' d->r'.length<r.length->gA e r' d m->bR false e r (b8 (λ_ r F=>match r with
  |[]=>cf [] r F
  |b::t=>if b=34 then .ok (.inr ()) t F else(N (cJ (a9 true n) none) λ_=>a1 (.inl ())) r F) () r' d) (λst=>st) (λ_ _ _=>True) (k m):=λr' d m Q ak a3 S=>av () r' d m Q ak a3 (by obtain⟨ai,M,_⟩:=S;grind)
 unfold y9 a7 cm.st;dsimp only;simp only[bA,aL];rw[wN,aR rfl];cases r with
 |nil=>
  simp only[bA,aL];obtain⟨o,T,J⟩:=F6 (ai:=ai) (x:=[]) c (by simp);have U:hS (e.S,ax e.S [],e.ne,F,0,0,[],[],ai) []=some o:=T;rw[U,aR rfl];refine⟨o,?_,?_⟩
  ·exact E o (by rw[J.1];decide)
  ·exact J.s
 |cons b t=>
  have j:t<:+b::t:=dL b t;have K:=jj c.b7 c.sfx;simp only[reduceCtorEq,bG,aW];have V:∀p u v w y z A,iW (e.S,ax e.S (b::t),p,w,u,v,y,z,A)=some b:=λp u v w y z A=>wO c.sfx p u v w y z A
  rw[V];simp only[oL,oG,ng,oF,qU,K];by_cases L:b=34
  ·subst L;simp only[bA,aL,cK];exact⟨_,rfl,j,c.mono j,⟨ai,rfl,λW=>absurd W (c.zC (by decide))⟩,trivial⟩
  simp only[L,bG,aW,cA];by_cases B:b=92
  ·subst B;simp only[bA,aL];have aE:y8 (e.S,ax e.S (92::t),e.ne,F,0,0,[],[],ai)=some (e.st (t.drop 1) F ai):=T_ c;rw[aE,aR rfl];have aD:t.drop 1<:+92::t:=(lO 1 t).trans j;have ay:(t.drop 1).length<(92::t).length:=by grind
   have i:N (cJ (a9 true n) none) (λ_=>(a1 (.inl ()):ae (Unit⊕Unit))) (92::t) F= .ok (.inl ()) (t.drop 1) F:=by rfl
   rw[i];exact bR.inl ay (av () _ F _ aD (c.mono aD) ay ⟨ai,rfl⟩)
  simp only[B,bG,aW];by_cases C:b=96
  ·subst C;simp only[bA,aL];have i:cJ (a9 true n) none (96::t) F=jS hE [96] t F:=by rfl
   have:=F8 (f:=λ_ r F=>match r with
    |[]=>cf [] r F
    |b::t=>if b=34 then .ok (.inr ()) t F else(N (cJ (a9 true n) none) λ_=>a1 (.inl ())) r F) (part:=cJ (a9 true n) none) (r:=96::t) (F:=F) (pr:=λst=>st) (cv:=λ_ _ _=>True) (k:=k) (by rw[i];exact Ua (ai:=ai) c fq) (λa r' d g=>by
     rw[i] at g;unfold jS at g;cases O:hE t with
     |none=>grind
     |some q=>rw[O] at g;cases g;have:=(FG _ _ _ (cF _) O).length_le;grind) I G
   rw[K,tg] at this;exact this
  simp only[C,bG,aW];by_cases D:b=36
  ·subst D;simp only[bA,aL];exact F8 (part:=cJ (a9 true n) none) (by rw[Dl];exact hD.im e bf t F ai c) (λa r' d g=>by rw[Dl] at g;exact Ub true n g) I G
  ·simp only[D,bG,aW];have i:N (cJ (a9 true n) none) (λ_=>(a1 (.inl ()):ae (Unit⊕Unit))) (b::t) F= .ok (.inl ()) t F:=by unfold N;rw[F9 B C D (.inl rfl)];rfl
   rw[i];exact bR.inl (by simp) (av () _ F _ j (c.mono j) (by simp) ⟨ai,rfl⟩)
theorem aa4{t r0:H}{F:ah}{ai:Bool}(h:cI e (34::t) F)(h0:34::t<:+r0)(j:r0<:+e.S):bR false e r0 (e2 (a9 true n) t F) (λst=>st) (λ_ _ _=>True) (Ij R (e.st (34::t) F ai)):=by
 have k:=jj h.b7 h.sfx;have d:t<:+34::t:=dL 34 t;have g:=h.mono d;unfold Ij a7;have l:((e.st (34::t) F ai).1,W ((e.st (34::t) F ai).2.1+1),(e.st (34::t) F ai).2.2.1,(e.st (34::t) F ai).2.2.2.1,(e.st (34::t) F ai).2.2.2.2.1,(e.st (34::t) F ai).2.2.2.2.2.1,(e.st (34::t) F ai).2.2.2.2.2.2.1,(e.st (34::t) F ai).2.2.2.2.2.2.2.1,(e.st (34::t) F ai).2.2.2.2.2.2.2.2)=e.st t F ai:=by show(e.S,W (ax e.S (34::t)+1),e.ne,F,(0:Int),(0:Int),([]:H),([]:bx),ai)=_;rw[k];rfl
 rw[l];have m:=aa0 (R:=R) (a:=[34]) (b:=[34]) bD (e.st t F ai);refine bR.ei ?_ m;obtain⟨f,o,c⟩:=anN hD bf (ai:=ai) g;rw[o,aR rfl];unfold e2 ae.named ae.aM;have i:=aJ.C6 (n:=11) (aJ.part (xR true n▸(um true n).dl) (dq:=none) (λq h=>by cases h)) 34 t F;cases hm:jD 34 (cJ (a9 true n) none) t F with
 |ok a ad v=>rw[hm] at c;obtain⟨p,ak,a3,_⟩:=c;refine⟨f,qg ?_,p.trans (d.trans h0),ak,a3,trivial⟩;obtain⟨w,rfl,_⟩:=a3;show(0:Int)≠1;decide
 |more op nd ds=>rw[hm] at c i;simp only[ep] at i;have aE:=g.kf;obtain⟨r,s,u⟩:=xZ (nm:=[34]) (x:=[34]) (r0:=r0) (ad:=t) c.z (d.trans h0) j (.inr (by grind)) (by grind) h.b7 (by simp);exact⟨r,s,u.s⟩
 |bad q=>rw[hm] at c;exact⟨f,qg (by rw[c.1];decide),jk.mono c (d.trans h0)⟩
 |deep q=>rw[hm] at c;exact⟨f,qg (by rw[c.1];decide),jk.mono c (d.trans h0)⟩
theorem anO{r:H}{F:ah}{ai:Bool}(h:cI e r F):bR false e r (jD 125 (cJ (a9 true n) (some (e2 (a9 true n)))) r F) (λst=>st) (λ_ _ _=>True) (fixF (zh R λst=>some st) bD (e.st r F ai)):=by
 unfold jD;refine bR.rep (en:=λ_ r F x=>∃ai,x=e.st r F ai) (λk s r F x d o S av=>?_) bD () r F _ (wQ h) h ⟨ai,rfl⟩;obtain⟨ai,rfl⟩:=o
 have P:∀x:Z,x.2.2.2.2.1≠0->k x=some x:=by intro x o;obtain⟨k',M⟩:=S x;rw[M];unfold zh;grind
 have p:∀x:Z,x.2.2.2.2.1≠0->∃b,k x=some b/\b=x:=λx o=>⟨x,P x o,rfl⟩
 have u:∀r' i v,r'<:+r->cI e r' i->r'.length<r.length->gA e r' i v->bR false e r (b8 (λ_ r F=>match r with
  |[]=>cf [] r F
  |b::t=>if b=125 then .ok (.inr ()) t F else(N (cJ (a9 true n) (some (e2 (a9 true n)))) λ_=>a1 (.inl ())) r F) () r' i) (λst=>st) (λ_ _ _=>True) (k v):=λr' i v T ak a3 U=>av () r' i v T ak a3 (by obtain⟨ai,M,_⟩:=U;grind)
 unfold zh a7 cm.st;dsimp only;simp only[bA,aL];rw[wN,aR rfl];cases r with
 |nil=>
  simp only[bA,aL];obtain⟨w,V,Q⟩:=F6 (ai:=ai) (x:=[]) d (by simp);have W:hS (e.S,ax e.S [],e.ne,F,0,0,[],[],ai) []=some w:=V;rw[W,aR rfl];refine⟨w,?_,?_⟩
  ·exact P w (by rw[Q.1];decide)
  ·exact Q.s
 |cons b t=>
  have j:t<:+b::t:=dL b t;have y:=jj d.b7 d.sfx;simp only[reduceCtorEq,bG,aW];have X:∀z A B C D E G,iW (e.S,ax e.S (b::t),z,C,A,B,D,E,G)=some b:=λz A B C D E G=>wO d.sfx z A B C D E G
  rw[X];simp only[oL,oG,ng,oF,qU,rM,aaV,y];by_cases l:b=125
  ·subst l;simp only[bA,aL,cK];exact⟨_,rfl,j,d.mono j,⟨ai,rfl,λY=>absurd Y (d.zC (by decide))⟩,trivial⟩
  simp only[l,bG,aW,cA];by_cases I:b=92
  ·subst I;simp only[bA,aL];have aE:y8 (e.S,ax e.S (92::t),e.ne,F,0,0,[],[],ai)=some (e.st (t.drop 1) F ai):=T_ d;rw[aE,aR rfl];have aD:t.drop 1<:+92::t:=(lO 1 t).trans j;have ay:(t.drop 1).length<(92::t).length:=by grind
   have g:N (cJ (a9 true n) (some (e2 (a9 true n)))) (λ_=>(a1 (.inl ()):ae (Unit⊕Unit))) (92::t) F= .ok (.inl ()) (t.drop 1) F:=by rfl
   rw[g];exact bR.inl ay (av () _ F _ aD (d.mono aD) ay ⟨ai,rfl⟩)
  simp only[I,bG,aW];by_cases J:b=39
  ·subst J;simp only[bA,aL];have g:cJ (a9 true n) (some (e2 (a9 true n))) (39::t) F=jS gw [39] t F:=by rfl
   have:=F8 (f:=λ_ r F=>match r with
    |[]=>cf [] r F
    |b::t=>if b=125 then .ok (.inr ()) t F else(N (cJ (a9 true n) (some (e2 (a9 true n)))) λ_=>a1 (.inl ())) r F) (part:=cJ (a9 true n) (some (e2 (a9 true n)))) (r:=39::t) (F:=F) (pr:=λst=>st) (cv:=λ_ _ _=>True) (k:=k) (by rw[g];exact aa3 (ai:=ai) d fq) (λa r' i c=>by
     rw[g] at c;unfold jS at c;cases m:gw t with
     |none=>grind
     |some q=>rw[m] at c;cases c;have:=(A1 _ _ m).length_le;grind) u p
   rw[y,tg] at this;exact this
  simp only[J,bG,aW];by_cases K:b=34
  ·subst K;simp only[bA,aL];have g:cJ (a9 true n) (some (e2 (a9 true n))) (34::t) F=e2 (a9 true n) t F:=by rfl
   refine F8 (part:=cJ (a9 true n) (some (e2 (a9 true n)))) (by rw[g];exact aa4 hD bf d fq d.sfx) (λa r' i c=>?_) u p;rw[g] at c;have:=((ar.double (mL true n)).sfx c).length_le;grind
  simp only[K,bG,aW];by_cases L:b=96
  ·subst L;simp only[bA,aL];have g:cJ (a9 true n) (some (e2 (a9 true n))) (96::t) F=jS hE [96] t F:=by rfl
   have:=F8 (f:=λ_ r F=>match r with
    |[]=>cf [] r F
    |b::t=>if b=125 then .ok (.inr ()) t F else(N (cJ (a9 true n) (some (e2 (a9 true n)))) λ_=>a1 (.inl ())) r F) (part:=cJ (a9 true n) (some (e2 (a9 true n)))) (r:=96::t) (F:=F) (pr:=λst=>st) (cv:=λ_ _ _=>True) (k:=k) (by rw[g];exact Ua (ai:=ai) d fq) (λa r' i c=>by
     rw[g] at c;unfold jS at c;cases m:hE t with
     |none=>grind
     |some q=>rw[m] at c;cases c;have:=(FG _ _ _ (cF _) m).length_le;grind) u p
   rw[y,tg] at this;exact this
  simp only[L,bG,aW];by_cases O:b=36
  ·subst O;simp only[bA,aL];exact F8 (part:=cJ (a9 true n) (some (e2 (a9 true n)))) (by rw[Dl];exact hD.im e bf t F ai d) (λa r' i c=>by rw[Dl] at c;exact Ub true n c) u p
  ·simp only[O,bG,aW];have g:N (cJ (a9 true n) (some (e2 (a9 true n)))) (λ_=>(a1 (.inl ()):ae (Unit⊕Unit))) (b::t) F= .ok (.inl ()) t F:=by unfold N;rw[F9 I L O (.inr ⟨J,K⟩)];rfl
   rw[g];exact bR.inl (by simp) (av () _ F _ j (d.mono j) (by simp) ⟨ai,rfl⟩)
end
def jV:Ctx->H
 | .text=>[]| .paren=>[41]| .item=>[59,59]|_=>[119]
def pA:Ctx->bx
 | .p9=>[[125]]| .sg=>[hT]| .qL=>[iv,gf,eh]| .kE=>[eh]| .p_=>[hp]| .done=>[jh]|_=>[]
def x2:Ctx->Bool->Bool
 | .text,_=>false
 | .paren,_=>true
 | .item,no=>no
 |_,no=> !no
structure o5(R:bj)(n:Nat):Prop where
 im:∀(e:cm)(c:Ctx)(no:Bool),x2 c no=true->e.ne=30- (n:Int)->∀(r:H)(F:ah)(st:Z),cI e r F->gA e r F st->bR false e r ((aU true n).ls c no r F) (λb=>b.2) (λa _ b=>b.1=(a:Int)) (R.ot st (jV c) (pA c) (!no))
def cm.up(e:cm):cm:=⟨e.S,e.ne+1⟩
theorem oJ.uq{e:cm}{r:H}{st:Z}(h:oJ e.up r st):oJ e r st:=⟨h.s,h.lo,h.bh,h.nd,h.op⟩
theorem cI.x3{e:cm}{r:H}{F:ah}(h:cI e r F):cI e.up r F:=⟨h.b7,h.nl,h.Ju,h.sfx,h.kf⟩
theorem cI.uq{e:cm}{r:H}{F:ah}(h:cI e.up r F):cI e r F:=⟨h.b7,h.nl,h.Ju,h.sfx,h.kf⟩
theorem qi{e:cm}{r r0:H}{F:ah}{ai:Bool}(p:Int)(h:cI e r F)(h0:r<:+r0):∃st,h9 (e.st r F ai) p=some st/\jk e r0 st:=by
 refine⟨_,rfl,rfl,rfl,?_,?_,?_,?_⟩
 ·show ax e.S r0<=ax e.S r;grind[ax]
 ·show ax e.S r<=_;have:= @pz r e.S;omega
 ·show([]:H).length+eC F<=_;have:=h.kf;grind
 ·show([]:bx).length<=_;simp
theorem anP{j:H->Option Z}{a:(Int×H)->Option Z}(x:H):Fh j a (0,x)=j x:=rfl
theorem anQ{j:H->Option Z}{a:(Int×H)->Option Z}(k:Nat)(x:H)(c:x.length+k<=100000000):Fh j a (((k+1:Nat):Int),x)=a ((k:Int),x++[41]):=by
 unfold Fh;dsimp only;have h0:(0:Int)<((k+1:Nat):Int):=by omega
 have b:W (((k+1:Nat):Int)-1)=(k:Int):=by grind[dJ]
 rw[decide_eq_true h0,aL,b1 (by grind),b]
theorem aa6{j:H->Option Z}:∀(n k:Nat)(x:H),k<n->x.length+k<=100000000->fixF (Fh j) n ((k:Int),x)=j (x++List.replicate k 41):=by
 intro n;induction n with
 |zero=>omega
 |succ n a=>
  intro k x h b;rw[fl];cases k with
  |zero=>simp[anP,trans,List.replicate_zero,List.append_nil]
  |succ k=>grind[anQ,List.length_append,List.length_singleton,List.append_assoc]
def zD(st:Z):Z:=(st.1,W (st.2.1+1),W (st.2.2.1-1),st.2.2.2.1,st.2.2.2.2.1,st.2.2.2.2.2.1,st.2.2.2.2.2.2.1,st.2.2.2.2.2.2.2.1,st.2.2.2.2.2.2.2.2)
def th(st:Z):Z:=(st.1,st.2.1,W (st.2.2.1-1),st.2.2.2.1,st.2.2.2.2.1,st.2.2.2.2.2.1,st.2.2.2.2.2.2.1,st.2.2.2.2.2.2.2.1,st.2.2.2.2.2.2.2.2)
theorem oJ.zD{e:cm}{ad r0:H}{st:Z}(h:oJ e ad st)(M:ad<:+r0)(h0:r0<:+e.S)(ay:ad.length<r0.length)(g:e.S.length<=1000000):oJ e r0 (zD st):=by
 have a:=h.lo;have b:=h.bh;have i:=e3 h0;have c:0<=ax e.S ad:=by grind[ax]
 have d:ax e.S r0<=ax e.S ad:=by grind[ax]
 have f:W (st.2.1+1)=st.2.1+1:=dJ (by omega) (by omega);refine⟨h.s,?_,?_,h.nd,?_⟩
 ·show _<=W (st.2.1+1);omega
 ·show W (st.2.1+1)<=_;omega
 ·have:=h.op;show st.2.2.2.2.2.2.2.1.length<=_;omega
theorem anT{e:cm}{ad:H}{st:Z}(h:oJ e ad st)(Y:ad<:+e.S)(c:e.S.length<=1000000)(ay:(e.S.length:Int)<=st.2.1):(e.S.length:Int)<=(zD st).2.1:=by have a:=h.bh;have d:=e3 Y;have b:W (st.2.1+1)=st.2.1+1:=dJ (by omega) (by omega);show _<=W (st.2.1+1);omega
theorem oJ.th{e:cm}{r0:H}{st:Z}(h:oJ e r0 st):oJ e r0 (th st):=⟨h.s,h.lo,h.bh,h.nd,h.op⟩
theorem Uc{α:Type}{m:ae α}{x n r:H}{F:ah}{a:α}{ad:H}{b:ah}(h:m r F= .ok a ad b):((m.aM x).named n) r F= .ok a ad b:=by grind[ae.named,ae.aM]
theorem Ud{α:Type}{m:ae α}{x n r:H}{F:ah}{op:bx}{nd:H}{ds:ah}(h:m r F= .more op nd ds):((m.aM x).named n) r F= .more (n::op) (cW nd ds x).1 (cW nd ds x).2:=by grind[ae.named,ae.aM]
theorem aa8{α:Type}{m:ae α}{x n r q:H}{F:ah}(h:m r F= .bad q):((m.aM x).named n) r F= .bad q:=by grind[ae.named,ae.aM]
theorem aa9{α:Type}{m:ae α}{x n r q:H}{F:ah}(h:m r F= .deep q):((m.aM x).named n) r F= .deep q:=by grind[ae.named,ae.aM]
theorem ki{α β:Type}{m:ae α}{k:α->ae β}{r q:H}{F:ah}(h:m r F= .deep q):N m k r F= .deep q:=by grind[N]
section
variable{R:bj}{n:Nat}(g9:∀m,n=m+1->k_ R m/\o5 R m)(au:n<=30){e:cm}(bf:e.ne=30- (n:Int))
include g9 au bf
theorem anU{t:H}{F:ah}{ai:Bool}(h:cI e (36::t) F):bR false e (36::t) (a9 true n (36::t) F) (λst=>st) (λ_ _ _=>True) (II R (e.st (36::t) F ai)):=by
 have D:t<:+36::t:=dL 36 t;have bZ:=jj h.b7 h.sfx;have uf:=h.zC (by decide);have NF:vc (e.st (36::t) F ai) 1=some (t.headD 0):=T7 h 1 (by decide);have K:vc (e.st (36::t) F ai) 2=some ((t.drop 1).headD 0):=T7 h 2 (by decide);unfold II;rw[NF];simp only[oL,C9,C_];rw[K,gy];cases t with
 |nil=>grind
 |cons c u=>
  simp only[zY,GS,ym];have NJ:c::u<:+e.S:=eo h.sfx;have z:u<:+36::c::u:=(dL c u).trans D;by_cases az:c=40
  ·subst az;simp only[bA,cK,aL];have lT:u≠[]:=(h.mono D).zC (by decide);cases u with
   |nil=>grind
   |cons d v=>
    simp only[zY];by_cases aD:d=40
    ·
     subst aD;simp only[bA,aL];have hg:W (ax e.S (36::40::40::v)+3)=ax e.S v:=k9 (w:=[36,40,40]) h.b7 h.sfx;have l:v<:+36::40::40::v:=fO [36,40,40] v;have aE:a9 true n (36::40::40::v) F=n3 v F:=by rw[F1];rfl
     rw[aE];have M:(e.st (36::40::40::v) F ai).1=e.S:=rfl;have U:(e.st (36::40::40::v) F ai).2.1=ax e.S (36::40::40::v):=rfl;rw[M,U,hg,ans h.b7 (l.trans h.sfx),aR rfl];unfold n3 a7;cases Y:iu 0 v with
     |bad q=>simp only[qV,show(decide ((-2:Int)= -2))=true from rfl,aL];obtain⟨st,g,f⟩:=qi (ai:=ai) (ax e.S q) h fq;rw[g,aR rfl];exact⟨_,rfl,f.1,f.2.s,f.2.lo,f.2.bh,by have:=f.2.nd;have i:=h.kf;cases g;omega,by cases g;exact f.2.op⟩
     |ok q=>
      have E:=AZ 0 v q Y;have ay:=e3 (E.trans (l.trans h.sfx));have h0:¬ax e.S q= -2:=by grind[ax]
      simp only[qV,h0,bG,aW];have jv:(0:Int)=((0:Nat):Int):=rfl;rw[jv,aa6 bD 0 [] (by simp[gD]) (by simp)]
      have:=T2 (q:=false) (ai:=ai) (o:=some q) (nm:=[36,40,40]) (x:=[]) h fq (λL G=>by grind) (by simp) (by simp) (by simp) (λL G mi=>by
       cases G;exfalso;have dI:=(h.nl.iE h.sfx).iE l
       have:∃x,v=x++41::q:=by
        have:∀(r:H)(d:Nat)(q:H),iu d r= .ok q->∃x,r=x++41::q:=by
         intro r;induction r with
         |nil=>simp[iu]
         |cons b t aX=>
          intro d q i;unfold iu at i;split at i
          ·cases i
          ·split at i
           ·grind
           ·split at i
            ·split at i
             ·grind
             ·split at i
              ·cases i
              ·split at i
               ·rename_i auk _ N;cases i;subst N;exact⟨[b],rfl⟩
               grind
            grind
        grind
       grind[T9])
      simp only[lM] at this;obtain⟨st,g,f⟩:=this;simp only[List.replicate_zero,kj];rw[g,aR rfl];exact⟨st,rfl,f⟩
     |more k=>have av:=aJ.TS v 0 k Y;have ay:=e3 (l.trans h.sfx);have hb:=h.b7;simp only[qV,show(decide ((-1:Int)= -2))=false from rfl,aW];rw[aa6 bD k [] (by grind[gD]) (by grind)];have:=T2 (q:=false) (ai:=ai) (o:=none) (nm:=[36,40,40]) (x:=List.replicate k 41) h List.suffix_rfl (λL G=>by grind) (by simp) (by grind) (by simp) (λL G=>by grind);simp only[lM] at this;obtain⟨st,g,f⟩:=this;simp only[q6];rw[g,aR rfl];exact⟨st,rfl,f⟩
    ·
     simp only[aD,bG,aW];unfold a7 AQ;have I:¬([36,40,40]:H).isPrefixOf (36::40::d::v)=true:=by grind
     cases n with
     |zero=>
      have p:decide (30<=(e.st (36::40::d::v) F ai).2.2.1)=true:=by show decide (30<=e.ne)=true;grind
      rw[p];have aE:a9 true 0 (36::40::d::v) F= .deep (36::40::d::v):=by rw[F1];unfold dG;rw[aO I,bc (by simp)];rfl
      rw[aE];obtain⟨st,g,f⟩:=qi (ai:=ai) ((e.st (36::40::d::v) F ai).2.1) h fq;simp only[aL,tg];rw[g,aR rfl,aR rfl];exact⟨_,rfl,by cases g;exact f⟩
     |succ m=>
      obtain⟨NK,uj⟩:=g9 m rfl;have p:decide (30<=(e.st (36::40::d::v) F ai).2.2.1)=false:=by show decide (30<=e.ne)=false;grind
      rw[p];simp only[aW,oL,aL];have O:e.ne=(e.st (36::40::d::v) F ai).2.2.1:=rfl;rw[<-O];have P:W (e.ne+1)=e.ne+1:=dJ (by omega) (by omega);have Q:W ((e.st (36::40::d::v) F ai).2.1+2)=ax e.S (d::v):=k9 (w:=[36,40]) h.b7 h.sfx;rw[P,Q];have l:d::v<:+36::40::d::v:=z;have A:=(h.mono l).x3;have S:d::v≠[]:=by simp
      have ay:=uj.im e.up .paren true rfl (by show e.ne+1=_;omega) (d::v) F (e.up.st (d::v) F ai) A ⟨ai,rfl,λi=>absurd i S⟩;have aE:a9 true (m+1) (36::40::d::v) F=vk (aU true m) (d::v) F:=by rw[F1];unfold dG jU;rw[aO I,bc (by simp)];rfl
      rw[aE];have T:((e.st (36::40::d::v) F ai).1,ax e.S (d::v),e.ne+1,(e.st (36::40::d::v) F ai).2.2.2.1,(e.st (36::40::d::v) F ai).2.2.2.2.1,(e.st (36::40::d::v) F ai).2.2.2.2.2.1,(e.st (36::40::d::v) F ai).2.2.2.2.2.2.1,(e.st (36::40::d::v) F ai).2.2.2.2.2.2.2.1,(e.st (36::40::d::v) F ai).2.2.2.2.2.2.2.2)=e.up.st (d::v) F ai:=rfl;rw[T];obtain⟨b,g,f⟩:=ay;have wT:R.ot (e.up.st (d::v) F ai) [41] [] false=some b:=g;rw[wT,aR rfl];unfold vk;have B:=(um true m).ls .paren true (d::v) F;have kA:(d::v).length<(40::d::v).length:=by simp
      have h5:(40::d::v).length<(36::40::d::v).length:=by simp
      cases av:(aU true m).ls .paren true (d::v) F with
      |ok a ad C=>
       rw[av] at f;obtain⟨V,ak,⟨s,a3,bO⟩,fj⟩:=f;dsimp only at a3;rw[aS (Uc av)];obtain⟨ao,eK⟩:=A9 true m;rw[eK] at av;obtain⟨hL,jY⟩:=zv (by simp) av;have g_:aq ad= .op [41]:=by grind[d_]
       rw[A3 hL g_];obtain⟨q,rfl⟩:=(h4 g_).2.1;rw[oN];have j:gZ b.2 [36,40] [41]=some b.2:=qg (by rw[a3];show(0:Int)≠1;decide);rw[j,aR rfl,a3];have E:q<:+[41]++q:=fO [41] q;have lq:W (ax e.S ([41]++q)+1)=ax e.S q:=k9 (w:=[41]) h.b7 ak.sfx;have mi:q≠[]:=ak.zC (by decide);have sF:=(ak.uq.mono E);refine⟨e.st q C s,?_,E.trans (V.trans l),sF,⟨s,rfl,λi=>absurd i mi⟩,trivial⟩;show some (e.S,W (ax e.S ([41]++q)+1),W (e.ne+1-1),C,(0:Int),(0:Int),([]:H),([]:bx),s)=_;rw[lq,dJ (by omega) (by omega)];have:e.ne+1-1=e.ne:=by omega
       rw[this];rfl
      |more op nd ds=>rw[av] at f B;simp only[ep] at B;have X:=A.kf;have Z:e.up.S=e.S:=rfl;rw[Z] at X;obtain⟨ft,iN,sl,lp,vu⟩:=f.z;obtain⟨aK,af,bg⟩:=xZ (e:=e) (nm:=[36,40]) (x:=[41]) (ad:=d::v) (r0:=40::d::v) (nd:=nd) (ds:=ds) ⟨ft,iN,sl,lp.uq,vu⟩ (dL _ _) NJ (.inr kA) (by grind) h.b7 (by simp);rw[af,aR rfl,dt (Ud av)];obtain⟨rR,gI,c3,J,mu⟩:=bg;exact⟨zD aK,rfl,.inl ⟨rR,gI,c3,J.zD (dL _ _) h.sfx h5 h.b7,anT J NJ h.b7 mu⟩⟩
      |bad q=>rw[av] at f;have j:gZ b.2 [36,40] [41]=some b.2:=qg (by rw[f.1];decide);rw[j,aR rfl,hq (aa8 av)];exact⟨zD b.2,rfl,f.1,f.2.uq.zD l h.sfx (by simp) h.b7⟩
      |deep q=>rw[av] at f;have j:gZ b.2 [36,40] [41]=some b.2:=qg (by rw[f.1];decide);rw[j,aR rfl,ki (aa9 av)];exact⟨zD b.2,rfl,f.1,f.2.uq.zD l h.sfx (by simp) h.b7⟩
  ·simp only[az,bG,aW,eQ,cA];by_cases xn:c=123
   ·
    subst xn;simp only[bA,aL];unfold a7 AQ;have I:¬([36,40,40]:H).isPrefixOf (36::123::u)=true:=by simp
    have anY:¬([36,40]:H).isPrefixOf (36::123::u)=true:=by simp
    cases n with
    |zero=>
     have p:decide (30<=(e.st (36::123::u) F ai).2.2.1)=true:=by show decide (30<=e.ne)=true;grind
     rw[p];have aE:a9 true 0 (36::123::u) F= .deep (36::123::u):=by rfl
     rw[aE];obtain⟨st,g,f⟩:=qi (ai:=ai) ((e.st (36::123::u) F ai).2.1) h fq;simp only[aL,tg];rw[g,aR rfl,aR rfl];exact⟨_,rfl,by cases g;exact f⟩
    |succ m=>
     obtain⟨NK,uj⟩:=g9 m rfl;have p:decide (30<=(e.st (36::123::u) F ai).2.2.1)=false:=by show decide (30<=e.ne)=false;grind
     rw[p];simp only[aW,oL,aL];have O:e.ne=(e.st (36::123::u) F ai).2.2.1:=rfl;rw[<-O];have P:W (e.ne+1)=e.ne+1:=dJ (by omega) (by omega);rw[P];have T:((e.st (36::123::u) F ai).1,(e.st (36::123::u) F ai).2.1,e.ne+1,(e.st (36::123::u) F ai).2.2.2.1,(e.st (36::123::u) F ai).2.2.2.2.1,(e.st (36::123::u) F ai).2.2.2.2.2.1,(e.st (36::123::u) F ai).2.2.2.2.2.2.1,(e.st (36::123::u) F ai).2.2.2.2.2.2.2.1,(e.st (36::123::u) F ai).2.2.2.2.2.2.2.2)=e.up.st (36::123::u) F ai:=rfl;rw[T];have aE:a9 true (m+1) (36::123::u) F=((rA (a9 true m)).named [36,123]) u F:=by rw[F1];unfold dG jU;rw[aO I,aO anY,bc (by simp)];show((aU true m).pm.named [36,123]) u F=_;rw[ZU]
     rw[aE];unfold Sn a7;have Q:W ((e.up.st (36::123::u) F ai).2.1+2)=ax e.S u:=k9 (w:=[36,123]) h.b7 h.sfx;have Jm:((e.up.st (36::123::u) F ai).1,W ((e.up.st (36::123::u) F ai).2.1+2),(e.up.st (36::123::u) F ai).2.2.1,(e.up.st (36::123::u) F ai).2.2.2.1,(e.up.st (36::123::u) F ai).2.2.2.2.1,(e.up.st (36::123::u) F ai).2.2.2.2.2.1,(e.up.st (36::123::u) F ai).2.2.2.2.2.2.1,(e.up.st (36::123::u) F ai).2.2.2.2.2.2.2.1,(e.up.st (36::123::u) F ai).2.2.2.2.2.2.2.2)=e.up.st u F ai:=by rw[Q];rfl
     rw[Jm];have NI:=aa1 (R:=R) (a:=[36,123]) (b:=[125]) bD (e.up.st u F ai);have A:=(h.mono z).x3;obtain⟨b,g,f⟩:=anO NK (e:=e.up) (by show e.ne+1=_;omega) (ai:=ai) A;rw[g,aR rfl] at NI;refine bR.ei ?_ (mC (λy=>aw y _) NI);unfold rA;have B:=aJ.C6 (n:=11) (aJ.zp (xR true m▸(um true m).dl)) 125 u F;have kA:u.length<(123::u).length:=by simp
     have h5:(123::u).length<(36::123::u).length:=by simp
     cases av:jD 125 (cJ (a9 true m) (some (e2 (a9 true m)))) u F with
     |ok a ad C=>
      rw[av] at f;obtain⟨V,ak,⟨s,a3,bO⟩,fj⟩:=f;dsimp only at a3;rw[Uc av];have j:gZ b [36,123] [125]=some b:=qg (by rw[a3];show(0:Int)≠1;decide);rw[j,aR rfl,a3];refine⟨e.st ad C s,?_,V.trans z,ak.uq,⟨s,rfl,bO⟩,trivial⟩;show some (e.S,ax e.S ad,W (e.ne+1-1),C,(0:Int),(0:Int),([]:H),([]:bx),s)=_;rw[dJ (by omega) (by omega)];have:e.ne+1-1=e.ne:=by omega
      rw[this];rfl
     |more op nd ds=>rw[av] at f B;simp only[ep] at B;have X:=A.kf;have Z:e.up.S=e.S:=rfl;rw[Z] at X;obtain⟨ft,iN,sl,lp,vu⟩:=f.z;obtain⟨aK,af,bg⟩:=xZ (e:=e) (nm:=[36,123]) (x:=[125]) (ad:=u) (r0:=36::123::u) (nd:=nd) (ds:=ds) ⟨ft,iN,sl,lp.uq,vu⟩ z h.sfx (.inr (by omega)) (by grind) h.b7 (by simp);rw[af,aR rfl,Ud av];obtain⟨rR,gI,c3,J,mu⟩:=bg;exact⟨th aK,rfl,.inl ⟨rR,gI,c3,J.th,mu⟩⟩
     |bad q=>rw[av] at f;have j:gZ b [36,123] [125]=some b:=qg (by rw[f.1];decide);rw[j,aR rfl,aa8 av];exact⟨th b,rfl,f.1,(f.2.uq.mono z).th⟩
     |deep q=>rw[av] at f;have j:gZ b [36,123] [125]=some b:=qg (by rw[f.1];decide);rw[j,aR rfl,aa9 av];exact⟨th b,rfl,f.1,(f.2.uq.mono z).th⟩
   ·
    simp only[xn,bG,aW];have aN:gG (36::c::u)=false:=by grind[tb]
    rw[Jz true n aN];refine⟨e.st (c::u) F ai,?_,D,h.mono D,⟨ai,rfl,λi=>absurd i (by simp)⟩,trivial⟩;show some (e.S,W (ax e.S (36::c::u)+1),e.ne,F,(0:Int),(0:Int),([]:H),([]:bx),ai)=_;rw[bZ];rfl
end
structure ur(r0:H)(f:Bool)(ad:H):Prop where
 sfx:ad<:+r0
 t:f=true->(dc r0).2=(dc ad).2/\((dc ad).2=true->(dc r0).1=r0.take (r0.length-ad.length)++(dc ad).1)
 f:f=false->(dc r0).2=false
theorem ur.start(r:H):ur r true r:=⟨fq,λ_=>⟨rfl,λ_=>by simp⟩,λh=>by cases h⟩
theorem Ue{b:UInt8}{t:H}(a:c1 (b::t)=false)(h:b=92\/b=39\/b=34\/b=96\/gG (b::t)=true):dc (b::t)=([],false):=by simp_all[dc]
theorem anZ{b:UInt8}{t:H}(a:c1 (b::t)=false)(h:¬(b=92\/b=39\/b=34\/b=96\/gG (b::t)=true)):(dc (b::t)).2=(dc t).2/\((dc t).2=true->(dc (b::t)).1=b::(dc t).1):=by
 have h0:dc (b::t)=(match dc t with|(w,true)=>(b::w,true)|(_,false)=>([],false)):=by rw[dc,a,aO (by simp),aO h];grind
 grind
theorem ur.an0{r0:H}{f:Bool}{b:UInt8}{t r':H}(bh:ur r0 f (b::t))(a:c1 (b::t)=false)(h:b=92\/b=39\/b=34\/b=96\/gG (b::t)=true)(c:r'<:+r0):ur r0 false r':=by
 refine⟨c,(λd=>by cases d),λ_=>?_⟩;cases f with
 |true=>rw[(bh.t rfl).1,Ue a h]
 |false=>exact bh.f rfl
theorem ur.byte{r0:H}{f:Bool}{b:UInt8}{t:H}(bh:ur r0 f (b::t))(a:c1 (b::t)=false)(h:¬(b=92\/b=39\/b=34\/b=96\/gG (b::t)=true)):ur r0 f t:=by
 have Y:=bh.sfx;refine⟨(dL b t).trans Y,λhf=>?_,bh.f⟩;obtain⟨M,U⟩:=bh.t hf;obtain⟨d,c⟩:=anZ a h;refine⟨by grind,λaE=>?_⟩;rw[U (by grind),c aE];obtain⟨u,rfl⟩:=Y;have e:(u++b::t).length- (b::t).length=u.length:=by simp
 have g:(u++b::t).length-t.length=(u++[b]).length:=by grind
 grind
theorem aa_{α β b:Type}{g:Prop}[Decidable g]{m:Option α}{d:α}{k:α->Option β}{G:β->Option b}:aw (cZ g m d k) G=cZ g m d (λa=>aw (k a) G):=by grind[cZ,tg]
theorem aba{R:bj}{j:Bool×Z->Option (H×Bool×Z)}:∀(n:Nat)(x:Bool×Z),fixF (y_ R j) n x=aw (fixF (y_ R λx=>some ([],x.1,x.2)) n x) λy=>j (y.2.1,y.2.2)
 |0,x=>rfl
 |n+1,x=>by
  rw[fl,fl];have a:=aba (R:=R) (j:=j) n;generalize fixF (y_ R j) n=c at a;generalize fixF (y_ R λx=>some ([],x.1,x.2)) n=d at a;obtain⟨f,e,g,i,k,b,l,m,o,p⟩:=x;unfold y_ a7;dsimp only;by_cases h:b=0
  ·subst h;simp only[bA,aL,tg,T8,aa_,a,oL]
  simp_all[oL]
theorem Uf{R:bj}{e:cm}{r0:H}{F:ah}{ai:Bool}{b:H×Bool×Z}(h:cI e r0 F)(Y:b.2.2.1=e.S)(d:rr R (e.st r0 F ai)=some b):b.1.length<=e.S.length/\((e.S.length:Int)<=b.2.2.2.1->b.1=r0):=by
 unfold rr a7 at d;dsimp only at d;rw[aba] at d;cases o:fixF (y_ R λx=>some ([],x.1,x.2)) bD (true,(e.st r0 F ai).1,(e.st r0 F ai).2.1,(e.st r0 F ai).2.2.1,(e.st r0 F ai).2.2.2.1,(e.st r0 F ai).2.2.2.2.1,(e.st r0 F ai).2.2.2.2.2.1,(e.st r0 F ai).2.2.2.2.2.2.1,(e.st r0 F ai).2.2.2.2.2.2.2.1,(e.st r0 F ai).2.2.2.2.2.2.2.2) with
 |none=>rw[o] at d;cases d
 |some y=>
  rw[o,aR rfl] at d;obtain⟨u,f,g,n,p,q,r,i,s,j,k⟩:=y;dsimp only at d
  have l:∀(m:Int),a4 (0<=(e.st r0 F ai).2.1/\(e.st r0 F ai).2.1<=m/\m<=(g.length:Int)) (some (b4 g (e.st r0 F ai).2.1 m,f,(g,n,p,q,r,i,s,j,k)))=some b->b=(b4 g (ax e.S r0) m,f,(g,n,p,q,r,i,s,j,k)):=by
   intro m bu;unfold a4 at bu;split at bu
   ·cases bu;rfl
   grind
  have t:∀(a c:Int),(b4 g a c).length<=g.length:=by intro a c;unfold b4;grind
  by_cases az:(g.length:Int)<n
  ·simp only[az,bA,aL] at d;have:=l _ d;subst this;dsimp only at Y⊢;subst Y;exact⟨t _ _,λ_=>M9 h.sfx⟩
  ·simp only[az,bG,aW] at d;have:=l _ d;subst this;dsimp only at Y⊢;subst Y;refine⟨t _ _,λhle=>?_⟩;have:n=(e.S.length:Int):=by omega
   rw[this];exact M9 h.sfx
section
variable{R:bj}{n:Nat}(hD:k_ R n){e:cm}(bf:e.ne=30- (n:Int))
include hD bf
theorem Gb{r0:H}{O:ah}{tr0:Bool}(h:cI e r0 O):bR false e r0 (cX (a9 true n) r0 O) (λb=>b.2.2) (λ_ r' b=>b.1=r0.take (r0.length-r'.length)/\b.2.1=(dc r0).2/\(b.2.1=true->b.1=(dc r0).1)) (rr R (e.st r0 O tr0)):=by
 unfold rr a7 cX;have an1:=e3 h.sfx;have nQ:=h.b7;have S:0<=ax e.S r0:=by grind[ax]
 refine bR.rep (en:=λ_ r F (x:Bool×Z)=>∃ai,x.2=e.st r F ai/\ur r0 x.1 r) (λk s r F x c D ni av=>?_) bD () r0 O _ (wQ h) h ⟨tr0,rfl,ur.start r0⟩;obtain⟨f,x⟩:=x;obtain⟨ai,D,bh⟩:=D;dsimp only at D bh;subst D;have G:=bh.sfx;have T:ax e.S r0<=ax e.S r:=by grind[ax]
 have ky:∀(g:Bool)(st:Z),st.1=e.S->ax e.S r0<=st.2.1->∃w,(bif decide ((st.1.length:Int)<st.2.1) then a4 (0<=ax e.S r0/\ax e.S r0<=(st.1.length:Int)/\(st.1.length:Int)<=(st.1.length:Int)) (some (b4 st.1 (ax e.S r0) (st.1.length:Int),g,st))
   else a4 (0<=ax e.S r0/\ax e.S r0<=st.2.1/\st.2.1<=(st.1.length:Int)) (some (b4 st.1 (ax e.S r0) st.2.1,g,st)))=some (w,g,st):=by
  intro g st M U;by_cases az:(st.1.length:Int)<st.2.1
  ·simp_all[b1,pz]
  ·simp only[az,bG,aW];simp_all[b1]
 have gM:∀(x:Bool×Z),x.2.2.2.2.2.1≠0->x.2.1=e.S->ax e.S r0<=x.2.2.1->∃w,k x=some (w,x.1,x.2):=by intro x D M U;obtain⟨k',jN⟩:=ni x;rw[jN];unfold y_;dsimp only;simp only[D,bG,aW];exact ky x.1 x.2 M U
 unfold y_ a7 cm.st;dsimp only;simp only[bA,aL];rw[wN,aR rfl];cases r with
 |nil=>simp only[bA,aL];obtain⟨E,aY,V⟩:=F6 (ai:=ai) (x:=[]) c (by simp);have sr:hS (e.S,ax e.S [],e.ne,F,0,0,[],[],ai) []=some E:=aY;rw[sr,aR rfl];obtain⟨w,l⟩:=ky f E V.2.2.2.1.s (by have:=V.2.2.2.1.lo;omega);exact⟨_,l,V.s⟩
 |cons b t=>
  have m:t<:+b::t:=dL b t;have bZ:=jj c.b7 c.sfx;simp only[reduceCtorEq,bG,aW];have oh:∀o p u v z A B,iW (e.S,ax e.S (b::t),o,v,p,u,z,A,B)=some b:=λo p u v z A B=>wO c.sfx o p u v z A B
  have W:∀o p u v z A B,ir (e.S,ax e.S (b::t),o,v,p,u,z,A,B)=some (bs (b::t)):=λo p u v z A B=>Jv c.b7 c.sfx o p u v z A B
  rw[oh];simp only[oL,TY,qd];rw[W,gy];have ll:(bif(bif fJ b then true else decide (b=10)) then true else(!decide ((if(bif fJ b then true else decide (b=10))=false then bs (b::t) else [])=[])))=c1 (b::t):=by show _=(fJ b||(b==10)||(bs (b::t)!=[]));grind
  rw[ll];by_cases l:c1 (b::t)=true
  ·rw[bc l,l];simp only[aL];have X:¬(e.S.length:Int)<ax e.S (b::t):=by simp[pz]
   simp only[X,bG,aW];rw[b1 ⟨S,T,pz⟩];have hK:=Jd h.sfx G;refine⟨_,rfl,fq,c,⟨ai,rfl,λhh=>by cases hh⟩,hK,?_,?_⟩
   ·cases f with
    |true=>rw[(bh.t rfl).1];unfold dc;grind
    |false=>exact(bh.f rfl).symm
   ·intro hf;have Hj:f=true:=hf;have:=(bh.t Hj).2 (by unfold dc;grind);rw[this];show b4 e.S (ax e.S r0) (ax e.S (b::t))=_;rw[hK];have aE:(dc (b::t)).1=[]:=by unfold dc;grind
    grind
  have P:c1 (b::t)=false:=by grind
  rw[aO l,P];simp only[aW,oG,ng,oF,qU,rM];have uQ:∀(g:Bool),(∀r',r'<:+t->ur r0 g r')->∀r' d E,r'<:+t->cI e r' d->gA e r' d E->bR false e (b::t) (b8 (λ_ r F=>match r with
    |[]=>cf [] r F
    |_::_=>if c1 r then .ok (.inr ()) r F else(N (cJ (a9 true n) (some (e2 (a9 true n)))) λ_=>a1 (.inl ())) r F) () r' d) (λb=>b.2.2) (λ_ r' b=>b.1=r0.take (r0.length-r'.length)/\b.2.1=(dc r0).2/\(b.2.1=true->b.1=(dc r0).1)) (k (g,E)):=by
   intro g bu r' d E cx ak a3;obtain⟨wP,rfl,_⟩:=a3;exact av () r' d (g,e.st r' d wP) (cx.trans m) ak (by grind) ⟨wP,rfl,bu r' cx⟩
  have Q:∀(g:Bool)(y:Option Z)(K:Z->Option (H×Bool×Z)),(∀r',r'<:+t->ur r0 g r')->bR false e (b::t) (cJ (a9 true n) (some (e2 (a9 true n))) (b::t) F) (λst=>st) (λ_ _ _=>True) y->(∀a r' d,cJ (a9 true n) (some (e2 (a9 true n))) (b::t) F= .ok a r' d->r'<:+t)->(∀st,K st=k (g,st))->
    bR false e (b::t) (cR (λ_ r F=>match r with|[]=>cf [] r F|_::_=>if c1 r then .ok (.inr ()) r F else(N (cJ (a9 true n) (some (e2 (a9 true n)))) λ_=>a1 (.inl ())) r F) (b::t) (N (cJ (a9 true n) (some (e2 (a9 true n)))) (λ_=>a1 (.inl ())) (b::t) F)) (λb=>b.2.2) (λ_ r' b=>b.1=r0.take (r0.length-r'.length)/\b.2.1=(dc r0).2/\(b.2.1=true->b.1=(dc r0).1)) (aw y K):=by
   intro g y K bu bl hN lv
   have I:∀st:Z,st.2.2.2.2.1≠0->oJ e (b::t) st->∃w,K st=some (w,g,st):=by intro st M U;rw[lv];exact gM (g,st) M U.s (by have:=U.lo;grind)
   refine bR.iZ c_.k bl (λa ad aH C i s1 v1 ho _=>?_) (λop nd ds C _ fR=>?_) (λC dM=>?_)
   ·have Y:=hN a ad aH i;rw[lv];exact bR.inl (by grind) (uQ g bu ad aH C Y v1 ho)
   ·obtain⟨w,l⟩:=I C (by rw[fR.z.1];decide) fR.z.2.2.2.1;grind
   ·obtain⟨w,l⟩:=I C (by rw[dM.1];decide) dM.2;grind
  have J:(b=92\/b=39\/b=34\/b=96\/gG (b::t)=true)->∀r',r'<:+t->ur r0 false r':=λY r' xT=>bh.an0 P Y (xT.trans (m.trans G))
  by_cases ej:b=92
  ·subst ej;simp only[bA,aL];have aE:y8 (e.S,ax e.S (92::t),e.ne,F,0,0,[],[],ai)=some (e.st (t.drop 1) F ai):=T_ c;rw[aE,aR rfl];have aD:t.drop 1<:+t:=lO 1 t;have ay:(t.drop 1).length<(92::t).length:=by grind
   have j:N (cJ (a9 true n) (some (e2 (a9 true n)))) (λ_=>(a1 (.inl ()):ae (Unit⊕Unit))) (92::t) F= .ok (.inl ()) (t.drop 1) F:=by rfl
   rw[j];exact bR.inl ay (av () _ F (false,e.st (t.drop 1) F ai) (aD.trans m) (c.mono (aD.trans m)) ay ⟨ai,rfl,J (.inl rfl) _ aD⟩)
  simp only[ej,bG,aW];by_cases kQ:b=39
  ·subst kQ;simp only[bA,aL];have j:cJ (a9 true n) (some (e2 (a9 true n))) (39::t) F=jS gw [39] t F:=by rfl
   have:=Q false _ (λst=>k (false,st)) (J (.inr (.inl rfl))) (by rw[j];exact aa3 (ai:=ai) c fq) (λa r' d i=>by grind[jS,A1]) (λ_=>rfl)
   rw[tg] at this;exact this
  simp only[kQ,bG,aW];by_cases gx:b=34
  ·subst gx;simp only[bA,aL];have j:cJ (a9 true n) (some (e2 (a9 true n))) (34::t) F=e2 (a9 true n) t F:=by rfl
   exact Q false _ (λst=>k (false,st)) (J (.inr (.inr (.inl rfl)))) (by rw[j];exact aa4 hD bf (ai:=ai) c fq c.sfx) (λa r' d i=>by rw[j] at i;exact(ar.double (mL true n)).sfx i) (λ_=>rfl)
  simp only[gx,bG,aW];by_cases nM:b=96
  ·subst nM;simp only[bA,aL];have j:cJ (a9 true n) (some (e2 (a9 true n))) (96::t) F=jS hE [96] t F:=by rfl
   have:=Q false _ (λst=>k (false,st)) (J (.inr (.inr (.inr (.inl rfl))))) (by rw[j];exact Ua (ai:=ai) c fq) (λa r' d i=>by
    rw[j] at i;unfold jS at i;cases aF:hE t with
    |none=>grind
    |some q=>rw[aF] at i;cases i;exact FG _ _ _ (cF _) aF) (λ_=>rfl)
   rw[tg] at this;exact this
  simp only[nM,bG,aW];by_cases qW:b=36
  ·subst qW;simp only[bA,aL];have NF:vc (e.S,ax e.S (36::t),e.ne,F,0,0,[],[],ai) 1=some (t.headD 0):=T7 c 1 (by decide);rw[NF];simp only[oL,gy,C9,C_];have aN:gG (36::t)=(decide (t.headD 0=40)||decide (t.headD 0=123)):=by grind[tb]
   have IZ:∀a r' d,cJ (a9 true n) (some (e2 (a9 true n))) (36::t) F= .ok a r' d->r'<:+t:=by
    intro a r' d i;rw[Dl] at i;have Y:=((mL true n).ex.sfx i);have ay:=Ub true n i;rcases List.suffix_cons_iff.1 Y with M|M
    ·grind
    omega
   have mW:=λg bu=>Q g (R.vV (e.S,ax e.S (36::t),e.ne,F,0,0,[],[],ai)) (λst=>k (g,st)) bu (by rw[Dl];exact hD.im e bf t F ai c) IZ (λ_=>rfl);cases L:gG (36::t) with
   |true=>
    rw[L] at aN;have az:(bif decide (t.headD 0=40) then true else decide ((if decide (t.headD 0=40)=false then t.headD 0 else 0)=123))=true:=by grind
    rw[az];exact mW false (J (.inr (.inr (.inr (.inr L)))))
   |false=>
    rw[L] at aN;have gn:decide (t.headD 0=40)=false/\decide (t.headD 0=123)=false:=by grind
    have az:(bif decide (t.headD 0=40) then true else decide ((if decide (t.headD 0=40)=false then t.headD 0 else 0)=123))=false:=by grind
    rw[az];simp only[aW];have an5:¬((36:UInt8)=92\/(36:UInt8)=39\/(36:UInt8)=34\/(36:UInt8)=96\/gG (36::t)=true):=by grind
    have j6:=bh.byte P an5;have bl:=hD.im e bf t F ai c;obtain⟨C,bt,aT⟩:=bl;have wT:R.vV (e.S,ax e.S (36::t),e.ne,F,0,0,[],[],ai)=some C:=bt;rw[wT,aR rfl];rw[Jz true n L] at aT;obtain⟨cx,ak,⟨o4,rfl,bO⟩,_⟩:=aT;have j:N (cJ (a9 true n) (some (e2 (a9 true n)))) (λ_=>(a1 (.inl ()):ae (Unit⊕Unit))) (36::t) F= .ok (.inl ()) t F:=by unfold N;rw[Dl,Jz true n L];rfl
    rw[j];exact bR.inl (by simp) (av () _ F (f,e.st t F o4) m ak (by simp) ⟨o4,rfl,j6⟩)
  ·simp only[qW,bG,aW,bZ];have j:N (cJ (a9 true n) (some (e2 (a9 true n)))) (λ_=>(a1 (.inl ()):ae (Unit⊕Unit))) (b::t) F= .ok (.inl ()) t F:=by unfold N;rw[F9 ej nM qW (.inr ⟨kQ,gx⟩)];rfl
   have fM:gG (b::t)=false:=by grind[tb]
   rw[j];exact bR.inl (by simp) (av () _ F (f,e.st t F ai) m (c.mono m) (by simp) ⟨ai,rfl,bh.byte P (by grind)⟩)
end
theorem an6{t:H}(h:gw t=none):dl (t++[39]) 39=some t:=by
 have:=Jl (t++[39]);have Y:gw (t++[39])=some []:=by
  induction t with
  |nil=>decide
  |cons b t d=>
   unfold gw at h;by_cases a:b=39
   ·grind
   ·rw[aO a] at h;show(if b=39 then some (t++[39]) else gw (t++[39]))=some [];rw[aO a];grind[Jl]
 rw[Y] at this;obtain⟨c,M,U,e⟩:=this;have f:c=t:=by grind
 grind[FU]
theorem an7:∀(n:Nat)(t:H),t.length<=n->dK t->t≠[]->eV t= .part->∃x c y,t=x++c::y/\(c=36\/c=96)/\(∀v,dl (x++c::v) 34=none)/\
  ∀(D:ae Unit),iw D->∀F a q g,jD 34 (cJ D none) t F= .ok a q g->q<:+y:=by
 intro n;induction n with
 |zero=>simp
 |succ n r=>
  intro t au k bf f;cases t with
  |nil=>grind
  |cons b t=>
   have z:t.length<=n:=by grind
   by_cases h:b=34
   ·grind[Nk]
   by_cases aE:b=36\/b=96
   ·refine⟨[],b,t,rfl,aE,λv=>Nj 34 (.inr rfl) b aE v,λD hD F a q g e=>?_⟩;unfold jD at e;rw[cz] at e;simp only[aO h] at e;have l:ar (jD 34 (cJ D none)):=ar.AY 34 (ar.part hD (by simp)) (nb.part hD (by simp));cases hm:cJ D none (b::t) F with
    |ok E ad G=>
     have ay:=(nb.part hD (dq:=none) (by simp)) (by simp) hm;have Y:=(ar.part hD (dq:=none) (by simp)).sfx hm;have A:ad<:+t:=by
      rcases List.suffix_cons_iff.1 Y with M|M
      ·grind
      omega
     rw[aS hm] at e;unfold a1 cR at e;simp only at e;rw[bc ay] at e;exact(l.sfx e).trans A
    |more op nd ds=>rw[dt hm] at e;cases e
    |bad _=>rw[hq hm] at e;cases e
    |deep _=>rw[ki hm] at e;cases e
   have i:b≠36/\b≠96:=by grind
   by_cases j:b=92
   ·subst j;have I:t≠[]:=by
     rintro rfl;rcases k with M|⟨s,M⟩
     ·cases M
     ·have:=mC List.getLast? M;grind
    cases t with
    |nil=>grind
    |cons c u=>
     rw[Nl] at f;have m:eV u= .part:=by cases hu:eV u<;>rw[hu] at f<;>simp[jE.add] at f⊢
     have o:u≠[]:=by rintro rfl;grind[eV]
     obtain⟨x,d,y,M,U,w,B⟩:=r u (by grind) k.tail.tail o m;refine⟨92::c::x,d,y,by grind,U,λv=>?_,λD hD F a q g e=>?_⟩
     ·grind[dl,Ts]
     ·have p:cJ D none (92::c::u) F= .ok () u F:=by rfl
      rw[M5 (by decide) p (by grind)] at e;grind
   ·rw[Nm b h aE j] at f;have m:eV t= .part:=by cases hu:eV t<;>rw[hu] at f<;>simp[jE.add] at f⊢
    have o:t≠[]:=by rintro rfl;grind[eV]
    obtain⟨x,d,y,M,U,w,B⟩:=r t z k.tail o m;refine⟨b::x,d,y,by grind,U,λv=>?_,λD hD F a q g e=>?_⟩
    ·show dl (b::(x++d::v)) 34=none;rw[Jk 34 (.inr rfl) b j i.1 i.2 h (λC=>absurd C (by decide)),w];rfl
    ·have p:cJ D none (b::t) F= .ok () t F:=F9 j i.2 i.1 (.inl rfl);rw[M5 h p (by simp)] at e;grind
theorem an8{D:ae Unit}(hD:iw D):∀(n:Nat)(t:H)(F:ah),t.length<=n->match eV t with
  | .closed _ r=>jD 34 (cJ D none) t F= .ok () r F
  | .open_ _=>jD 34 (cJ D none) t F= .more [] [] F
  | .part=>True:=by
 intro n;induction n with
 |zero=>intro t F h;have:t=[]:=m4.1 (by omega);subst this;show jD 34 (cJ D none) [] F= .more [] [] F;unfold jD;rw[cz];rfl
 |succ n f=>
  intro t F au;cases t with
  |nil=>simp_all
  |cons b t=>
   have i:t.length<=n:=by grind
   by_cases a:b=34
   ·subst a;simp[Nk,jD,cJ,cz,cR]
   by_cases aE:b=36\/b=96
   ·grind[Tt]
   have g:b≠36/\b≠96:=by grind
   by_cases d:b=92
   ·subst d;cases t with
    |nil=>simp[Tu]
    |cons c u=>
     rw[Nl];have e:cJ D none (92::c::u) F= .ok () u F:=by rfl
     have j:=M5 (c:=34) (b:=92) (by decide) e (by grind);have:=f u F (by grind);grind[eV,jE.add,part]
   ·rw[Nm b a aE d];have e:cJ D none (b::t) F= .ok () t F:=F9 d g.2 g.1 (.inl rfl);have j:=M5 (c:=34) a e (by simp);have:=f t F i;grind[eV,jE.add,part]
def NM(m:Option H):Prop:=m=none\/∃d,m=some d/\d.contains 10=true
theorem NM.map{m:Option H}(h:NM m)(x:H):NM (m.map (x++·)):=by
 rcases h with rfl|⟨d,rfl,h⟩
 ·exact .inl rfl
 ·refine .inr ⟨x++d,rfl,?_⟩;grind
def Bd(r:H)(F:ah):dp Unit->Prop
 | .ok _ q a=>∃w,r=w++q/\((df r=none/\dl w 0=none)\/∃d,dl w 0=some d/\df r=some (d,q,[])/\a=F)
 | .more _ nd ds=>(df r=none/\NM (dl (r++nd) 0))\/∃d,df r=some (d,[],nd)/\dl (r++nd) 0=some d/\ds=F
 | .bad _=>df r=none
 | .deep _=>df r=none
theorem Bd.step{r u p x:H}{F:ah}{m:dp Unit}(h:Bd u F m)(e:r=p++u)(M:df r=(df u).map λq=>(x++q.1,q.2))(U:∀v,dl (p++v) 0=(dl v 0).map (x++·)):Bd r F m:=by
 cases m with
 |ok a q f=>obtain⟨w,g,i⟩:=h;refine⟨p++w,by grind,?_⟩;grind
 |more op nd ds=>
  have c:dl (r++nd) 0=(dl (u++nd) 0).map (x++·):=by grind
  rcases h with⟨b,ak⟩|⟨d,b,ak,a3⟩
  ·left;rw[M,b,c];exact⟨rfl,ak.map x⟩
  ·right;grind
 |bad q=>show df r=none;rw[M,show df u=none from h];rfl
 |deep q=>show df r=none;rw[M,show df u=none from h];rfl
theorem Bd.no{r:H}{F:ah}{m:dp Unit}(M:df r=none)(U:∀a q b,m= .ok a q b->∃w,r=w++q/\dl w 0=none)(c:∀v,dl (r++v) 0=none):Bd r F m:=by
 cases m with
 |ok a q b=>obtain⟨w,d,ak⟩:=U a q b rfl;exact⟨w,d,.inl ⟨M,ak⟩⟩
 |more op nd ds=>exact .inl ⟨M,.inl (c nd)⟩
 |bad q=>exact M
 |deep q=>exact M
theorem an9{D:ae Unit}(hD:iw D):∀(n:Nat)(r:H)(F:ah),r.length<=n->dK r->Bd r F (cX D r F):=by
 intro n;induction n with
 |zero=>
  intro r F h _;have:r=[]:=m4.1 (by omega);subst this;have:cX D [] F= .more [] [] F:=by unfold cX;rw[cz];rfl
  rw[this];exact .inr ⟨[],by rw[df],by simp[FU],rfl⟩
 |succ n l=>
  intro r F au e;cases r with
  |nil=>grind
  |cons b t=>
   have P:t.length<=n:=by grind
   by_cases Z:c1 (b::t)=true
   ·have Q:cX D (b::t) F= .ok () (b::t) F:=by unfold cX;grind[cz,cR]
    have f:df (b::t)=some ([],b::t,[]):=by simp_all[df.eq_def,bc]
    rw[Q];exact⟨[],rfl,.inr ⟨[],FU,f,rfl⟩⟩
   have g:c1 (b::t)=false:=by grind
   have C:∀a q k,cX D (b::t) F= .ok a q k->∃w,b::t=b::w++q:=by
    intro a q k d;have Y:=(ar.word hD).sfx d;have ay:=wy hD (by simp) g d;rcases List.suffix_cons_iff.1 Y with M|⟨w,M⟩
    ·grind
    grind
   by_cases E:b=92
   ·subst E;have G:t≠[]:=by
     rintro rfl;rcases e with M|⟨s,M⟩
     ·cases M
     ·have:=mC List.getLast? M;grind
    cases t with
    |nil=>grind
    |cons c u=>
     have i:cJ D (some (e2 D)) (92::c::u) F= .ok () u F:=by rfl
     rw[C5 g i (by grind)];refine(l u F (by grind) e.tail.tail).step (p:=[92,c]) (x:=if c=10 then [] else [c]) rfl (by rw[df.eq_def];grind) λv=>?_;show dl (92::c::v) 0=_;rw[Tq 0 (.inl rfl)];by_cases az:c=10
     ·simp[az]
     grind
   by_cases I:b=39
   ·subst I;have i:cJ D (some (e2 D)) (39::t) F=jS gw [39] t F:=by rfl
    cases Y:gw t with
    |none=>
     have hm:cX D (39::t) F= .more [[39]] [39] F:=by
      unfold cX;rw[cz];simp only[g,eQ,cA];have:cJ D (some (e2 D)) (39::t) F= .more [[39]] [39] F:=by grind[jS]
      rw[dt this];rfl
     rw[hm];have f:df (39::t)=none:=by rw[df.eq_def];grind
     refine .inl ⟨f,.inr ⟨t,?_,?_⟩⟩
     ·grind[dl,Tr,an6]
     ·have G:t≠[]:=by
       rintro rfl;rcases e with M|⟨s,M⟩
       ·cases M
       ·have:=mC List.getLast? M;grind
      rcases e.tail with M|⟨s,M⟩
      ·grind
      grind
    |some j=>
     have L:=Jl t;rw[Y] at L;obtain⟨m,N,O,R⟩:=L;have S:=zl t j Y;have xV:cJ D (some (e2 D)) (39::t) F= .ok () j F:=by grind[jS]
     rw[C5 g xV (by grind)];refine(l j F (by omega) (e.tail.iE (A1 _ _ Y))).step (p:=39::m++[39]) (x:=m) (by grind) ?_ λv=>?_
     ·rw[df.eq_def];grind
     grind[Tr]
   by_cases aE:b=36\/b=96
   ·have f:df (b::t)=none:=by simp_all[df.eq_def,aO,bc]
    refine Bd.no f (λa q k d=>?_) λv=>Nj 0 (.inl rfl) b aE _;obtain⟨w,M⟩:=C a q k d;exact⟨b::w,M,Nj 0 (.inl rfl) b aE w⟩
   have A:b≠36/\b≠96:=by grind
   by_cases J:b=34
   ·subst J;have i:cJ D (some (e2 D)) (34::t) F=e2 D t F:=by rfl
    have B:=an8 hD t.length t F (cF _);have K:=Z3 _ t (cF _);have G:t≠[]:=by
     rintro rfl;rcases e with M|⟨s,M⟩
     ·cases M
     ·have:=mC List.getLast? M;grind
    cases Y:eV t with
    |closed o j=>
     rw[Y] at B K;obtain⟨m,N,O⟩:=K;have xV:cJ D (some (e2 D)) (34::t) F= .ok () j F:=by rw[i];exact Uc B
     have S:=Fp t o j Y;rw[C5 g xV (by grind)];refine(l j F (by omega) (e.tail.iE (SL _ _ _ _ (Nat.le_refl _) Y))).step (p:=34::m) (x:=o) (by grind) ?_ λv=>?_
     ·rw[df.eq_def];grind
     grind[dl,Dd]
    |open_ o=>
     rw[Y] at B K;have xV:cJ D (some (e2 D)) (34::t) F= .more [[34]] [34] F:=by rw[i];exact Ud B
     have hm:cX D (34::t) F= .more [[34]] [34] F:=by unfold cX;rw[cz];simp only[g,eQ,cA];rw[dt xV];rfl
     rw[hm];have f:df (34::t)=some (o,[],[34]):=by rw[df.eq_def];grind
     refine .inr ⟨o,f,?_,rfl⟩;grind[dl,Dd]
    |part=>
     have f:df (34::t)=none:=by rw[df.eq_def];grind
     obtain⟨x,c,y,N,O,R,T⟩:=an7 _ t (cF _) e.tail G Y;refine Bd.no f (λa q k d=>?_) λv=>?_
     ·
      have U:q<:+y:=by
       unfold cX at d;rw[cz] at d;simp only[g,eQ,cA] at d;cases hm:cJ D (some (e2 D)) (34::t) F with
       |ok V ad W=>
        rw[aS hm] at d;rw[i] at hm;have X:=h3.1 (CZ.1 hm);have M:=T D hD F V ad W X;unfold a1 cR at d;simp only at d;split at d
        ·exact((ar.word hD).sfx d).trans M
        grind
       |more op nd ds=>rw[dt hm] at d;cases d
       |bad _=>rw[hq hm] at d;cases d
       |deep _=>rw[ki hm] at d;cases d
      obtain⟨z,rfl⟩:=U;grind[Dd]
     grind[dl,Dd,List.append_assoc]
   ·have i:cJ D (some (e2 D)) (b::t) F= .ok () t F:=F9 E A.2 A.1 (.inr ⟨I,J⟩);rw[C5 g i (by simp)];refine(l t F P e.tail).step (p:=[b]) (x:=[b]) rfl (by rw[df.eq_def];grind) λv=>?_;show dl (b::v) 0=_;rw[Jk 0 (.inl rfl) b E A.1 A.2 J (λ_=>I)];rfl
theorem aoa{e:cm}{I:Z}{j:Int->Option Z}(o:I.1=e.S)(du:e.S.length<=1000000):∀(n:Nat)(r:H),r.length<n->r<:+e.S->fixF (Mv I j) n (ax e.S r)=j (ax e.S (r.dropWhile ch)):=by
 intro n;induction n with
 |zero=>omega
 |succ n p=>
  intro r au l;rw[fl];generalize fixF (Mv I j) n=k at p;unfold Mv;rw[o];cases r with
  |nil=>
   have m:∀a c d f g h i,iW (e.S,ax e.S [],a,f,c,d,g,h,i)=some 0:=λa c d f g h i=>wO l a c d f g h i
   rw[m];rfl
  |cons b t=>
   have m:∀a c d f g h i,iW (e.S,ax e.S (b::t),a,f,c,d,g,h,i)=some b:=λa c d f g h i=>wO l a c d f g h i
   rw[m];simp only[oL,gy,TH,TI];have az:(bif decide (48<=b) then decide ((if decide (48<=b)=true then b else 0)<=57) else false)=ch b:=by grind[ch]
   rw[az,jj du l];grind[List.dropWhile_cons_of_pos,eo,List.dropWhile_cons_of_neg]
theorem NO{e:cm}{r:H}{F:ah}{ai:Bool}(h:cI e r F)(d:r≠[]):xE (e.st r F ai)=some (match aq r with| .word _ _=>false|_=>true):=by
 unfold xE;have a:iW (e.st r F ai)=some (r.headD 0):=wO h.sfx _ _ _ _ _ _ _;have c:ir (e.st r F ai)=some (bs r):=Jv h.b7 h.sfx _ _ _ _ _ _ _;rw[a];simp only[oL,qd];rw[c,gy];cases r with
 |nil=>grind
 |cons b t=>grind[x1]
theorem abh(F:ah):cW [] F [120]=([120],F):=T1 [120] [] F (by decide)
theorem abi{e:cm}{r q:H}{F:ah}{ai:Bool}(h:cI e q F)(a:q<:+r):oJ e r (e.st q F ai):=by
 refine⟨rfl,?_,?_,?_,?_⟩
 ·show ax e.S r<=ax e.S q;grind[ax]
 ·show ax e.S q<=_;have:= @pz q e.S;omega
 ·show([]:H).length+eC F<=_;have:=h.kf;grind
 ·show([]:bx).length<=_;simp
section
variable{R:bj}{n:Nat}(hD:k_ R n){e:cm}(bf:e.ne=30- (n:Int))
include hD bf
theorem Uh{r:H}{F:ah}{ai:Bool}(h:cI e r F)(Y:bo r=some r)(iM:ff (bs (r.dropWhile ch))=true):bR false e r (dz (a9 true n) r F) (λst=>st) (λb _ _=>b=true) (Fb R (e.st r F ai)):=by
 have De:r.dropWhile ch<:+r:=C1;have c4:dz (a9 true n) r F=N (if bs (r.dropWhile ch)=[60,60] then gS false else if bs (r.dropWhile ch)=[60,60,45] then gS true else ke (a9 true n) [120]) (λ_=>a1 true) ((r.dropWhile ch).drop (bs (r.dropWhile ch)).length) F:=by
  have nh:fL r F= .ok (some (bs (r.dropWhile ch))) ((r.dropWhile ch).drop (bs (r.dropWhile ch)).length) F:=by simp_all[fL]
  unfold dz;grind[aS]
 rw[c4];unfold Fb a7;have M:(e.st r F ai).1=e.S:=rfl;have U:(e.st r F ai).2.1=ax e.S r:=rfl;refine bR.ei ?_ (aoa (e:=e) (I:=e.st r F ai) rfl h.b7 bD r (mj (kB (e3 h.sfx) h.b7)) h.sfx);have aF:=De.trans h.sfx;have Ui:=h.mono De;generalize r.dropWhile ch=q at*;have iI:bs q<+:q:=SJ;have ln:=Y9 (r:=q);have h0:=Ty iM;have fM:ir ((e.st r F ai).1,ax e.S q,(e.st r F ai).2.2.1,(e.st r F ai).2.2.2.1,(e.st r F ai).2.2.2.2.1,(e.st r F ai).2.2.2.2.2.1,(e.st r F ai).2.2.2.2.2.2.1,(e.st r F ai).2.2.2.2.2.2.2.1,(e.st r F ai).2.2.2.2.2.2.2.2)=some (bs q):=Jv h.b7 aF _ _ _ _ _ _ _;rw[fM,aR rfl];generalize aN:bs q=o at*;obtain⟨v,rfl⟩:=iI;rw[oN];have g3:v<:+o++v:=fO o v;have aB:=Ui.mono g3;have lq:W (ax e.S (o++v)+(o.length:Int))=ax e.S v:=k9 h.b7 aF;have tf:v≠[]:=by
  rintro rfl;rw[kj] at aF;rcases h.nl.iE aF with m|⟨s,m⟩
  ·grind
  grind
 have To:v.length<r.length:=by grind
 have bZ:((e.st r F ai).1,W (ax e.S (o++v)+(o.length:Int)),(e.st r F ai).2.2.1,(e.st r F ai).2.2.2.1,(e.st r F ai).2.2.2.2.1,(e.st r F ai).2.2.2.2.2.1,(e.st r F ai).2.2.2.2.2.2.1,(e.st r F ai).2.2.2.2.2.2.2.1,(e.st r F ai).2.2.2.2.2.2.2.2)=e.st v F ai:=by rw[lq];rfl
 rw[bZ];have zG:v<:+r:=g3.trans De;have aul:=aB.kf;have n8:=uo F;have nQ:=h.b7;have an1:=e3 h.sfx;have aum:(bif decide (o=[60,60]) then true else decide (o=[60,60,45]))=(decide (o=[60,60])||decide (o=[60,60,45])):=by simp
 rcases xY aB ⟨ai,rfl,λC=>absurd C tf⟩ with⟨c,eI,b3,cH,eX,X,dN,iK⟩|⟨b3,cH⟩
 ·rw[cH,aR rfl];obtain⟨g,rfl,_⟩:=eX;have abj:c≠[]:=aaS (h.nl.iE aB.sfx) tf b3;have ky:gY ((e.st c F g).1,(e.st c F g).2.1,(e.st c F g).2.2.1,(e.st r F ai).2.2.2.1,(e.st c F g).2.2.2.2.1,(e.st c F g).2.2.2.2.2.1,(e.st c F g).2.2.2.2.2.2.1,(e.st r F ai).2.2.2.2.2.2.2.1,(e.st c F g).2.2.2.2.2.2.2.2)=some (decide (c=[])):=wN e c _ _ _ _ _ _ _;rw[ky,aR rfl,eE abj];simp only[aW];have aob:xE ((e.st c F g).1,(e.st c F g).2.1,(e.st c F g).2.2.1,(e.st r F ai).2.2.2.1,(e.st c F g).2.2.2.2.1,(e.st c F g).2.2.2.2.2.1,(e.st c F g).2.2.2.2.2.2.1,(e.st r F ai).2.2.2.2.2.2.2.1,(e.st c F g).2.2.2.2.2.2.2.2)=some (match aq c with| .word _ _=>false|_=>true):=NO X abj;rw[aob,aR rfl];have u:c<:+r:=dN.trans zG
  have aoc:∀t,aq c=t->(∀w p,t≠ .word w p)->(if o=[60,60] then gS false else if o=[60,60,45] then gS true else ke (a9 true n) [120]:ae Unit) v F= .bad c:=by
   intro t an aun
   have auo:∀tabs,gS tabs v F= .bad c:=by grind[gS,mA]
   have rS:ke (a9 true n) [120] v F= .bad c:=by
    unfold ke;rw[aS (cu b3)];cases av:aq c with
    |eof=>grind[mA]
    |word w p=>grind
    |_=>rfl
   grind
  by_cases hw:∃w p,aq c= .word w p
  ·obtain⟨w,p,hw⟩:=hw;rw[hw];simp only[aW];have eD:=Gb hD bf (tr0:=g) X;obtain⟨⟨ft,hL,f⟩,bt,i⟩:=eD;have wT:rr R ((e.st c F g).1,(e.st c F g).2.1,(e.st c F g).2.2.1,(e.st r F ai).2.2.2.1,(e.st c F g).2.2.2.2.1,(e.st c F g).2.2.2.2.2.1,(e.st c F g).2.2.2.2.2.2.1,(e.st r F ai).2.2.2.2.2.2.2.1,(e.st c F g).2.2.2.2.2.2.2.2)=some (ft,hL,f):=bt;rw[wT,aR rfl];simp only;have D:=an9 (mL true n) _ c F (cF _) (h.nl.iE X.sfx);by_cases aD:o=[60,60]\/o=[60,60,45]
   ·have E:(bif decide (o=[60,60]) then true else decide (o=[60,60,45]))=true:=by grind
    rw[E];simp only[hI,aW];have NP:(if o=[60,60] then gS false else if o=[60,60,45] then gS true else ke (a9 true n) [120]:ae Unit)=gS (decide (o=[60,60,45])):=by grind
    generalize decide (o=[60,60,45])=tabs at*;have j:gS tabs v F=(match df c with
      |none=> .bad c
      |some (d,q,k)=>if d.contains 10 then .bad c else
       if tabs/\d.head?=some 9 then .bad c else
       if k≠[] then .more [k] k (F++[(d,tabs)]) else
       if q=[] then .more [] [] (F++[(d,tabs)]) else .ok () q (F++[(d,tabs)])):=by
     grind[gS]
    have Wj:f.2.2.2.2.2.2.1.length<=100*e.S.length+1000:=by
     cases hm:cX (a9 true n) c F with
     |ok a L G=>rw[hm] at i;obtain⟨_,_,⟨oa,m,_⟩,_⟩:=i;dsimp only at m;rw[m];show([]:H).length<=_;simp
     |more op nd ds=>rw[hm] at i;have:=i.z.2.2.2.1.nd;grind
     |bad q=>rw[hm] at i;have:=i.2.nd;grind
     |deep q=>rw[hm] at i;have:=i.2.nd;grind
    have aod:b4 f.2.2.2.2.2.2.1 ((e.st c F g).2.2.2.2.2.2.1.length:Int) (f.2.2.2.2.2.2.1.length:Int)=f.2.2.2.2.2.2.1:=by show b4 f.2.2.2.2.2.2.1 ((0:Nat):Int) _=_;simp[b4]
    rw[aod];have abk:f.1=e.S/\oJ e r f:=by
     cases hm:cX (a9 true n) c F with
     |ok a L G=>rw[hm] at i;obtain⟨cx,ak,⟨oa,m,_⟩,_⟩:=i;dsimp only at m;rw[m];exact⟨rfl,abi ak (cx.trans u)⟩
     |more op nd ds=>rw[hm] at i;exact⟨i.z.2.2.2.1.s,i.z.2.2.2.1.mono u⟩
     |bad q=>rw[hm] at i;exact⟨i.2.s,i.2.mono u⟩
     |deep q=>rw[hm] at i;exact⟨i.2.s,i.2.mono u⟩
    obtain⟨xU,BI⟩:=Uf X abk.1 bt;dsimp only at xU BI;have x4:ft.length<=1000000:=by omega
    refine bR.ei ?_ (b1 (show 0<=((e.st c F g).2.2.2.2.2.2.1.length:Int)/\((e.st c F g).2.2.2.2.2.2.1.length:Int)<=(f.2.2.2.2.2.2.1.length:Int)/\(f.2.2.2.2.2.2.1.length:Int)<=(f.2.2.2.2.2.2.1.length:Int) from by show(0:Int)<=((0:Nat):Int)/\((0:Nat):Int)<=_/\_;omega))
    refine bR.ei ?_ (b1 (by omega));have hlen:((ft++f.2.2.2.2.2.2.1).length:Int)<=200000000:=by grind
    refine bR.ei ?_ (aR (ams _ hlen));have z:=abk.2;have aoe:∀(l:H)(O:Bool),(a4 (((bif tabs then(decide (0<(l.length:Int))) else false)=true)->((bif(decide (f.2.2.2.2.1=2)) then true else(!O))=false)->0<=(0:Int)/\0<(l.length:Int))<|
      (bif(bif(bif(decide (f.2.2.2.2.1=2)) then true else(!O)) then true else(bif(bif tabs then(decide (0<(l.length:Int))) else false) then(decide (((at' l 0).toNat:Int)=(9:Int))) else false)) then
      (aw (h9 f (e.st c F g).2.1) λ(J:Z)=>
      some (J.1,J.2.1,J.2.2.1,f.2.2.2.1,J.2.2.2.2.1,J.2.2.2.2.2.1,J.2.2.2.2.2.2.1,f.2.2.2.2.2.2.2.1,J.2.2.2.2.2.2.2.2))
      else
      (a4 (f.2.2.2.1.length+([(l,tabs)]:ah).length<=536870912)<|
      some (f.1,f.2.1,f.2.2.1,(f.2.2.2.1++([(l,tabs)]:ah)),f.2.2.2.2.1,f.2.2.2.2.2.1,f.2.2.2.2.2.2.1,f.2.2.2.2.2.2.2.1,f.2.2.2.2.2.2.2.2))))=
      if(f.2.2.2.2.1=2\/O=false\/(tabs=true/\l.head?=some 9)) then some (f.1,f.2.1,f.2.2.1,f.2.2.2.1,2,(e.st c F g).2.1,f.2.2.2.2.2.2.1,f.2.2.2.2.2.2.2.1,f.2.2.2.2.2.2.2.2)
      else some (f.1,f.2.1,f.2.2.1,(f.2.2.2.1++([(l,tabs)]:ah)),f.2.2.2.2.1,f.2.2.2.2.2.1,f.2.2.2.2.2.2.1,f.2.2.2.2.2.2.2.1,f.2.2.2.2.2.2.2.2):=by
     intro l O
     rw[b1 (by grind)]
     have Tx:(bif bif tabs then decide (0<(l.length:Int)) else false then decide (((at' l 0).toNat:Int)=9) else false)=decide (tabs=true/\l.head?=some 9):=by
      cases tabs with
      |false=>simp
      |true=>
       cases l with
       |nil=>simp
       |cons x y=>simp[at',Jb]
     rw[Tx];have aof:f.2.2.2.1.length+[(l,tabs)].length<=536870912:=by have m:=uo f.2.2.2.1;have aV:=z.nd;grind
     rw[b1 aof];by_cases fb:f.2.2.2.2.1=2
     ·simp only[fb,bA,aL,true_or,cK];rfl
     ·by_cases dU:O=false
      ·subst dU;simp only[fb,bG,aW,fo,aL,false_or,true_or,cK];rfl
      ·have aog:O=true:=by grind
       subst aog;by_cases jL:tabs=true/\l.head?=some 9
       ·rw[bc (.inr (.inr jL)),decide_eq_true jL];simp only[fb,bG,aW,hI,aL];rfl
       grind
    refine bR.ei ?_ (aoe _ _);rw[NP];have rT:bR false e r (.bad c:dp Bool) (λst=>st) (λb _ _=>b=true) (some (f.1,f.2.1,f.2.2.1,f.2.2.2.1,(2:Int),(e.st c F g).2.1,f.2.2.2.2.2.2.1,f.2.2.2.2.2.2.2.1,f.2.2.2.2.2.2.2.2)):=
     ⟨_,rfl,rfl,z.s,z.lo,z.bh,z.nd,z.op⟩
    have K:=aJ.s7 (tabs:=tabs) (r0:=o++v) (v:=v) (F:=F) (by grind);have aoh:=Ui.kf;cases hm:cX (a9 true n) c F with
    |bad q=>
     rw[hm] at i D;rw[bc (.inl i.1)];have:gS tabs v F= .bad c:=by rw[j,show df c=none from D]
     grind[hq]
    |deep q=>
     rw[hm] at i D;rw[bc (.inl i.1)];have:gS tabs v F= .bad c:=by rw[j,show df c=none from D]
     grind[hq]
    |ok a L G=>
     rw[hm] at i D;obtain⟨cx,ak,⟨oa,m,_⟩,bO,_⟩:=i;dsimp only at m bO;subst m;have aoi:(e.st L G oa).2.2.2.2.2.2.1=[]:=rfl;rw[aoi,kj];obtain⟨w,Nw,ti⟩:=D;have Uj:ft=w:=by simp_all
     subst Uj;have aoj:¬((e.st L G oa).2.2.2.2.1=2):=by show¬((0:Int)=2);decide
     rcases ti with⟨dM,A⟩|⟨d,dM,A,rfl⟩
     ·rw[A];rw[bc (.inr (.inl rfl))];grind[hq]
     ·rw[dM];rw[A] at j;simp only at j;unfold A5;simp only;by_cases P:d.contains 10=true
      ·rw[bc P] at j;rw[bc (.inr (.inl (by grind))),hq j];grind
      ·rw[aO P] at j;by_cases IS:tabs=true/\d.head?=some 9
       ·rw[bc IS] at j;rw[bc (.inr (.inr (by grind))),hq j];grind
       ·rw[aO IS] at j;have abl:L≠[]:=by
         rintro rfl;have hex:cX (a9 true n) c G= .ok a [] G:=hm
         have:∀(bw:Nat)(r:H)(F:ah)(a:Unit)(q:H)(aG:ah),r.length<=bw->cX (a9 true n) r F= .ok a q aG->q≠[]:=by
          intro bw r F a q aG fx C;unfold cX at C;refine ZW (Q:=λq=>q≠[]) (λs r F a q aG NQ=>?_) bw _ _ _ _ _ _ fx C;cases r with
          |nil=>cases NQ
          |cons b t=>
           simp only at NQ;split at NQ
           ·grind
           ·obtain⟨_,_,_,_,aok⟩:=bY NQ;cases aok
         grind
        rw[aO (by simp),aO abl] at j;rw[aO (by grind),aS j,if_neg P];rw[j] at K;simp only[ep] at K;exact⟨_,rfl,cx.trans u,⟨h.b7,h.nl,h.Ju,ak.sfx,by omega⟩,⟨oa,rfl,λC=>absurd C abl⟩,rfl⟩
    |more op nd ds=>
     rw[hm] at i D;obtain⟨mq,S,T,Ga,V⟩:=i.z;dsimp only at mq S T Ga V;have Uj:=BI V;rw[Uj,S];have aoj:¬(f.2.2.2.2.1=2):=by omega
     rcases D with⟨dM,A⟩|⟨d,dM,A,rfl⟩
     ·have zx:(A5 (dl (c++nd) 0)).2=false:=by
       rcases A with A|⟨d,A,ja⟩
       ·rw[A];rfl
       simp_all[A5]
      simp_all[hq]
     ·rw[A];rw[dM] at j;simp only at j;unfold A5;simp only;by_cases P:d.contains 10=true
      ·simp_all[hq]
      ·rw[aO P] at j;by_cases IS:tabs=true/\d.head?=some 9
       ·simp_all[hq]
       ·rw[aO IS] at j;rw[aO (by grind),if_neg P]
        have l3:∃lY,gS tabs v ds= .more lY nd (ds++[(d,tabs)]):=by grind
        obtain⟨lY,l3⟩:=l3;rw[dt l3];rw[l3] at K;simp only[ep] at K;rw[T];exact⟨_,rfl,.inl ⟨mq,rfl,rfl,⟨z.s,z.lo,z.bh,by grind,z.op⟩,V⟩⟩
   ·have E:(bif decide (o=[60,60]) then true else decide (o=[60,60,45]))=false:=by grind
    rw[E];simp only[fo,aL];simp only[xa] at aD;have B:(if o=[60,60] then gS false else if o=[60,60,45] then gS true else ke (a9 true n) [120]:ae Unit) v F=cX (a9 true n) c F:=by rw[aO aD.1,aO aD.2];unfold ke;rw[aS (cu b3),hw]
    cases hm:cX (a9 true n) c F with
    |ok a L G=>rw[hm] at i B;rw[aS B];obtain⟨cx,ak,a3,_⟩:=i;exact⟨f,rfl,cx.trans u,ak,a3,rfl⟩
    |more op nd ds=>rw[hm] at i B;rw[dt B];exact⟨f,rfl,jb.mono i u⟩
    |bad q=>rw[hm] at i B;rw[hq B];exact⟨f,rfl,jk.mono i u⟩
    |deep q=>rw[hm] at i B;rw[ki B];exact⟨f,rfl,jk.mono i u⟩
  ·have aol:(match aq c with| .word _ _=>false|_=>true)=true:=by grind
   rw[aol];simp only[aL];rw[hq (aoc _ rfl (λw p C=>hw ⟨w,p,C⟩))];obtain⟨st,bt,i⟩:=qi (ai:=g) ((e.st c F g).2.1) X u;have wT:h9 ((e.st c F g).1,(e.st c F g).2.1,(e.st c F g).2.2.1,(e.st r F ai).2.2.2.1,(e.st c F g).2.2.2.2.1,(e.st c F g).2.2.2.2.2.1,(e.st c F g).2.2.2.2.2.2.1,(e.st r F ai).2.2.2.2.2.2.2.1,(e.st c F g).2.2.2.2.2.2.2.2) (e.st c F g).2.1=some st:=bt;rw[wT,aR rfl];exact⟨_,rfl,by cases bt;exact i⟩
 ·
  rw[cH,aR rfl];have ky:gY ((e.tt F).1,(e.tt F).2.1,(e.tt F).2.2.1,(e.st r F ai).2.2.2.1,(e.tt F).2.2.2.2.1,(e.tt F).2.2.2.2.2.1,(e.tt F).2.2.2.2.2.2.1,(e.st r F ai).2.2.2.2.2.2.2.1,(e.tt F).2.2.2.2.2.2.2.2)=some true:=by have:=wN e [] e.ne 0 0 F [] [] true;rw[iO] at this;exact this
  rw[ky,aR rfl];simp only[aL];have aom:cI e [] F:=aB.mono nP;obtain⟨aK,aY,ba⟩:=F6 (ai:=true) (x:=[120]) aom (by simp);rw[abh] at ba;have sr:hS ((e.tt F).1,(e.tt F).2.1,(e.tt F).2.2.1,(e.st r F ai).2.2.2.1,(e.tt F).2.2.2.2.1,(e.tt F).2.2.2.2.2.1,(e.tt F).2.2.2.2.2.2.1,(e.st r F ai).2.2.2.2.2.2.2.1,(e.tt F).2.2.2.2.2.2.2.2) [120]=some aK:=by rw[<-aY,<-xX];rfl
  rw[sr,aR rfl];obtain⟨mq,S,T,Ga,V⟩:=ba;dsimp only at S T;have nh:([]:H)<:+r:=nP;have cV:=Ga.mono nh;by_cases aD:o=[60,60]\/o=[60,60,45]
  ·have E:(bif decide (o=[60,60]) then true else decide (o=[60,60,45]))=true:=by grind
   rw[E];simp only[aL];have NP:(if o=[60,60] then gS false else if o=[60,60,45] then gS true else ke (a9 true n) [120]:ae Unit) v F=gS (decide (o=[60,60,45])) v F:=by grind
   have hm:gS (decide (o=[60,60,45])) v F= .more [] [120] (F++[([120],decide (o=[60,60,45]))]):=by grind[gS]
   rw[hm] at NP;rw[dt NP];have K:=aJ.s7 (tabs:=decide (o=[60,60,45])) (r0:=o++v) (v:=v) (F:=F) (by grind);rw[hm] at K;simp only[ep] at K;have aoh:=Ui.kf;have aup:aK.2.2.2.1.length<=100000000:=by grind
   refine bR.ei ?_ (b1 (by grind));rw[T];exact⟨_,rfl,.inl ⟨mq,S,rfl,⟨cV.s,cV.lo,cV.bh,by grind,cV.op⟩,V⟩⟩
  ·have E:(bif decide (o=[60,60]) then true else decide (o=[60,60,45]))=false:=by grind
   rw[E];simp only[aW];simp only[xa] at aD;have B:(if o=[60,60] then gS false else if o=[60,60,45] then gS true else ke (a9 true n) [120]:ae Unit) v F= .more [] [120] F:=by rw[aO aD.1,aO aD.2];unfold ke;grind[dt,iY,cf,abh]
   rw[dt B];exact⟨_,rfl,.inl ⟨mq,S,T,cV,V⟩⟩
end
theorem qZ(e:cm)(r:H)(F:ah)(ai:Bool):gY (e.st r F ai)=some (decide (r=[])):=wN e r _ _ _ _ _ _ _
theorem pB(e:cm)(F:ah):gY (e.tt F)=some true:=by simp[xX,qZ]
theorem ss{e:cm}{r:H}{F:ah}{ai:Bool}(h:cI e r F):ir (e.st r F ai)=some (bs r):=Jv h.b7 h.sfx _ _ _ _ _ _ _
theorem Ge{e:cm}{r:H}{F:ah}{ai:Bool}(h:cI e r F):iW (e.st r F ai)=some (r.headD 0):=wO h.sfx _ _ _ _ _ _ _
theorem aon:bs []=[]:=by decide
theorem Gf{e:cm}(F:ah)(h:e.S.length<=1000000):ir (e.tt F)=some []:=by have:=Jv (e:=e) (r:=[]) h nP e.ne 0 0 F [] [] true;rw[aon] at this;rw[xX];exact this
theorem aoo(e:cm)(F:ah):iW (e.tt F)=some 0:=by rw[xX];exact wO (e:=e) (r:=[]) nP _ _ _ _ _ _ _
theorem cI.Be{e:cm}{r:H}{F:ah}(h:cI e r F):cI e [] F:=h.mono nP
theorem aop{e:cm}{F:ah}(h:cI e [] F):mx (e.tt F)=some []:=by rw[xX,wR h];rfl
theorem Dp{e:cm}{F:ah}{x:H}(h:cI e [] F)(b:x.length<=100):∃a,hS (e.tt F) x=some a/\oK e [] (cW [] F x).1 (cW [] F x).2 a:=by rw[xX];exact F6 h b
theorem vv{e:cm}{F:ah}{ai:Bool}{x:H}(h:cI e [] F)(b:x.length<=100):∃a,hS (e.st [] F ai) x=some a/\oK e [] (cW [] F x).1 (cW [] F x).2 a:=F6 h b
theorem abm{e:cm}(F:ah):pt (e.tt F)=some (e.tt F):=by
 unfold pt;rw[Dj,aR rfl];unfold a7
 obtain⟨n,au⟩:∃n,bD=n+1:=⟨bD-1,by rw[gD]⟩
 dsimp only;rw[au,fl];unfold AP;dsimp only;have a:iW ((e.tt F).1,(e.tt F).2.1,(e.tt F).2.2.1,(e.tt F).2.2.2.1,(e.tt F).2.2.2.2.1,(e.tt F).2.2.2.2.2.1,(e.tt F).2.2.2.2.2.2.1,(e.tt F).2.2.2.2.2.2.2.1,(e.tt F).2.2.2.2.2.2.2.2)=some 0:=aoo e F;simp_all[gy]
theorem jb.tt{e:cm}{r:H}(F:ah):jb true e r [] F (e.tt F):= .inr ⟨rfl,rfl,rfl⟩
theorem gA.eta{e:cm}{r:H}{F:ah}{st:Z}(h:gA e r F st):st.1=e.S/\st.2.1=ax e.S r/\st.2.2.1=e.ne/\st.2.2.2.1=F/\st.2.2.2.2.1=0/\st.2.2.2.2.2.1=0/\st.2.2.2.2.2.2.1=[]/\st.2.2.2.2.2.2.2.1=[]:=by obtain⟨ai,rfl,_⟩:=h;exact⟨rfl,rfl,rfl,rfl,rfl,rfl,rfl,rfl⟩
section
variable{R:bj}{n:Nat}(hD:k_ R n){e:cm}(bf:e.ne=30- (n:Int))
include hD bf
theorem abn{r:H}{F:ah}{st:Z}(h:cI e r F)(D:gA e r F st):bR true e r (g7 (a9 true n) r F) (λst=>st) (λ_ _ _=>True) (Fe R st):=by
 have P:∀(bw:Nat)(r:H)(F:ah)(st:Z),r.length+1<bw->cI e r F->gA e r F st->bo r=some r->bR true e r (g7 (a9 true n) r F) (λst=>st) (λ_ _ _=>True) (fixF (CN R λx=>some x) bw st):=by
  intro bw;induction bw with
  |zero=>omega
  |succ bw E=>
   intro r F st fx j Q G;rw[fl]
   obtain⟨gP,S⟩:∃gP,bw=gP+1:=⟨bw-1,by omega⟩
   have w:∀x:Z,(x.2.2.2.2.1≠0\/∃ds,x=e.tt ds)->fixF (CN R λx=>some x) bw x=some x:=by
    intro x y;rw[S,fl];unfold CN;dsimp only;rcases y with y|⟨ds,rfl⟩
    ·simp only[y,bG,cZ,eQ,cA,aW,and_false]
    ·rw[show gY ((e.tt ds).1,(e.tt ds).2.1,(e.tt ds).2.2.1,(e.tt ds).2.2.2.1,(e.tt ds).2.2.2.2.1,(e.tt ds).2.2.2.2.2.1,(e.tt ds).2.2.2.2.2.2.1,(e.tt ds).2.2.2.2.2.2.2.1,(e.tt ds).2.2.2.2.2.2.2.2)=some true from pB e ds];rfl
   generalize uQ:fixF (CN R λx=>some x) bw=k at E w;obtain⟨ai,rfl,I⟩:=Q;unfold CN a7;dsimp only;have T:gY ((e.st r F ai).1,(e.st r F ai).2.1,(e.st r F ai).2.2.1,(e.st r F ai).2.2.2.1,(e.st r F ai).2.2.2.2.1,(e.st r F ai).2.2.2.2.2.1,(e.st r F ai).2.2.2.2.2.2.1,(e.st r F ai).2.2.2.2.2.2.2.1,(e.st r F ai).2.2.2.2.2.2.2.2)=some (decide (r=[])):=qZ e r F ai;have V:ir ((e.st r F ai).1,(e.st r F ai).2.1,(e.st r F ai).2.2.1,(e.st r F ai).2.2.2.1,(e.st r F ai).2.2.2.2.1,(e.st r F ai).2.2.2.2.2.1,(e.st r F ai).2.2.2.2.2.2.1,(e.st r F ai).2.2.2.2.2.2.2.1,(e.st r F ai).2.2.2.2.2.2.2.2)=some (bs r):=ss j;have z:CA ((e.st r F ai).1,(e.st r F ai).2.1,(e.st r F ai).2.2.1,(e.st r F ai).2.2.2.1,(e.st r F ai).2.2.2.2.1,(e.st r F ai).2.2.2.2.2.1,(e.st r F ai).2.2.2.2.2.2.1,(e.st r F ai).2.2.2.2.2.2.2.1,(e.st r F ai).2.2.2.2.2.2.2.2)=some (decide (r.dropWhile ch≠r)&&ff (bs (r.dropWhile ch))):=T6 j;have h0:(e.st r F ai).2.2.2.2.1=0:=rfl;rw[T,gy,V,gy,F4,gy,z,gy,h0];simp only[bA,cK];by_cases W:r=[]
   ·subst W;have g:g7 (a9 true n) [] F= .ok () [] F:=by unfold g7;rw[cz,aS (td (r':=[]) mK (by decide))];rfl
    rw[g];simp only[bA,hI,aW,aL];exact⟨_,rfl,fq,j,⟨ai,rfl,I⟩,trivial⟩
   ·have X:(bif(bif true then !decide (r=[]) else false) then bif(if(bif true then !decide (r=[]) else false)=true then ff (if(bif true then !decide (r=[]) else false)=true then bs r else []) else false) then true else(if((if(bif true then !decide (r=[]) else false)=true then ff (if(bif true then !decide (r=[]) else false)=true then bs r else []) else false)=false/\(bif true then !decide (r=[]) else false)=true) then(decide (r.dropWhile ch≠r)&&ff (bs (r.dropWhile ch))) else false) else false)=ff (bs (r.dropWhile ch)):=by
     conv=>rhs;rw[<-NH r]
     grind
    refine bR.ei ?_ (show(bif(bif(bif true then !decide (r=[]) else false) then bif(if(bif true then !decide (r=[]) else false)=true then ff (if(bif true then !decide (r=[]) else false)=true then bs r else []) else false) then true else(if((if(bif true then !decide (r=[]) else false)=true then ff (if(bif true then !decide (r=[]) else false)=true then bs r else []) else false)=false/\(bif true then !decide (r=[]) else false)=true) then(decide (r.dropWhile ch≠r)&&ff (bs (r.dropWhile ch))) else false) else false) then _ else _)=_ from by rw[X]);cases J:ff (bs (r.dropWhile ch)) with
    |false=>
     have g:g7 (a9 true n) r F= .ok () r F:=by unfold g7;rw[cz,aS (td G J)];rfl
     rw[g];exact⟨_,rfl,fq,j,⟨ai,rfl,I⟩,trivial⟩
    |true=>
     simp only[aL];unfold g7;rw[cz];refine bR.iZ c_.k (Uh hD bf (ai:=ai) j G J) (λb ad c d Y s1 v1 K rP=>?_) (λop nd ds d _ L=>?_) (λd u=>?_)
     ·subst rP;have ay:=s9 (mL true n) Y;have l:=K.eta;rw[l.2.2.2.2.1];simp only[bA,aL];show bR true e r (cR _ r (.ok (.inl ()) ad c)) _ _ _;refine bR.inl ay ?_;rcases xY v1 K with⟨f,a,o,i,p,v,s,A⟩|⟨o,i⟩
      ·rw[i,aR rfl];have U:=p.eta;rw[l.2.2.2.1,l.2.2.2.2.2.2.2];have B:a=(a.1,a.2.1,a.2.2.1,c,a.2.2.2.2.1,a.2.2.2.2.2.1,a.2.2.2.2.2.2.1,([]:bx),a.2.2.2.2.2.2.2.2):=by grind
       rw[<-B];have g:g7 (a9 true n) ad c=g7 (a9 true n) f c:=by
        unfold g7;rw[cz,cz];have Gg:dz (a9 true n) ad c=dz (a9 true n) f c:=by unfold dz;grind[fL,N]
        have C:N (dz (a9 true n)) (λb=>(a1 (if b=true then .inl () else .inr ()):ae (Unit⊕Unit))) ad c=N (dz (a9 true n)) (λb=>a1 (if b=true then .inl () else .inr ())) f c:=by grind[N]
        rw[C];cases hm:dz (a9 true n) f c with
        |ok b t b9=>
         rw[aS hm];cases b with
         |true=>have pC:=s9 (mL true n) hm;have n_:=s.length_le;show(if t.length<ad.length then _ else _)=(if t.length<f.length then _ else _);grind
         |false=>rfl
        |more op nd ds=>rw[dt hm];rfl
        |bad q=>rw[hq hm];rfl
        |deep q=>rw[ki hm];rfl
       have:=(E f c a (by grind) v p A).mono (s.trans s1);unfold g7 at g this;grind
      ·rw[i,aR rfl,l.2.2.2.1,l.2.2.2.2.2.2.2];have g:b8 (λ_=>N (dz (a9 true n)) λb=>a1 (if b=true then .inl () else .inr ())) () ad c=(.more [] [] c:dp Unit):=by
        rw[cz];have:dz (a9 true n) ad c= .more [] [] c:=by unfold dz;exact dt (by unfold fL;rw[o];rfl)
        rw[dt this];rfl
       rw[g];exact⟨e.tt c,w (e.tt c) (.inr ⟨c,rfl⟩),jb.tt c⟩
     ·have M:=L.z.1;refine⟨d,?_,L.up⟩;grind
     ·refine⟨d,?_,u⟩;rw[u.1];simp only[show¬((2:Int)=0) by decide,bG,aW];have:=w d (.inl (by rw[u.1];decide));have anE:d=(d.1,d.2.1,d.2.2.1,d.2.2.2.1,2,d.2.2.2.2.2.1,d.2.2.2.2.2.2.1,d.2.2.2.2.2.2.2.1,d.2.2.2.2.2.2.2.2):=by rw[<-u.1]
      grind
 unfold Fe a7;have O:=D.eta;rw[O.2.2.2.1,O.2.2.2.2.2.2.2];rcases xY h D with⟨f,a,o,i,p,v,s,A⟩|⟨o,i⟩
 ·rw[i,aR rfl];have B:a=(a.1,a.2.1,a.2.2.1,F,a.2.2.2.2.1,a.2.2.2.2.2.1,a.2.2.2.2.2.2.1,([]:bx),a.2.2.2.2.2.2.2.2):=by obtain⟨cE,rfl,_⟩:=p;rfl
  rw[<-B];have:=(P bD f F a (wQ v) v p A).mono s;have g:g7 (a9 true n) r F=g7 (a9 true n) f F:=by
   unfold g7;rw[cz,cz];have Gg:dz (a9 true n) r F=dz (a9 true n) f F:=by unfold dz;grind[fL,N]
   have C:N (dz (a9 true n)) (λb=>(a1 (if b=true then .inl () else .inr ()):ae (Unit⊕Unit))) r F=N (dz (a9 true n)) (λb=>a1 (if b=true then .inl () else .inr ())) f F:=by grind[N]
   rw[C];cases hm:dz (a9 true n) f F with
   |ok b t b9=>
    rw[aS hm];cases b with
    |true=>have pC:=s9 (mL true n) hm;have n_:=s.length_le;show(if t.length<r.length then _ else _)=(if t.length<f.length then _ else _);grind
    |false=>rfl
   |more op nd ds=>rw[dt hm];rfl
   |bad q=>rw[hq hm];rfl
   |deep q=>rw[ki hm];rfl
  grind
 ·rw[i,aR rfl];have g:g7 (a9 true n) r F= .more [] [] F:=by
   unfold g7;rw[cz];have:dz (a9 true n) r F= .more [] [] F:=by unfold dz;exact dt (by unfold fL;rw[o];rfl)
   rw[dt this];rfl
  rw[g];refine⟨e.tt F,?_,jb.tt F⟩
  obtain⟨m,hm⟩:∃m,bD=m+1:=⟨bD-1,by rw[gD]⟩
  dsimp only;rw[hm,fl];unfold CN;dsimp only;rw[show gY ((e.tt F).1,(e.tt F).2.1,(e.tt F).2.2.1,F,(e.tt F).2.2.2.2.1,(e.tt F).2.2.2.2.2.1,(e.tt F).2.2.2.2.2.2.1,[],(e.tt F).2.2.2.2.2.2.2.2)=some true from pB e F];rfl
end
def tj:ae H:=λr F=> .ok (jw r) (r.drop (jw r).length) F
theorem aor(r:H):jw r<+:r:=by grind[jw]
theorem Uk{r:H}(h:jw r≠[]):r.drop (jw r).length≠[]:=by
 unfold jw at h⊢;split
 ·grind[List.takeWhile_append_dropWhile]
 grind
theorem Gh{v:H}{F:ah}{w:H}(Y:bo v=some v)(a:aq v= .word w true):cS w v F= .ok () (v.drop w.length) F:=by unfold cS nJ;rw[aS (cu Y),a];simp[cG,b6]
theorem NR{β:Type}{m:Nat}{c:Ctx}{no:Bool}{kw x:H}{K:ae β}(az:c≠ .text)(g:∀t,d_ c t=cG t kw)(d:kw≠[]/\kw.all gN=true){r:H}{F:ah}(h:dK r):
  N (((aU true m).ls c no).aM x) (λ_=>N (cS kw) (λ_=>K)) r F=N (N (((aU true m).ls c no).aM x) (λ_=>tj)) (λ_=>K) r F:=by
 rw[k6];cases hm:(((aU true m).ls c no).aM x) r F with
 |ok a ad e=>
  rw[aS hm,aS hm];have b:=h3.1 hm;have Y:=((rF true m).ls c no).sfx b;obtain⟨ao,eK⟩:=A9 true m;rw[eK] at b;obtain⟨i,j⟩:=zv az b;rw[g] at j;have f:aq ad= .word kw true:=by grind[cG]
  have aE:=(sq (h.iE Y) d.1 d.2).2 f;rw[aS (Gh i f)];have:tj ad e= .ok kw (ad.drop kw.length) e:=by grind[tj]
  grind[aS]
 |more op nd ds=>grind[dt]
 |bad q=>grind[hq]
 |deep q=>grind[ki]
theorem Ul{m:Nat}{c:Ctx}{no:Bool}{kw x:H}(az:c≠ .text)(a:∀t,d_ c t=cG t kw)(b:kw≠[]/\kw.all gN=true){r:H}{F:ah}(d:dK r):
  N (((aU true m).ls c no).aM x) (λ_=>cS kw) r F=N (N (((aU true m).ls c no).aM x) (λ_=>tj)) (λ_=>a1 ()) r F:=by
 have M:(λ_:Nat=>cS kw)=λ_=>N (cS kw) (λ_=>a1 ()):=by grind[FT]
 simp_all[NR]
section
variable{R:bj}{n:Nat}(bk:o5 R n){e:cm}(bf:e.ne=30- (n:Int))
include bk bf
theorem Dq{c:Ctx}{x:H}(az:jV c=[119])(u:c≠ .text)(v:∀t,d_ c t=true->∃w,t= .word w true/\w≠[]/\w.all gN=true)(P:x.length<=100){r:H}{F:ah}{st:Z}(h:cI e r F)(y:gA e r F st):
  bR false e r (N (((aU true n).ls c false).aM x) (λ_=>tj) r F) (λb=>b.2) (λa r' b=>b.1=a/\a≠[]/\d_ c (.word a true)=true/\r'≠[]) (qJ R st (pA c) x):=by
 unfold qJ;obtain⟨⟨z,A⟩,j,d⟩:=bk.im e c false (by cases c<;>first|rfl|grind[jV]) bf r F st h y;dsimp only at d;rw[az] at j;have B:R.ot st [119] (pA c) true=some (z,A):=j;rw[B,aR rfl];dsimp only;have k:=(um true n).ls c false r F;have C:=h.nl.iE h.sfx;cases hm:(aU true n).ls c false r F with
 |ok a ad g=>
  rw[hm] at d;obtain⟨l,ak,a3,_⟩:=d;have f:(((aU true n).ls c false).aM x) r F= .ok a ad g:=h3.2 hm;rw[aS f];obtain⟨ao,eK⟩:=A9 true n;rw[eK] at hm;obtain⟨Q,D⟩:=zv u hm;obtain⟨w,E,m,G⟩:=v _ D;have aE:=(sq (C.iE l) m G).2 E;have h0:=a3.eta.2.2.2.2.1;rw[h0];simp only[bA,hI,aW];obtain⟨ai,I,_⟩:=a3;rw[I,wR ak,aR rfl,aE];have J:tj ad g= .ok w (ad.drop w.length) g:=by grind[tj]
  rw[J];have o:=aor ad;rw[aE] at o;have i:=Uk (r:=ad) (by grind);rw[aE] at i;obtain⟨q,rfl⟩:=o;rw[oN] at i⊢;have p:q<:+w++q:=fO w q;have K:W (ax e.S (w++q)+(w.length:Int))=ax e.S q:=k9 h.b7 ak.sfx;refine⟨(w,e.st q g ai),?_,p.trans l,ak.mono p,⟨ai,rfl,λL=>absurd L i⟩,rfl,m,?_,i⟩
  ·show some (w,(e.S,W (ax e.S (w++q)+(w.length:Int)),e.ne,g,(0:Int),(0:Int),([]:H),([]:bx),ai))=_;rw[K];rfl
  grind
 |more op nd ds=>
  rw[hm] at d k;simp only[ep] at k;have S:=h.kf;have s:=d.z;have f:(((aU true n).ls c false).aM x) r F= .more op (cW nd ds x).1 (cW nd ds x).2:=by grind[ae.aM]
  rw[dt f,s.1];simp only[show¬((1:Int)=0) by decide,bG,fo,aL];obtain⟨T,M,O⟩:=xZ (e:=e) (nm:=[]) (x:=x) (ad:=r) (r0:=r) (nd:=nd) (ds:=ds) s fq h.sfx (.inl rfl) (by omega) h.b7 (by omega);rw[M,aR rfl];exact⟨_,rfl,O.s⟩
 |bad q=>
  rw[hm] at d;have f:(((aU true n).ls c false).aM x) r F= .bad q:=by grind[ae.aM]
  rw[hq f,d.1];simp only[show¬((2:Int)=0) by decide,bG,fo,aL];rw[qg (by rw[d.1];decide),aR rfl];exact⟨_,rfl,d⟩
 |deep q=>
  rw[hm] at d;have f:(((aU true n).ls c false).aM x) r F= .deep q:=by grind[ae.aM]
  rw[ki f,d.1];simp only[show¬((2:Int)=0) by decide,bG,fo,aL];rw[qg (by rw[d.1];decide),aR rfl];exact⟨_,rfl,d⟩
end
theorem abo(t:Tok):d_ .sg t=cG t hT:=rfl
theorem abp(t:Tok):d_ .p9 t=cG t [125]:=rfl
theorem abq(t:Tok):d_ .kE t=cG t eh:=rfl
theorem abr(t:Tok):d_ .p_ t=cG t hp:=rfl
theorem NS(t:Tok):d_ .done t=cG t jh:=rfl
theorem Gj{t:Tok}{w:H}(h:cG t w=true):t= .word w true:=by grind[cG]
theorem Gk{c:Ctx}{kw:H}(h:∀t,d_ c t=cG t kw)(a:kw≠[]/\kw.all gN=true):∀t,d_ c t=true->∃w,t= .word w true/\w≠[]/\w.all gN=true:=by grind[Gj]
theorem JE{b:UInt8}{t:H}:(b=10/\aq (b::t)= .line)\/(b≠10/\bs (b::t)≠[]/\aq (b::t)= .op (bs (b::t)))\/(b≠10/\bs (b::t)=[]/\aq (b::t)= .word (dc (b::t)).1 (dc (b::t)).2):=by rw[x1];grind
section
variable{R:bj}{n:Nat}(hD:k_ R n){e:cm}(bf:e.ne=30- (n:Int))
include hD bf
theorem aos{r:H}{F:ah}{st:Z}(h:cI e r F)(L:gA e r F st):bR false e r (qa (a9 true n) r F) (λst=>st) (λ_ _ _=>True) (Iz R st):=by
 unfold qa Iz a7;refine bR.rep (en:=λ_ r F x=>gA e r F x) (λk s r F x y z N av=>?_) bD () r F _ (wQ h) h L
 have E:∀x:Z,x.2.2.2.2.1≠0->k x=some x:=by intro x z;obtain⟨k',M⟩:=N x;simp_all[R9]
 have he:=z.eta;unfold R9;dsimp only;rw[he.2.2.2.2.1,he.2.2.2.1,he.2.2.2.2.2.2.2];simp only[bA,aL];have A:(x.1,x.2.1,x.2.2.1,F,(0:Int),x.2.2.2.2.2.1,x.2.2.2.2.2.2.1,([]:bx),x.2.2.2.2.2.2.2.2)=x:=by grind
 rw[A];rcases xY y z with⟨d,eI,B,C,O,f,l,P⟩|⟨B,C⟩
 ·rw[C,aR rfl,aS (cu B)];obtain⟨c,rfl,Q⟩:=O;have D:gY ((e.st d F c).1,(e.st d F c).2.1,(e.st d F c).2.2.1,F,(e.st d F c).2.2.2.2.1,(e.st d F c).2.2.2.2.2.1,(e.st d F c).2.2.2.2.2.2.1,[],(e.st d F c).2.2.2.2.2.2.2.2)=some (decide (d=[])):=qZ e d F c;have S:iW ((e.st d F c).1,(e.st d F c).2.1,(e.st d F c).2.2.1,F,(e.st d F c).2.2.2.2.1,(e.st d F c).2.2.2.2.2.1,(e.st d F c).2.2.2.2.2.2.1,[],(e.st d F c).2.2.2.2.2.2.2.2)=some (d.headD 0):=Ge f;have T:ir ((e.st d F c).1,(e.st d F c).2.1,(e.st d F c).2.2.1,F,(e.st d F c).2.2.2.2.1,(e.st d F c).2.2.2.2.2.1,(e.st d F c).2.2.2.2.2.2.1,[],(e.st d F c).2.2.2.2.2.2.2.2)=some (bs d):=ss f;rw[D,aR rfl];cases d with
  |nil=>simp only[bA,aL];obtain⟨g,j,m⟩:=vv (ai:=c) (x:=[]) f (by simp);have o:hS ((e.st [] F c).1,(e.st [] F c).2.1,(e.st [] F c).2.2.1,F,(e.st [] F c).2.2.2.2.1,(e.st [] F c).2.2.2.2.2.1,(e.st [] F c).2.2.2.2.2.2.1,[],(e.st [] F c).2.2.2.2.2.2.2.2) []=some g:=j;rw[o,aR rfl];exact⟨g,rfl,(m.mono l).s⟩
  |cons b t=>
   simp only[reduceCtorEq,bG,aW];rw[S,aR rfl,T];simp only[zY,qd,oL];rcases JE (b:=b) (t:=t) with⟨p,u⟩|⟨p,u,w⟩|⟨p,u,w⟩
   ·subst p;rw[u];simp only[bA,aL];exact⟨_,rfl,l,f,⟨c,rfl,Q⟩,trivial⟩
   ·rw[w];simp only[p,bG,aW];by_cases G:bs (b::t)=[59]
    ·simp only[G,bA,aL,cK];have U:aq (b::t)= .op [59]:=by grind
     obtain⟨q,aF⟩:=(h4 U).2.1;have V:b=59/\t=q:=by grind
     obtain⟨rfl,rfl⟩:=V;have I:t<:+59::t:=dL 59 t;have X:W (ax e.S (59::t)+1)=ax e.S t:=jj y.b7 f.sfx;refine⟨e.st t F c,?_,I.trans l,f.mono I,⟨c,rfl,λY=>absurd Y (f.zC (by decide))⟩,trivial⟩;show some (e.S,W (ax e.S (59::t)+1),e.ne,F,(0:Int),(0:Int),([]:H),([]:bx),c)=_;rw[X];rfl
    ·simp only[G,u,bG,fo,aL,aW,cA];obtain⟨g,j,m⟩:=qi (ai:=c) ((e.st (b::t) F c).2.1) f l;have o:h9 ((e.st (b::t) F c).1,(e.st (b::t) F c).2.1,(e.st (b::t) F c).2.2.1,F,(e.st (b::t) F c).2.2.2.2.1,(e.st (b::t) F c).2.2.2.2.2.1,(e.st (b::t) F c).2.2.2.2.2.2.1,[],(e.st (b::t) F c).2.2.2.2.2.2.2.2) (e.st (b::t) F c).2.1=some g:=j;rw[o,aR rfl];exact⟨_,rfl,by cases j;exact m⟩
   ·rw[w];simp only[p,u,bG,bA,hI,aW,reduceCtorEq];have eD:=Gb hD bf (tr0:=c) f;have hs:c1 (b::t)=false:=(zz P w).2;refine bR.iZ c_.k (eD.mono l) (λa J b9 i bM i_ fe zH _=>?_) (λop nd ds i _ v=>?_) (λi v=>?_)
    ·have ay:=wy (mL true n) (by simp) hs bM;have K:J.length<r.length:=by grind
     exact bR.inl K (av () J b9 i.2.2 i_ fe K zH)
    ·exact⟨i.2.2,E i.2.2 (by rw[v.z.1];decide),v⟩
    ·exact⟨i.2.2,E i.2.2 (by rw[v.1];decide),v⟩
 ·rw[C,aR rfl,dt (op:=[]) (nd:=[]) (ds:=F) (by rw[iY B];rfl)];have D:gY ((e.tt F).1,(e.tt F).2.1,(e.tt F).2.2.1,F,(e.tt F).2.2.2.2.1,(e.tt F).2.2.2.2.2.1,(e.tt F).2.2.2.2.2.2.1,[],(e.tt F).2.2.2.2.2.2.2.2)=some true:=pB e F;rw[D,aR rfl];simp only[aL];obtain⟨g,j,m⟩:=Dp (x:=[]) y.Be (by simp);have o:hS ((e.tt F).1,(e.tt F).2.1,(e.tt F).2.2.1,F,(e.tt F).2.2.2.2.1,(e.tt F).2.2.2.2.2.1,(e.tt F).2.2.2.2.2.2.1,[],(e.tt F).2.2.2.2.2.2.2.2) []=some g:=j;rw[o,aR rfl];exact⟨g,rfl,(m.mono nP).s⟩
end
theorem JF{α β:Type}(a:ae α)(k:α->ae β)(x:H):(N a k).aM x=N (a.aM x) (λv=>(k v).aM x):=by grind[ae.aM,N]
theorem abt{α:Type}{p:Prop}[Decidable p](a b:ae α)(x:H):(if p then a else b).aM x=if p then a.aM x else b.aM x:=by grind
theorem Um{α:Type}(a:α)(x:H):(a1 a).aM x=a1 a:=rfl
theorem abu(k:Nat)(x:H):(b6 k).aM x=b6 k:=rfl
theorem JG{α β:Type}(a:α)(k:α->ae β):N (a1 a) k=k a:=rfl
theorem abv{D:ae Unit}:∀(r w:H)(F:ah),dc r=(w,true)->r.drop w.length≠[]->cX D r F= .ok () (r.drop w.length) F
 |[],w,F,h,au=>by simp[dc] at h;subst h;exact absurd rfl au
 |b::t,w,F,h,au=>by
  by_cases c:c1 (b::t)=true
  ·have:w=[]:=by unfold dc at h;rw[bc c] at h;cases h;rfl
   subst this;unfold cX;rw[cz];simp[c,cR]
  ·have d:c1 (b::t)=false:=by simpa using c
   have a:¬(b=92\/b=39\/b=34\/b=96\/gG (b::t)=true):=by intro Y;rw[Ue d Y] at h;cases h
   have h0:dc (b::t)=(match dc t with|(w,true)=>(b::w,true)|(_,false)=>([],false)):=by
    rw[dc,d,aO (by simp),aO a];cases dc t with
    |mk w p=>cases p<;>rfl
   rw[h0] at h;cases aE:dc t with
   |mk e p=>
    rw[aE] at h;cases p with
    |false=>cases h
    |true=>
     simp only at h;cases h;simp only[j5,GS] at au⊢;simp only[xa,Bool.not_eq_true] at a;have f:cJ D (some (e2 D)) (b::t) F= .ok () t F:=by unfold cJ;simp only;rw[aO a.1,aO a.2.2.2.1,a.2.2.2.2,aO (by simp)];simp[a.2.1,a.2.2.1]
     rw[C5 d f (by simp)];exact abv t e F aE au
noncomputable def Bg(R:bj):Z->Option Z:=λx=>
 (bif(!(decide (x.2.2.2.2.1=0))) then(aw (gZ x ([]) ([10,100,111,32,120,10,100,111,110,101]:H)) λ(a:Z)=>some a) else(aw (qJ R (x.1,(W (x.2.1+2)),x.2.2.1,x.2.2.2.1,x.2.2.2.2.1,x.2.2.2.2.2.1,x.2.2.2.2.2.2.1,x.2.2.2.2.2.2.2.1,x.2.2.2.2.2.2.2.2) ([([100,111,110,101]:H)]:bx) ([10,100,111,110,101]:H)) λ(c,b)=>some b))
noncomputable def Bh(R:bj):Z->Option Z:=λa=>
 (cZ ((decide (a.2.2.2.2.1=0))=true) (gY a) false λ(c:Bool)=>(cZ ((bif(decide (a.2.2.2.2.1=0)) then(!c) else false)=true) (mx a) [] λ(d:H)=>(bif(bif(bif(decide (a.2.2.2.2.1=0)) then(!c) else false) then(!(decide (d=([100,111]:H)))) else false) then(aw (h9 a a.2.1) λ(b:Z)=>some (b.1,b.2.1,b.2.2.1,a.2.2.2.1,b.2.2.2.2.1,b.2.2.2.2.2.1,b.2.2.2.2.2.2.1,a.2.2.2.2.2.2.2.1,b.2.2.2.2.2.2.2.2)) else(cZ ((decide (a.2.2.2.2.1=0))=true) (gY a) false λ(e:Bool)=>(bif(bif(decide (a.2.2.2.2.1=0)) then e else false) then(aw (hS a ([])) λ(f:Z)=>Bg R f) else Bg R a)))))
noncomputable def x9(R:bj):Z->Option Z:=λx=>
 (bif(!(decide (x.2.2.2.2.1=0))) then(aw (gZ x ([]) ([10,100,111,32,120,10,100,111,110,101]:H)) λ(a:Z)=>some a) else(aw (pt x) λ(b:Z)=>Bh R b))
theorem NU:([10,100,111,32,120,10,100,111,110,101]:H)=eB:=rfl
theorem wU:(hp:H)≠[]/\hp.all gN=true:=by decide
theorem Gl:(jh:H)≠[]/\jh.all gN=true:=by decide
theorem Bi:(fK:H)≠[]/\fK.all gN=true:=by decide
section
variable{R:bj}{n:Nat}(bk:o5 R n){e:cm}(bf:e.ne=30- (n:Int))
theorem abw{r:H}{nd:H}{ds:ah}{st:Z}{d:ah}(h0:cI e r d)(hm:jb true e r nd ds st)(f:nd.length+eC ds<=100*e.S.length+500):∃a,Bh R st=some a/\jb false e r (cW nd ds eB).1 (cW nd ds eB).2 a:=by
 have j:eB.length=10:=rfl;rcases hm with M|⟨_,rfl,rfl⟩
 ·obtain⟨a,b,c⟩:=xZ (e:=e) (nm:=[]) (x:=eB) (ad:=r) (r0:=r) (nd:=nd) (ds:=ds) M fq h0.sfx (.inl rfl) (by omega) h0.b7 (by omega);unfold Bh;rw[M.1];simp only[show¬((1:Int)=0) by decide,bG,cZ,eQ,cA,aW];unfold Bg;rw[M.1];simp only[show¬((1:Int)=0) by decide,bG,fo,aL];rw[NU,b,aR rfl];exact⟨a,rfl,c.s⟩
 ·simp only[w8,Nat.zero_add] at f;have g:(e.tt ds).2.2.2.2.1=0:=rfl;unfold Bh;rw[g,pB,gy];have k:=uo ds;have h:hS (e.tt ds) []=some (e.S,(e.S.length:Int),e.ne,ds,1,0,[],[],true):=by unfold hS a7 cm.tt;simp only[bA,aL];have:=h0.b7;rw[Dk _ _ _ _ _ _ _ _ _ _ (by simp) (by grind) (by omega),aR rfl];rfl
  have i:oK e r [] ds (e.S,(e.S.length:Int),e.ne,ds,1,0,[],[],true):=by
   refine⟨rfl,rfl,rfl,⟨rfl,?_,?_,?_,?_⟩,?_⟩
   ·grind[ax]
   ·grind
   ·grind
   ·simp
   simp
  simp only[bA,cK,hI,aL,aW,cZ,eQ,cA,oL];rw[h,aR rfl];obtain⟨a,b,c⟩:=xZ (e:=e) (nm:=[]) (x:=eB) (ad:=r) (r0:=r) (nd:=[]) (ds:=ds) i fq h0.sfx (.inl rfl) (by grind) h0.b7 (by omega);unfold Bg;simp only[show¬((1:Int)=0) by decide,bG,fo,aL];rw[NU,b,aR rfl];exact⟨a,rfl,c.s⟩
theorem Un{r:H}{nd:H}{ds:ah}{st:Z}{b:ah}(h0:cI e r b)(hm:jb true e r nd ds st)(c:nd.length+eC ds<=100*e.S.length+500):∃a,x9 R st=some a/\jb false e r (cW nd ds eB).1 (cW nd ds eB).2 a:=by
 have i:eB.length=10:=rfl;rcases hm with M|⟨d,rfl,rfl⟩
 ·obtain⟨a,f,g⟩:=xZ (e:=e) (nm:=[]) (x:=eB) (ad:=r) (r0:=r) (nd:=nd) (ds:=ds) M fq h0.sfx (.inl rfl) (by omega) h0.b7 (by omega);unfold x9;rw[M.1,NU];simp only[show¬((1:Int)=0) by decide,bG,fo,aL];rw[f,aR rfl];exact⟨a,rfl,g.s⟩
 ·have h:(e.tt ds).2.2.2.2.1=0:=rfl;unfold x9;rw[h];simp only[bA,hI,aW];rw[abm,aR rfl];exact abw h0 (.inr ⟨d,rfl,rfl⟩) c
theorem abx{r:H}{st:Z}(hm:jk e r st):∃a,Bh R st=some a/\jk e r a:=by unfold Bh;rw[hm.1];simp only[show¬((2:Int)=0) by decide,bG,cZ,eQ,cA,aW];unfold Bg;rw[hm.1];simp only[show¬((2:Int)=0) by decide,bG,fo,aL];rw[qg (by rw[hm.1];decide),aR rfl];grind
theorem Uo{r:H}{st:Z}(hm:jk e r st):∃a,x9 R st=some a/\jk e r a:=by unfold x9;rw[hm.1];simp only[show¬((2:Int)=0) by decide,bG,fo,aL];rw[qg (by rw[hm.1];decide),aR rfl];grind
include bk bf
theorem aou{r r0:H}{F:ah}{ai:Bool}(h:cI e r F)(h0:r<:+r0)(Y:bo r=some r)(d:aq r= .word hp true):bR false e r0 (ji (aU true n) eB r F) (λst=>st) (λ_ _ _=>True) (Bg R (e.st r F ai)):=by
 unfold ji Bg;have i:(e.st r F ai).2.2.2.2.1=0:=rfl;rw[i];simp only[bA,hI,aW];rw[aS (h3.2 (Gh Y d))];obtain⟨q,rfl⟩:=(qQ d).1;rw[oN];have f:q<:+hp++q:=fO hp q;have j:W (ax e.S (hp++q)+2)=ax e.S q:=k9 (w:=hp) h.b7 h.sfx;have k:q≠[]:=by have:=Uk (r:=hp++q);rw[(sq (h.nl.iE h.sfx) wU.1 wU.2).2 d] at this;grind[wU]
 have g:=h.mono f;have l:((e.st (hp++q) F ai).1,W ((e.st (hp++q) F ai).2.1+2),(e.st (hp++q) F ai).2.2.1,(e.st (hp++q) F ai).2.2.2.1,(0:Int),(e.st (hp++q) F ai).2.2.2.2.2.1,(e.st (hp++q) F ai).2.2.2.2.2.2.1,(e.st (hp++q) F ai).2.2.2.2.2.2.2.1,(e.st (hp++q) F ai).2.2.2.2.2.2.2.2)=e.st q F ai:=by show(e.S,W (ax e.S (hp++q)+2),e.ne,F,(0:Int),(0:Int),([]:H),([]:bx),ai)=_;rw[j];rfl
 rw[l,Ul (by simp) NS Gl (h.nl.iE g.sfx)];refine bR.iZ (C:=λx=>x) c_.id ((Dq bk bf (c:= .done) rfl (by simp) (Gk NS Gl) (by decide) g ⟨ai,rfl,λm=>absurd m k⟩).mono (f.trans h0)) (λa ad s b t s1 o p _=>?_) (λop nd ds b _ u=>?_) (λb v=>?_)
 ·exact⟨b.2,rfl,s1,o,p,trivial⟩
 ·grind
 grind
theorem aov{r r0:H}{F:ah}{st:Z}(h:cI e r F)(i:gA e r F st)(h0:r<:+r0)(j:r0<:+e.S)(Y:bo r=some r):bR false e r0 (ji (aU true n) eB r F) (λst=>st) (λ_ _ _=>True) (Bh R st):=by
 obtain⟨ai,rfl,s⟩:=i;unfold Bh;have k:(e.st r F ai).2.2.2.2.1=0:=rfl;rw[k,qZ,gy,wR h,gy];by_cases c:r=[]
 ·subst c;simp only[bA,cK,hI,aL,aW,cZ,eQ,cA,oL];obtain⟨l,a,b⟩:=vv (ai:=ai) (x:=[]) h (by simp);rw[a,aR rfl];have d:ji (aU true n) eB [] F= .more [] (cW [] F eB).1 (cW [] F eB).2:=by unfold ji;refine dt ?_;unfold ae.aM cS nJ;rw[aS (cu mK)];rfl
  rw[d];have t:=uo F;have aE:=h.kf;simp only[w8] at aE;obtain⟨m,o,p⟩:=xZ (e:=e) (nm:=[]) (x:=eB) (ad:=[]) (r0:=r0) (nd:=[]) (ds:=F) b h0 j (.inl rfl) (by simp only[w8];have:eB.length=10:=rfl;omega) h.b7 (by decide);unfold Bg;rw[b.1];simp only[show¬((1:Int)=0) by decide,bG,fo,aL];rw[NU,o,aR rfl];exact⟨m,rfl,p.s⟩
 ·simp only[c,bG,bA,fo,aL,cK];have g:=h.nl.iE h.sfx;by_cases aD:jw r=[100,111]
  ·have q:=(sq g wU.1 wU.2).1 aD;simp only[aD,bA,hI,aW];simp_all[gy,aou]
  ·simp only[aD,bG,fo,aL];have q:aq r≠ .word hp true:=λf=>aD ((sq g wU.1 wU.2).2 f);have d:ji (aU true n) eB r F= .bad r:=by unfold ji;refine hq ?_;unfold ae.aM cS nJ;rw[aS (cu Y)];have M:aq r≠ .eof:=λf=>c (mA.1 f);rw[aO M,aO (by grind[Gj])];rfl
   rw[d];obtain⟨l,a,b⟩:=qi (ai:=ai) ((e.st r F ai).2.1) h h0;rw[a,aR rfl];exact⟨_,rfl,by cases a;exact b⟩
theorem Up{r r0:H}{F:ah}{st:Z}(h:cI e r F)(j:gA e r F st)(h0:r<:+r0)(o:r0<:+e.S):bR false e r0 (N (c2.aM eB) (λ_=>ji (aU true n) eB) r F) (λst=>st) (λ_ _ _=>True) (x9 R st):=by
 unfold x9;rw[j.eta.2.2.2.2.1];simp only[bA,hI,aW];have l:=F7 h j;obtain⟨p,m,b⟩:=l;rw[m,aR rfl];have k:=aJ.lines (c:=0) r F;have aE:=h.kf;cases hm:c2 r F with
 |ok a ad s=>grind[aS,h3,aov]
 |more op nd ds=>
  rw[hm] at b k;simp only[ep] at k;have d:(c2.aM eB) r F= .more op (cW nd ds eB).1 (cW nd ds eB).2:=by grind[ae.aM]
  rw[dt d];obtain⟨f,g,i⟩:=abw (R:=R) h b (by omega);exact⟨f,g,jb.mono i h0⟩
 |bad q=>
  rw[hm] at b;have d:(c2.aM eB) r F= .bad q:=by grind[ae.aM]
  rw[hq d];obtain⟨f,g,i⟩:=abx (R:=R) b;exact⟨f,g,i.mono h0⟩
 |deep q=>
  rw[hm] at b;have d:(c2.aM eB) r F= .deep q:=by grind[ae.aM]
  rw[ki d];obtain⟨f,g,i⟩:=abx (R:=R) b;exact⟨f,g,i.mono h0⟩
end
theorem aow(l:ea)(D:ae Unit):qb l D=N (bV tZ) (λt=>match t with
  | .eof=>cf tZ
  | .word w true=>if my w then N (b6 w.length) λ_=>N ((bV []).aM eB) λt=>if t= .op [59] then N (b6 1) λ_=>N (c2.aM eB) λ_=>ji l eB else
    N (c2.aM eB) λ_=>N ((bV []).aM eB) λt=>if cG t fK then N (b6 2) λ_=>N ((qa D).aM eB) λ_=>N (c2.aM eB) λ_=>ji l eB else ji l eB
   else bP
  |_=>bP):=by
 unfold qb;congr 1
 funext t
 cases t with
 |word w p=>
  cases p with
  |true=>
   simp only[JF,k6];congr 1;congr 1
   funext _
   congr 1
   funext t
   rw[abt,zo];congr 1
   ·simp[JF,k6,abu,Um,JG]
   ·simp only[JF,k6,Um];congr 1
    funext _
    congr 1
    funext t
    rw[abt,zo];simp[JF,k6,abu,Um,JG]
  |false=>rfl
 |_=>rfl
theorem aby:∀(r w:H),dK r->r≠[]->dc r=(w,true)->r.drop w.length≠[]
 |[],w,_,c,_=>absurd rfl c
 |b::t,w,a,_,h=>by
  by_cases i:c1 (b::t)=true
  ·simp_all[dc]
  ·have d:c1 (b::t)=false:=by grind
   have e:¬(b=92\/b=39\/b=34\/b=96\/gG (b::t)=true):=by grind[Ue]
   have h0:dc (b::t)=(match dc t with|(w,true)=>(b::w,true)|(_,false)=>([],false)):=by rw[dc,d,aO (by simp),aO e];grind
   rw[h0] at h;have j:b≠10:=by simp_all[c1]
   have f:t≠[]:=by
    rintro rfl;rcases a with M|⟨x,M⟩
    ·cases M
    ·cases x with
     |nil=>grind
     |cons y ys=>simp_all
   cases aE:dc t with
   |mk g p=>
    rw[aE] at h;cases p with
    |false=>cases h
    |true=>simp only at h;cases h;simp only[j5,GS];exact aby t g (a.iE (dL b t)) f aE
noncomputable def Bj(R:bj):Z->Option Z:=λa=>
 (cZ ((decide (a.2.2.2.2.1=0))=true) (mx a) [] λ(b:H)=>(bif(bif(decide (a.2.2.2.2.1=0)) then(decide (b=([105,110]:H))) else false) then(aw (Iz R (a.1,(W (a.2.1+2)),a.2.2.1,a.2.2.2.1,a.2.2.2.2.1,a.2.2.2.2.2.1,a.2.2.2.2.2.2.1,a.2.2.2.2.2.2.2.1,a.2.2.2.2.2.2.2.2)) λ(c:Z)=>x9 R c) else x9 R a))
noncomputable def JH(R:bj):Z->Option Z:=λx=>
 (aw (ir x) λ(a:H)=>(bif(decide (a=([59]:H))) then x9 R (x.1,(W (x.2.1+1)),x.2.2.1,x.2.2.2.1,x.2.2.2.2.1,x.2.2.2.2.2.1,x.2.2.2.2.2.2.1,x.2.2.2.2.2.2.2.1,x.2.2.2.2.2.2.2.2) else(aw (pt x) λ(b:Z)=>Bj R b)))
noncomputable def NV(R:bj)(p:Int):(H×Bool×Z)->Option Z:=λ(e,d,a)=>
 (cZ ((bif(!(decide (a.2.2.2.2.1=0))) then true else(!d))=false) (CE e) false λ(f:Bool)=>(bif(bif(bif(!(decide (a.2.2.2.2.1=0))) then true else(!d)) then true else(!f)) then(aw (h9 a p) λ(b:Z)=>some (b.1,b.2.1,b.2.2.1,a.2.2.2.1,b.2.2.2.2.1,b.2.2.2.2.2.1,b.2.2.2.2.2.2.1,a.2.2.2.2.2.2.2.1,b.2.2.2.2.2.2.2.2)) else(aw (hR a) λ(c:Z)=>JH R (c.1,c.2.1,c.2.2.1,a.2.2.2.1,c.2.2.2.2.1,c.2.2.2.2.2.1,c.2.2.2.2.2.2.1,a.2.2.2.2.2.2.2.1,c.2.2.2.2.2.2.2.2))))
noncomputable def Uq(R:bj):Z->Option Z:=λx=>
 (aw (gY x) λ(b:Bool)=>(bif b then(aw (hS x ([120,10,100,111,32,120,10,100,111,110,101]:H)) λ(c:Z)=>some c) else(aw (xE x) λ(d:Bool)=>(bif d then(aw (h9 x x.2.1) λ(a:Z)=>some (a.1,a.2.1,a.2.2.1,x.2.2.2.1,a.2.2.2.2.1,a.2.2.2.2.2.1,a.2.2.2.2.2.2.1,x.2.2.2.2.2.2.2.1,a.2.2.2.2.2.2.2.2)) else(aw (rr R x) λy=>NV R x.2.1 y)))))
theorem aox(R:bj)(I:Z):IA R I=aw (hR I) λa=>Uq R (a.1,a.2.1,a.2.2.1,I.2.2.2.1,a.2.2.2.2.1,a.2.2.2.2.2.1,a.2.2.2.2.2.2.1,I.2.2.2.2.2.2.2.1,a.2.2.2.2.2.2.2.2):=rfl
theorem aoy(fr:Bool)(n:Nat):(aU fr n).dl=a9 fr n:=by cases n<;>rfl
def Ur(l:ea)(D:ae Unit):ae Unit:=N ((bV []).aM eB) λt=>if cG t fK then N (b6 2) λ_=>N ((qa D).aM eB) λ_=>N (c2.aM eB) λ_=>ji l eB else ji l eB
def zI(l:ea)(D:ae Unit):ae Unit:=N ((bV []).aM eB) λt=>if t= .op [59] then N (b6 1) λ_=>N (c2.aM eB) λ_=>ji l eB else N (c2.aM eB) λ_=>Ur l D
theorem aoz(l:ea)(D:ae Unit):qb l D=N (bV tZ) (λt=>match t with
 | .eof=>cf tZ
 | .word w true=>if my w then N (b6 w.length) λ_=>zI l D else bP
 |_=>bP):=aow l D
theorem qj{α:Type}{m:ae α}{x:H}{r:H}{F:ah}{a:α}{ad:H}{b:ah}(h:m r F= .ok a ad b):(m.aM x) r F= .ok a ad b:=h3.2 h
theorem tk{α:Type}{m:ae α}{x:H}{r:H}{F:ah}{op:bx}{nd:H}{ds:ah}(h:m r F= .more op nd ds):(m.aM x) r F= .more op (cW nd ds x).1 (cW nd ds x).2:=by grind[ae.aM]
theorem vw{α:Type}{m:ae α}{x:H}{r q:H}{F:ah}(h:m r F= .bad q):(m.aM x) r F= .bad q:=by grind[ae.aM]
theorem vx{α:Type}{m:ae α}{x:H}{r q:H}{F:ah}(h:m r F= .deep q):(m.aM x) r F= .deep q:=by grind[ae.aM]
theorem aJ.low{α:Type}{c:Nat}{f:ae α}(aE:aJ c f){e:cm}{r:H}{F:ah}(h:cI e r F):∀(op:bx)(nd:H)(ds:ah)(hm:f r F= .more op nd ds),nd.length+eC ds<=100*e.S.length+c:=by intro op nd ds hm;have:=aE r F;rw[hm] at this;simp only[ep] at this;have:=h.kf;omega
theorem Us{e:cm}{ds a:ah}{r:H}(h:cI e r a):mx (e.tt ds)=some []:=by
 have M:mx (e.tt ds)=mx (e.tt a):=by rfl
 rw[M];exact aop h.Be
theorem Ut{r w:H}{p:Bool}(h:aq r= .word w p):dc r=(w,p):=by
 cases r with
 |nil=>grind[mA]
 |cons b t=>grind[JE]
theorem NW{α:Type}{q:Bool}{e:cm}{r0 ad:H}{st:Z}{cv:α->H->Z->Prop}(p:Int)(h:oJ e r0 st):bR q e r0 (.bad ad:dp α) (λst=>st) cv (h9 st p):=⟨_,rfl,rfl,h.s,h.lo,h.bh,h.nd,h.op⟩
theorem Uu{R:bj}{p:Int}{b:H}{c:Bool}{a:Z}(h:a.2.2.2.2.1≠0):NV R p (b,c,a)=h9 a p:=by unfold NV;simp only[h,bG,fo,aL,cZ,uE,cA];rfl
section
variable{R:bj}{n:Nat}(bk:o5 R n)(hD:k_ R n){e:cm}(bf:e.ne=30- (n:Int))
theorem abz{r:H}{nd:H}{ds:ah}{st:Z}{c:ah}(h0:cI e r c)(hm:jb true e r nd ds st)(a:nd.length+eC ds<=100*e.S.length+500):∃b,Bj R st=some b/\jb false e r (cW nd ds eB).1 (cW nd ds eB).2 b:=by
 rcases hm with M|⟨_,rfl,rfl⟩
 ·unfold Bj;rw[M.1];simp only[show¬((1:Int)=0) by decide,bG,cZ,eQ,cA,aW];exact Un h0 (.inl M) a
 ·unfold Bj;have d:(e.tt ds).2.2.2.2.1=0:=rfl;rw[d,Us h0,gy];simp only[bA,cK,reduceCtorEq,bG,aL,aW];exact Un h0 (.inr ⟨rfl,rfl,rfl⟩) a
theorem abA{r:H}{st:Z}(hm:jk e r st):∃a,Bj R st=some a/\jk e r a:=by unfold Bj;rw[hm.1];simp only[show¬((2:Int)=0) by decide,bG,cZ,eQ,cA,aW];exact Uo hm
include bk hD bf
theorem aoA{r r0:H}{F:ah}{st:Z}(h:cI e r F)(k:gA e r F st)(h0:r<:+r0)(m:r0<:+e.S)(Y:bo r=some r)(ay:aq r≠ .line):bR false e r0 (Ur (aU true n) (a9 true n) r F) (λst=>st) (λ_ _ _=>True) (Bj R st):=by
 have l:=h.nl.iE h.sfx;unfold Ur Bj;rw[aS (qj (cu Y)),k.eta.2.2.2.2.1];obtain⟨ai,rfl,o⟩:=k;rw[wR h,gy];simp only[bA,cK,aL];by_cases aD:jw r=[105,110]
 ·have p:=(sq l Bi.1 Bi.2).1 aD;have bh:cG (aq r) fK=true:=by grind[cG]
  simp only[aD,bA,aL];rw[bc bh];obtain⟨q,rfl⟩:=(qQ p).1;have s:b6 2 (fK++q) F= .ok () q F:=rfl;rw[aS s];have i:q<:+fK++q:=fO fK q;have t:W (ax e.S (fK++q)+2)=ax e.S q:=k9 (w:=fK) h.b7 h.sfx;have u:q≠[]:=by grind[Uk,fK]
  have j:=h.mono i;have v:((e.st (fK++q) F ai).1,W ((e.st (fK++q) F ai).2.1+2),(e.st (fK++q) F ai).2.2.1,(e.st (fK++q) F ai).2.2.2.1,(0:Int),(e.st (fK++q) F ai).2.2.2.2.2.1,(e.st (fK++q) F ai).2.2.2.2.2.2.1,(e.st (fK++q) F ai).2.2.2.2.2.2.2.1,(e.st (fK++q) F ai).2.2.2.2.2.2.2.2)=e.st q F ai:=by show(e.S,W (ax e.S (fK++q)+2),e.ne,F,(0:Int),(0:Int),([]:H),([]:bx),ai)=_;rw[t];rfl
  rw[v];have c:=aos hD bf j ⟨ai,rfl,λx=>absurd x u⟩;obtain⟨b,y,c⟩:=c;rw[y,aR rfl];have z:=aJ.low (aJ.words (um true n)) j;rw[aoy] at z;cases hm:qa (a9 true n) q F with
  |ok a ad C=>grind[aS,qj,Up]
  |more op nd ds=>rw[hm] at c;rw[dt (tk hm)];obtain⟨d,f,g⟩:=Un (R:=R) j (jb.up c) (by grind);exact⟨d,f,g.mono (i.trans h0)⟩
  |bad A=>rw[hm] at c;rw[hq (vw hm)];obtain⟨d,f,g⟩:=Uo (R:=R) c;exact⟨d,f,g.mono (i.trans h0)⟩
  |deep A=>rw[hm] at c;rw[ki (vx hm)];obtain⟨d,f,g⟩:=Uo (R:=R) c;exact⟨d,f,g.mono (i.trans h0)⟩
 ·have bh:cG (aq r) fK=false:=by rw[<-Jy l Bi.1 Bi.2];exact eE aD
  simp only[aD,bG,aW];rw[aO (by grind)];have B:N (c2.aM eB) (λ_=>ji (aU true n) eB) r F=ji (aU true n) eB r F:=aS (qj (Nt Y ay));rw[<-B];exact Up bk bf h ⟨ai,rfl,o⟩ h0 m
theorem aoB{r r0:H}{F:ah}{st:Z}(h:cI e r F)(j:gA e r F st)(h0:r<:+r0)(p:r0<:+e.S)(Y:bo r=some r):bR false e r0 (zI (aU true n) (a9 true n) r F) (λst=>st) (λ_ _ _=>True) (JH R st):=by
 unfold zI JH;rw[aS (qj (cu Y))];have he:=j.eta;have s:ir st=some (bs r):=by obtain⟨ai,rfl,u⟩:=j;exact ss h
 rw[s,aR rfl];by_cases k:bs r=[59]
 ·have l:aq r= .op [59]:=(mB (by simp)).2 k;simp only[k,decide_true,cond_true];rw[if_pos l];obtain⟨q,rfl⟩:=(h4 l).2.1;have v:b6 1 ([59]++q) F= .ok () q F:=rfl;rw[aS v];have o:q<:+[59]++q:=List.suffix_append _ q;have x:=h.mono o;have y:q≠[]:=cI.zC (b:=59) (t:=q) h (by decide);obtain⟨ai,rfl,u⟩:=j;have z:W (ax e.S ([59]++q)+1)=ax e.S q:=k9 (w:=[59]) h.b7 h.sfx;have A:((e.st ([59]++q) F ai).1,W ((e.st ([59]++q) F ai).2.1+1),(e.st ([59]++q) F ai).2.2.1,(e.st ([59]++q) F ai).2.2.2.1,(e.st ([59]++q) F ai).2.2.2.2.1,(e.st ([59]++q) F ai).2.2.2.2.2.1,(e.st ([59]++q) F ai).2.2.2.2.2.2.1,(e.st ([59]++q) F ai).2.2.2.2.2.2.2.1,(e.st ([59]++q) F ai).2.2.2.2.2.2.2.2)=e.st q F ai:=by show(e.S,W (ax e.S ([59]++q)+1),e.ne,F,(0:Int),(0:Int),([]:H),([]:bx),ai)=_;rw[z];rfl
  rw[A];exact Up bk bf x ⟨ai,rfl,λm=>absurd m y⟩ (o.trans h0) p
 ·have l:aq r≠ .op [59]:=λm=>k ((mB (by simp)).1 m);simp only[k,decide_false,cond_false];rw[if_neg l];obtain⟨C,B,d⟩:=F7 h j;rw[B,aR rfl];have D:=aJ.low (aJ.lines (c:=0)) h;cases hm:c2 r F with
  |ok a ad E=>grind[aS,qj,aoA]
  |more op nd ds=>rw[hm] at d;rw[dt (tk hm)];obtain⟨f,g,i⟩:=abz (R:=R) h d (by grind);exact⟨f,g,i.mono h0⟩
  |bad q=>rw[hm] at d;rw[hq (vw hm)];obtain⟨f,g,i⟩:=abA (R:=R) d;exact⟨f,g,i.mono h0⟩
  |deep q=>rw[hm] at d;rw[ki (vx hm)];obtain⟨f,g,i⟩:=abA (R:=R) d;exact⟨f,g,i.mono h0⟩
omit bk hD bf in
theorem aoC{r r0:H}{b F:ah}(h:cI e r b)(h0:r<:+r0)(f:eC F<=100*e.S.length+400):∃a,JH R (e.tt F)=some a/\jb false e r0 (cW [] F eB).1 (cW [] F eB).2 a:=by unfold JH;rw[Gf F h.b7,aR rfl];simp only[reduceCtorEq,bG,aW];rw[abm,aR rfl];obtain⟨a,c,d⟩:=abz (R:=R) h (jb.tt (e:=e) (r:=r) F) (by grind);exact⟨a,c,d.mono h0⟩
theorem aoD{r:H}{F:ah}{st:Z}(h:cI e r F)(V:gA e r F st)(W:r<:+e.S):bR false e r (qb (aU true n) (a9 true n) r F) (λst=>st) (λ_ _ _=>True) (IA R st):=by
 rw[aoz,aox];obtain⟨ai,rfl,X⟩:=V;rcases xY h ⟨ai,rfl,X⟩ with⟨b,eI,z,A,eX,m,s,iK⟩|⟨z,A⟩
 ·rw[A,aR rfl,aS (cu z)];obtain⟨d,rfl,NT⟩:=eX;have B:((e.st b F d).1,(e.st b F d).2.1,(e.st b F d).2.2.1,(e.st r F ai).2.2.2.1,(e.st b F d).2.2.2.2.1,(e.st b F d).2.2.2.2.2.1,(e.st b F d).2.2.2.2.2.2.1,(e.st r F ai).2.2.2.2.2.2.2.1,(e.st b F d).2.2.2.2.2.2.2.2)=e.st b F d:=rfl;rw[B];unfold Uq;rw[qZ,aR rfl];by_cases t:b=[]
  ·subst t;simp only[bA,aL];obtain⟨g,f,k⟩:=vv (ai:=d) (x:=tZ) m (by decide);rw[show([120,10,100,111,32,120,10,100,111,110,101]:H)=tZ from rfl,f,aR rfl];exact⟨g,rfl,(k.mono s).s⟩
  ·simp only[t,bG,aW];rw[NO m t,aR rfl];have L:∃g,h9 (e.st b F d) (e.st b F d).2.1=some g/\jk e r g:=qi _ m s
   have qf:aq b≠ .eof:=λC=>t (mA.1 C);cases an:aq b with
   |eof=>grind
   |line=>simp only[aL];obtain⟨g,f,k⟩:=L;rw[f,aR rfl];exact⟨_,rfl,by cases f;exact k⟩
   |op o=>simp only[aL];obtain⟨g,f,k⟩:=L;rw[f,aR rfl];exact⟨_,rfl,by cases f;exact k⟩
   |word w p=>
    simp only[aW];have v:=Ut an;have dI:=h.nl.iE m.sfx;obtain⟨⟨i,fB,M⟩,O,c⟩:=Gb hD bf (tr0:=d) m;rw[O,aR rfl];have P:M.1=e.S->i.length<=1000000:=λY=>kB (Uf m Y O).1 h.b7;unfold NV;dsimp only at c⊢;by_cases Q:p=true/\my w=true
    ·obtain⟨rfl,so⟩:=Q;dsimp only;have Bf:=aby b w dI t v;have x6:=abv (D:=a9 true n) b w F v Bf;rw[x6] at c;obtain⟨E,ak,a3, -,j,l⟩:=c;rw[v] at j l;dsimp only at j l;have G:=l j;subst G j;have I:=(zy i (P a3.eta.1)).2;rw[I,a3.eta.2.2.2.2.1,so];simp only[bA,hI,aW,cK];rw[gy];simp only[cK,hI,aW];rw[aS (show b6 i.length b F= .ok () (b.drop i.length) F from rfl)];obtain⟨S,rfl,T⟩:=a3;rcases xY ak ⟨S,rfl,T⟩ with⟨b0,aoE,J,K,sl,lp,vu,U⟩|⟨J,K⟩
     ·rw[K,aR rfl];obtain⟨ic,rfl,NY⟩:=sl;have u:zI (aU true n) (a9 true n) (b.drop i.length) F=zI (aU true n) (a9 true n) b0 F:=by unfold zI;rw[aS (qj (cu J)),aS (qj (cu U))]
      rw[u];exact aoB bk hD bf lp ⟨ic,rfl,NY⟩ (vu.trans (E.trans s)) W U
     ·rw[K,aR rfl];have u:zI (aU true n) (a9 true n) (b.drop i.length) F= .more [] (cW [] F eB).1 (cW [] F eB).2:=by unfold zI;exact dt (tk (by rw[iY J];rfl))
      rw[u];have wI:=h.kf;exact aoC (R:=R) h fq (by show eC F<=_;omega)
    ·have u:(match Tok.word w p with| .eof=>cf tZ| .word w true=>if my w then N (b6 w.length) λ_=>zI (aU true n) (a9 true n) else bP|_=>bP:ae Unit) b F= .bad b:=by
      cases p with
      |false=>rfl
      |true=>dsimp only;rw[if_neg (λC=>Q ⟨rfl,C⟩)];rfl
     refine bR.ei (y:=h9 M (e.st b F d).2.1) ?_ ?_
     ·rw[u];cases hm:cX (a9 true n) b F with
      |ok a cB b9=>rw[hm] at c;obtain⟨E,ak,⟨S,rfl,T⟩,_⟩:=c;grind[NW,abi]
      |more op nd ds=>rw[hm] at c;exact NW _ (c.z.2.2.2.1.mono s)
      |bad q=>rw[hm] at c;exact NW _ (c.2.mono s)
      |deep q=>rw[hm] at c;exact NW _ (c.2.mono s)
     ·cases hm:cX (a9 true n) b F with
      |ok a cB b9=>
       rw[hm] at c;obtain⟨E,ak,a3, -,j,l⟩:=c;rw[v] at j l;dsimp only at j l;subst j;have I:=(zy i (P a3.eta.1)).2;rw[I,a3.eta.2.2.2.2.1];cases fB with
       |false=>rfl
       |true=>
        have G:=l rfl;subst G;have au:my i=false:=by grind
        rw[au];rfl
      |more op nd ds=>rw[hm] at c;exact Uu (by rw[c.z.1];decide)
      |bad q=>rw[hm] at c;exact Uu (by rw[c.1];decide)
      |deep q=>rw[hm] at c;exact Uu (by rw[c.1];decide)
 ·rw[A,aR rfl,dt (op:=[]) (nd:=(cW [] F tZ).1) (ds:=(cW [] F tZ).2) (by rw[iY z];rfl)];have B:((e.tt F).1,(e.tt F).2.1,(e.tt F).2.2.1,(e.st r F ai).2.2.2.1,(e.tt F).2.2.2.2.1,(e.tt F).2.2.2.2.2.1,(e.tt F).2.2.2.2.2.2.1,(e.st r F ai).2.2.2.2.2.2.2.1,(e.tt F).2.2.2.2.2.2.2.2)=e.tt F:=rfl;rw[B];unfold Uq;rw[pB,aR rfl];simp only[aL];obtain⟨g,f,k⟩:=Dp (x:=tZ) h.Be (by decide);rw[show([120,10,100,111,32,120,10,100,111,110,101]:H)=tZ from rfl,f,aR rfl];exact⟨g,rfl,(k.mono nP).s⟩
end
theorem aoF{σ α β:Type}(f:σ->ae (σ⊕α))(K:α->ae β):∀(bw:Nat)(s:σ)(r:H)(F:ah),r.length<=bw->N (b8 f s) K r F=b8 (λs=>N (f s) λx=>match x with| .inl s'=>a1 (.inl s')| .inr a=>N (K a) λb=>a1 (.inr b)) s r F:=by
 intro bw;induction bw with
 |zero=>
  intro s r F h;have e:r.length=0:=by omega
  rw[cz];unfold N;rw[cz];cases M:f s r F with
  |ok x ad c=>
   cases x with
   |inl s'=>grind[cR,a1]
   |inr a=>grind[cR,a1]
  |more op nd ds=>rfl
  |bad q=>rfl
  |deep q=>rfl
 |succ bw d=>
  intro s r F h;rw[cz];unfold N;rw[cz];cases M:f s r F with
  |ok x ad c=>
   cases x with
   |inl s'=>
    simp only[cR,a1];by_cases ay:ad.length<r.length
    ·rw[bc ay,bc ay];exact d s' ad c (by omega)
    grind
   |inr a=>grind[cR,a1]
  |more op nd ds=>rfl
  |bad q=>rfl
  |deep q=>rfl
theorem aoG{σ α β:Type}(f:σ->ae (σ⊕α))(K:α->ae β)(s:σ):N (b8 f s) K=b8 (λs=>N (f s) λx=>match x with| .inl s'=>a1 (.inl s')| .inr a=>N (K a) λb=>a1 (.inr b)) s:=by
 funext r F;exact aoF f K r.length s r F (cF _)
def Ds(e:cm)(r:H)(F:ah)(x:Z):Prop:=(∃r' ai,bo r=some r'/\x=e.st r' F ai/\(r'=[]->ai=false)/\cI e r' F/\r'<:+r/\bo r'=some r')\/(bo r=none/\x=e.tt F)
theorem x_{e:cm}{r:H}{F:ah}{st:Z}(h:cI e r F)(d:gA e r F st):∃x,hR st=some x/\Ds e r F x:=by
 rcases xY h d with⟨f,g,a,b,⟨ai,i,c⟩,j,k,l⟩|⟨a,b⟩
 ·exact⟨g,b,.inl ⟨f,ai,a,i,c,j,k,l⟩⟩
 ·exact⟨_,b,.inr ⟨a,rfl⟩⟩
theorem Gm{q:Bool}{e:cm}{r r0:H}{nd:H}{ds:ah}{st:Z}{b:ah}{x:H}(h0:cI e r b)(hm:jb false e r nd ds st)(h:r<:+r0)(f:nd.length+eC ds<=100*e.S.length+500)(g:x.length<=100):∃a,gZ st [] x=some a/\jb q e r0 (cW nd ds x).1 (cW nd ds x).2 a:=by obtain⟨a,c,d⟩:=xZ (e:=e) (nm:=[]) (x:=x) (ad:=r) (r0:=r) (nd:=nd) (ds:=ds) hm.z fq h0.sfx (.inl rfl) (by omega) h0.b7 (by omega);exact⟨a,c,(oK.mono d h).s⟩
theorem su{e:cm}{r:H}{st:Z}{nm x:H}(hm:jk e r st):gZ st nm x=some st:=qg (by rw[hm.1];decide)
theorem tl{e:cm}{w q:H}{F:ah}{ai:Bool}(h:cI e (w++q) F)(k:Nat)(av:w.length=k):(e.S,W (ax e.S (w++q)+(k:Int)),e.ne,F,(0:Int),(0:Int),([]:H),([]:bx),ai)=e.st q F ai:=by subst av;have a:W (ax e.S (w++q)+(w.length:Int))=ax e.S q:=k9 (w:=w) h.b7 h.sfx;rw[a];rfl
theorem cI.uu{e:cm}{w q:H}{F:ah}(h:cI e (w++q) F)(a:w≠[])(b:(10:UInt8)∉w):q≠[]:=by
 rintro rfl;rw[kj] at h;rcases h.nl.iE h.sfx with M|⟨t,M⟩
 ·grind
 grind
def Gn(l:ea):ae Unit:=N (l.ls .item true) λ_=>N (bV []) λt=>if t= .op [59,59] then b6 2 else a1 ()
def Bl(l:ea)(D:ae Unit)(t:Tok):ae Unit:=N ((if t= .op [40] then b6 1 else a1 ())) λ_=>N (lJ D) λ_=>Gn l
def pD(l:ea)(D:ae Unit):Unit->ae (Unit⊕Unit):=λ_=>N c2 λ_=>N (bV []) λt=>if t= .eof then cf [] else if cG t eH then N (b6 4) λ_=>a1 (.inr ()) else N (Bl l D t) λ_=>a1 (.inl ())
theorem abB(l:ea)(D:ae Unit):(λ(_:Unit)=>N c2 λ_=>N (bV []) λt=>if t= .eof then cf [] else if cG t eH then N (b6 4) λ_=>a1 (.inr ()) else
 N ((if t= .op [40] then b6 1 else a1 ())) λ_=>N (lJ D) λ_=>N (l.ls .item true) λ_=>N (bV []) λt=>if t= .op [59,59] then N (b6 2) λ_=>a1 (.inl ()) else a1 (.inl ()))=pD l D:=by
 unfold pD
 funext _
 congr 1
 funext _
 congr 1
 funext t
 congr 1;congr 1;unfold Bl Gn;simp only[k6];congr 1
 funext _
 congr 1
 funext _
 congr 1
 funext _
 congr 1
 funext t
 rw[zo];congr 1
theorem aoI(l:ea)(D:ae Unit):n4 l D=b8 (pD l D) ():=by simp[n4,abB]
theorem aoJ{n:Nat}{s':Unit}{r:H}{F:ah}{r':H}{a:ah}(h:pD (aU true n) (a9 true n) () r F= .ok (.inl s') r' a):r'.length<r.length:=by rw[<-abB] at h;exact(Za (rF true n) (mL true n)).lt (s:=()) h
noncomputable def zK(R:bj):Z->Option Z:=λx=>
 (aw (R.ot x ([59,59]:H) ([]:bx) false) λ(c,a)=>(cZ ((decide (a.2.2.2.2.1=0))=true) (ir a) [] λ(b:H)=>(bif(bif(decide (a.2.2.2.2.1=0)) then(decide (b=([59,59]:H))) else false) then some (a.1,(W (a.2.1+2)),a.2.2.1,a.2.2.2.1,a.2.2.2.2.1,a.2.2.2.2.2.1,a.2.2.2.2.2.2.1,a.2.2.2.2.2.2.2.1,a.2.2.2.2.2.2.2.2) else some a)))
noncomputable def JI(R:bj)(I x:Z):Option Z:=fixF (AR R (zK R)) bD (x.1,x.2.1,x.2.2.1,I.2.2.2.1,x.2.2.2.2.1,x.2.2.2.2.2.1,x.2.2.2.2.2.2.1,I.2.2.2.2.2.2.2.1,x.2.2.2.2.2.2.2.2)
theorem aoK(R:bj)(I:Z):Ir R I=(aw (ir I) λ(a:H)=>
 (bif(decide (a=([40]:H))) then
 (aw (hR (I.1,(W (I.2.1+1)),I.2.2.1,I.2.2.2.1,I.2.2.2.2.1,I.2.2.2.2.2.1,I.2.2.2.2.2.2.1,I.2.2.2.2.2.2.2.1,I.2.2.2.2.2.2.2.2)) λ(b:Z)=>JI R I b)
 else JI R I I)):=rfl
end Go.Eng
