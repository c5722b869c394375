/- Part 4 of what FnWrap needs. No condition. -/
import Derived.Test.YthnjiffnjaaejaaGreatDoorFnWrapC
set_option linter.all false
namespace Go.Eng
open Go Go.Proofs
theorem akj{R:bg}{n:Nat}(gL:∀m,n=m+1->Md R m){e:cH}(bc:e.ne=30- (n:Int))(aw:n<=30){u:aa}{pd:ao}(h:dQ e (36::123::u) pd):
  aV e u (a7 false n (36::123::u) pd) (λ_=>e.st) (wL R (e.st (36::123::u) pd)):=by
 cases n with
 |zero=>show aV e u (dd none _ _) _ _;unfold dd;rw[aO (by simp),aO (by simp),bh (by simp)];trivial
 |succ m=>
  have hu:=(gL m rfl).im (e.fj [36,123]) (by show e.ne+1=_;omega);have f:W (ax e.S (36::123::u)+2)=ax e.S u:=ks (w:=[36,123]) h.bZ h.sfx;have c:W (ax e.S (36::123::u)+1)=ax e.S (123::u):=iP h.bZ h.sfx;have d:u<:+36::123::u:=(eb 123 u).trans (eb 36 _);have hm:=aV.aK (x:=[125]) (hu u pd (h.fj d (by grind)));have:=aki (R:=R) (p:=ax e.S (36::123::u)) (F:=λx=>R.xW x 125 true) (G:=λy=>(y.1,(W (y.2.1+2)),y.2.2.1,y.2.2.2.1,y.2.2.2.2.1,y.2.2.2.2.2)) (k:=λg=>au (uc g) λb=>some (.inr (b.1,b.2.1,b.2.2.1,b.2.2.2.1,b.2.2.2.2.1,b.2.2.2.2.2)))
   (by omega) (by omega) h d (by grind) (by show(e.S,W (ax e.S (36::123::u)+2),pd,e.ne+1,e.op++[[36,123]],e.j6)=_;rw[f];rfl) hm
   (λa r1 i _ _=>by rw[Mc h.w7 (by omega) (by omega)];rfl)
  rw[E9] at this;have aB:a7 false (m+1) (36::123::u) pd=((aR false m).pm.named [36,123]) u pd:=by rfl
  rw[aB,Yt];refine aV.dU this ?_
  ·unfold wL a8;refine(bS (show 0<=W (ax e.S (36::123::u)+1)/\W (ax e.S (36::123::u)+1)<(e.S.length:Int) by rw[c];exact hX (dY h.sfx))).trans ?_;have:((at' (e.st (36::123::u) pd).1 (W ((e.st (36::123::u) pd).2.1+1))).toNat:Int)=123:=by show((at' e.S (W (ax e.S (36::123::u)+1))).toNat:Int)=123;rw[c,jz (dY h.sfx)];rfl
   simp only[this,bw,aJ];rfl
theorem Yu:∀(r:aa)(d:Nat)(q:aa),hR d r= .bad q->q<:+r
 |[],d,q,h=>by grind[hR]
 |b::t,d,q,h=>by
  have a:=λd=>Yu t d;unfold hR at h;split at h
  ·cases h;exact fM
  ·split at h
   ·exact((a _) q h).trans (eb b t)
   ·split at h
    ·split at h
     ·exact((a _) q h).trans (eb b t)
     ·split at h
      ·cases h
      ·split at h
       ·cases h
       ·cases h;exact fM
    ·exact((a _) q h).trans (eb b t)
theorem akk{R:bg}{n:Nat}{e:cH}{u:aa}{pd:ao}(h:dQ e (36::40::40::u) pd):
  aV e u (a7 false n (36::40::40::u) pd) (λ_=>e.st) (wL R (e.st (36::40::40::u) pd)):=by
 have aB:a7 false n (36::40::40::u) pd=ns u pd:=by
  cases n with
  |zero=>rfl
  |succ m=>rfl
 rw[aB];have c:W (ax e.S (36::40::40::u)+1)=ax e.S (40::40::u):=iP h.bZ h.sfx;have d:W (ax e.S (36::40::40::u)+2)=ax e.S (40::u):=ks (w:=[36,40]) h.bZ h.sfx;have f:W (ax e.S (36::40::40::u)+3)=ax e.S u:=ks (w:=[36,40,40]) h.bZ h.sfx;have hu:u<:+e.S:=dY (dY (dY h.sfx));have g:u<:+36::40::40::u:=(gS [36,40,40] u);unfold wL a8;simp only[cH.st,c,d,f,jz (dY h.sfx),jz (dY (dY h.sfx)),Cw,Cv];refine aV.dU ?_ (bS (hX (dY h.sfx)));simp only[show¬((40:UInt8)=123) by decide,bF,aU];refine aV.dU ?_ (bS (λ_=>hX (dY (dY h.sfx))));simp only[m9 (dY (dY h.sfx)),bw,aJ,Ys h.bZ hu];refine aV.dU ?_ (aQ rfl);unfold ns;cases b:hR 0 u with
 |ok q=>
  have a:=Ae 0 u q b;have h0:¬ax e.S q= -1:=by grind[eG,ax]
  have ad:¬ax e.S q= -2:=by grind[eG,ax]
  refine⟨a,h.mono (a.trans g),?_⟩;simp[qp,h0,ad];rfl
 |more k=>simp only[qp,bw,aJ];exact Ma rfl rfl h.w7 λ_=>rfl
 |bad q=>have a:=Yu u 0 q b;refine⟨a.trans hu,?_⟩;simp only[qp,show¬((-2:Int)= -1) by decide,bF,aU,bw,aJ];exact⟨_,rfl⟩
theorem Yv{σ α:Type}{f:σ->ak (σ⊕α)}{Q:aa->Prop}(hf:∀s r pd a r' b,f s r pd= .ok (.inr a) r' b->Q r'):∀(N:Nat)(s:σ)(r:aa)(pd:ao)(a:α)(r':aa)(b:ao),r.length<=N->b8 f s r pd= .ok a r' b->Q r':=by
 intro N;induction N with
 |zero=>intro s r pd a r' b c h;rw[cm] at h;unfold cK at h;grind
 |succ N d=>intro s r pd a r' b c h;rw[cm] at h;unfold cK at h;grind
theorem IC{x r:aa}{pd:ao}{t:Tok}{r':aa}{a:ao}(h:bM x r pd= .ok t r' a):bp r=some r'/\t=ar r'/\a=pd:=by
 unfold bM at h;split at h
 ·grind[b5]
 grind
theorem yF{c2:ak Unit}{c:Ctx}{no:Bool}(aF:c≠ .text){r:aa}{pd:ao}{a:Nat}{r':aa}{d:ao}(h:oe c2 c no r pd= .ok a r' d):bp r'=some r'/\dG c (ar r')=true:=by
 rw[qX] at h;obtain⟨_,r1,v,_,h⟩:=b1 h;refine Yv (Q:=λr'=>bp r'=some r'/\dG c (ar r')=true) (λs r pd a r' d h=>?_) _ _ _ _ _ _ _ (cV _) h;unfold eN at h;generalize (if(no||decide (s>0))=true then([]:aa) else [120])=k at h;obtain⟨t,e,x,ad,g⟩:=b1 h;clear h;obtain⟨l,rfl,rfl⟩:=IC ad;have y:=kR _ _ _ (cV _) l;by_cases he:ar e= .eof
 ·simp_all[bh,aO,b5]
 rw[aO he] at g;by_cases f:((no||decide (s>0))&&dG c (ar e))=true
 ·rw[bh f] at g;cases g;grind
 rw[aO f] at g;obtain⟨_,z,A,_,g⟩:=b1 g;obtain⟨t,m,B,n,b⟩:=b1 g;clear g;obtain⟨q,rfl,rfl⟩:=IC n;have u:=kR _ _ _ (cV _) q;cases hk:ar m with
 |eof=>rw[hk] at b;cases b
 |line=>rw[hk] at b;obtain⟨_,_,_,_,b⟩:=b1 b;cases b
 |word w p=>rw[hk] at b;cases b
 |op o=>
  rw[hk] at b;unfold ik at b;simp only at b;by_cases i:o=[59]\/o=[38]
  ·rw[bh i] at b;obtain⟨_,_,_,_,b⟩:=b1 b;obtain⟨_,_,_,_,b⟩:=b1 b;cases b
  ·rw[aO i] at b;by_cases j:dG c (.op o)=true
   ·rw[bh j] at b;cases b;grind
   ·rw[aO j] at b;cases b
theorem E_{o v:aa}{pd:ao}(a:bp v=some v)(b:ar v= .op o):ji o v pd= .ok () (v.drop o.length) pd:=by unfold ji mB;rw[aM (ch a),b,aO (by simp)];simp[bU]
theorem Yw{e:cH}{v:aa}{pd:ao}{o:aa}(h:dQ e v pd)(a:bp v=some v)(b:ar v= .op o):v.drop o.length<:+v/\r9 (e.st v pd) o=some (.inr (e.st (v.drop o.length) pd)):=by have:=L7 o h;rw[E_ a b] at this;exact⟨this.1,this.2.2⟩
theorem Yx{R:bg}{n:Nat}(bk:∀m,n=m+1->w9 R m){e:cH}(bc:e.ne=30- (n:Int))(aw:n<=30){u:aa}{pd:ao}(hu:u.head?≠some 40)(h:dQ e (36::40::u) pd):
  aV e u (a7 false n (36::40::u) pd) (λ_=>e.st) (wL R (e.st (36::40::u) pd)):=by
 have g:¬([36,40,40]:aa).isPrefixOf (36::40::u)=true:=by
  cases u with
  |nil=>simp
  |cons c v=>grind
 cases n with
 |zero=>show aV e u (dd none _ _) _ _;unfold dd;rw[aO g,bh (by simp)];trivial
 |succ m=>
  have hl:=(bk m rfl).im (e.fj [36,40]) .paren true (by simp) (by show e.ne+1=_;omega);have i:W (ax e.S (36::40::u)+2)=ax e.S u:=ks (w:=[36,40]) h.bZ h.sfx;have j:W (ax e.S (36::40::u)+1)=ax e.S (40::u):=iP h.bZ h.sfx;have t:u<:+36::40::u:=(eb 40 u).trans (eb 36 _);have y:=h.fj (x:=[36,40]) t (by grind);have hm:=aV.aK (x:=[41]) (hl u pd y);have aB:a7 false (m+1) (36::40::u) pd=sq (aR false m) u pd:=by show dd (some (aR false m)) _ _=_;unfold dd;rw[aO g,bh (by simp)];rfl
  rw[aB];unfold wL a8;refine aV.dU ?_ (bS (show 0<=W (ax e.S (36::40::u)+1)/\W (ax e.S (36::40::u)+1)<(e.S.length:Int) by rw[j];exact hX (dY h.sfx)));simp only[cH.st,j,i,jz (dY h.sfx),Cw,Cv];simp only[show¬((40:UInt8)=123) by decide,bF,aU];have bq:decide (ax e.S u<(e.S.length:Int))=true->0<=ax e.S u/\ax e.S u<(e.S.length:Int):=by
   intro z;cases u with
   |nil=>grind[ir]
   |cons c v=>exact hX (dY (dY h.sfx))
  refine aV.dU ?_ (bS bq);have hf:(bif decide (ax e.S u<(e.S.length:Int)) then decide (at' e.S (ax e.S u)=40) else false)=false:=by
   cases u with
   |nil=>simp[ir]
   |cons c v=>have:¬c=40:=λz=>hu (by grind);simp[jz (dY (dY h.sfx)),this]
  simp only[hf,aU];have A:=Mb (p:=ax e.S (36::40::u)) (x:=[36,40]) h (by omega) (by omega);refine aV.dU ?_ (eZ A);have B:(((e.fj [36,40]).st (36::40::u) pd).1,(W (((e.fj [36,40]).st (36::40::u) pd).2.1+2)),((e.fj [36,40]).st (36::40::u) pd).2.2.1,((e.fj [36,40]).st (36::40::u) pd).2.2.2.1,((e.fj [36,40]).st (36::40::u) pd).2.2.2.2.1,((e.fj [36,40]).st (36::40::u) pd).2.2.2.2.2)=(e.fj [36,40]).st u pd:=by show(e.S,W (ax e.S (36::40::u)+2),pd,e.ne+1,e.op++[[36,40]],e.j6)=_;rw[i];rfl
  rw[B];unfold sq;have b:=hm.named;unfold ae;cases hk:(((aR false m).ls .paren true).aK [41]).named [36,40] u pd with
  |ok a r1 C=>
   rw[hk] at b;obtain⟨f,d,D⟩:=b;have k:=gK.1 (th.1 hk);rw[w4] at k;obtain⟨l,H⟩:=yF (by simp) k;have o:ar r1= .op [41]:=by grind[dG]
   obtain⟨s,E⟩:=Yw d l o;simp only;rw[E_ l o];have F:=(d.mono s);refine⟨s.trans f,F.out,?_⟩;refine(eZ D).trans ((eZ E).trans ?_);have G:=Mc (r:=r1.drop 1) (pd:=C) (x:=[36,40]) h.w7 (show 0<=e.ne by omega) (by omega);exact(aQ G).trans rfl
  |more op nd ds=>rw[hk] at b;obtain⟨st,f,d⟩:=b;exact⟨st,hI f,d⟩
  |bad q=>rw[hk] at b;obtain⟨f,st,d⟩:=b;exact⟨f,st,hI d⟩
  |deep q=>trivial
structure Below(R:bg)(n:Nat):Prop where
 le:n<=30
 u1:∀m,n=m+1->Md R m
 ls:∀m,n=m+1->w9 R m
theorem Yy{R:bg}{n:Nat}(a:Below R n){e:cH}(bc:e.ne=30- (n:Int)){b:UInt8}{t:aa}{pd:ao}(f:fJ (b::t)=true)(h:dQ e (b::t) pd):
  aV e t (a7 false n (b::t) pd) (λ_=>e.st) (wL R (e.st (b::t) pd)):=by
 rw[sx] at f;cases t with
 |nil=>grind
 |cons c u=>
  simp only[hL,AO,T_] at f;obtain⟨rfl,rfl|rfl⟩:=f
  ·cases u with
   |nil=>exact(Yx a.ls bc a.le (by simp) h).mono (eb _ _)
   |cons d v=>
    by_cases aG:d=40
    ·subst aG;exact(akk (n:=n) h).mono ((eb _ _).trans (eb _ _))
    ·exact(Yx a.ls bc a.le (by grind) h).mono (List.suffix_cons _ _)
  ·exact(akj a.u1 bc a.le h).mono (eb _ _)
theorem Yz{R:bg}{n:Nat}(M:Below R n)(i:Bool)(gL:i=true->Cy R n){e:cH}(bc:e.ne=30- (n:Int)){b:UInt8}{t:aa}{pd:ao}(h:dQ e (b::t) pd):
  Me e b t pd (cw (a7 false n) (if i then some (ey (a7 false n)) else none) (b::t) pd) (zD R (e.st (b::t) pd) i):=by
 have j:t<:+b::t:=eb b t;have D:=iP h.bZ h.sfx;have v:W (ax e.S (b::t)+1)=ax e.S t:=D;unfold zD a8;have bq:0<=(e.st (b::t) pd).2.1/\(e.st (b::t) pd).2.1<((e.st (b::t) pd).1.length:Int):=hX h.sfx;rw[bS bq];have E:at' (e.st (b::t) pd).1 (e.st (b::t) pd).2.1=b:=jz h.sfx;simp only[E,mI,q2,nU,nV];unfold cw;simp only;by_cases k:b=92
 ·subst k;simp only[bw,aJ,cE];have F:min (W (ax e.S (92::t)+2)) (e.S.length:Int)=ax e.S (t.drop 1):=by
   have hl:=eG h.sfx;have N:=h.bZ;cases t with
   |nil=>
    have:W (ax e.S [92]+2)=(e.S.length:Int)+1:=by grind[ax,dV,List.length_singleton]
    grind[ir]
   |cons c u=>have O:W (ax e.S (92::c::u)+2)=ax e.S u:=ks (w:=[92,c]) h.bZ h.sfx;grind[oQ]
  refine⟨lJ 1 t,h.mono ((lJ 1 t).trans j),.inl ?_⟩;show some (Sum.inr (true,e.S,min (W (ax e.S (92::t)+2)) (e.S.length:Int),pd,e.ne,e.op,e.j6))=_;rw[F];rfl
 rw[aO k];simp only[k,bF,aU];have z:∀(o:Option aa)(x:aa),(∀q,o=some q->q<:+t)->Me e b t pd (match o with|some r'=>dD.ok () r' pd|none=> .more [x] x pd)
   (bif decide (kU e.S o<0) then a_ (wH ((e.st (b::t) pd).1,kU e.S o,(e.st (b::t) pd).2.2.1,(e.st (b::t) pd).2.2.2.1,(e.st (b::t) pd).2.2.2.2.1,(e.st (b::t) pd).2.2.2.2.2) x) (λx=>x) (λy=>Empty.elim y)
    else some (.inr (true,(e.st (b::t) pd).1,kU e.S o,(e.st (b::t) pd).2.2.1,(e.st (b::t) pd).2.2.2.1,(e.st (b::t) pd).2.2.2.2.1,(e.st (b::t) pd).2.2.2.2.2))):=by
  intro o x l;cases o with
  |none=>simp only[kU,show((-1:Int)<0) from by decide,bw,aJ];exact Ma rfl rfl h.w7 λ_=>rfl
  |some q=>
   have d:=l q rfl;have h0:¬ax e.S q<0:=by have:=eG (d.trans (j.trans h.sfx));grind[ax]
   simp only[kU,h0,bF,aU];exact⟨d,h.mono (d.trans j),.inl rfl⟩
 have G:BD (e.st (b::t) pd).1 (W ((e.st (b::t) pd).2.1+1))=some (kU e.S (gZ t)):=by show BD e.S (W (ax e.S (b::t)+1))=_;rw[v];exact akf h.bZ (dY h.sfx)
 have H:vp (e.st (b::t) pd).1 (W ((e.st (b::t) pd).2.1+1))=some (kU e.S (gd t)):=by show vp e.S (W (ax e.S (b::t)+1))=_;rw[v];exact Yr h.bZ (dY h.sfx)
 have A:Bq (e.st (b::t) pd).1 (e.st (b::t) pd).2.1=some (fJ (b::t)):=Yi h.bZ h.sfx
 have I:∀(m:dD Unit)(y:Option (bn an an)),aV e t m (λ_=>e.st) y->Me e b t pd m (a_ y (λx=>x) λy=>some (.inr (true,y.1,y.2.1,y.2.2.1,y.2.2.2.1,y.2.2.2.2.1,y.2.2.2.2.2))):=by
  intro m y hm;cases m with
  |ok a r1 P=>obtain⟨f,g,J⟩:=hm;exact⟨f,g,.inl (by rw[eZ J])⟩
  |more op nd ds=>obtain⟨st,f,g⟩:=hm;exact⟨st,hI f,g⟩
  |bad q=>obtain⟨f,st,g⟩:=hm;exact⟨f,st,hI g⟩
  |deep q=>trivial
 have K:Me e b t pd (dD.ok () t pd) (some (.inr (false,e.st (b::t) pd))):=⟨fM,h.mono j,.inr ⟨rfl,rfl,rfl⟩⟩;by_cases r:b=96
 ·subst r;simp only[bw,aJ,cE,show¬((96:UInt8)=39) by decide,bF,aU];rw[G,aQ rfl];unfold js;exact z (gZ t) [96] λq d=>EY _ _ q (cV _) d
 rw[aO r];simp only[r,bF,aU];cases i with
 |true=>
  by_cases B:b=39
  ·subst B;simp only[bw,aJ,cE];have s:fJ (39::t)=false:=by rfl
   rw[s,H,aQ rfl];unfold js;exact z (gd t) [39] λq d=>Ag _ q d
  simp only[B,bF,aU];by_cases C:b=34
  ·subst C;have s:fJ (34::t)=false:=by rfl
   rw[s];simp only[bw,aJ,cE,eB,cn,show¬((34:UInt8)=39) by decide];exact I _ _ (akh (gL rfl) bc h)
  simp only[C,bF,aU];rw[A,aQ rfl];cases l:fJ (b::t) with
  |true=>simp_all[aJ,cE,Yy]
  |false=>grind
 |false=>
  have L:∀p:Prop,∀[Decidable p],(bif decide p then false else false)=false:=by simp
  simp only[L,aU];rw[A,aQ rfl];cases l:fJ (b::t) with
  |true=>simp_all[aJ,cE,Yy]
  |false=>grind
theorem YA{R:bg}{n:Nat}(w:Below R n)(g:Bool)(gL:g=true->Cy R n){e:cH}(bc:e.ne=30- (n:Int))(c:UInt8):
  qq e (iO c (cw (a7 false n) (if g then some (ey (a7 false n)) else none))) (λ_=>e.st) (λx=>Hx R x c g):=by
 intro r pd h;unfold iO Hx;refine aV.rep (en:=λ_ r pd=>e.st r pd) (λk s r1 d ad hk=>?_) bC () r pd (lI (lK (eG h.sfx) h.bZ)) h;unfold Qp a8;cases r1 with
 |nil=>
  have hl:decide (((e.st [] d).1.length:Int)<=(e.st [] d).2.1)=true:=by simp[cH.st,ir]
  show aV e [] (cK _ [] (b5 [] [] d)) _ (bif decide (((e.st [] d).1.length:Int)<=(e.st [] d).2.1) then _ else _);rw[hl];exact aV.Yg (k:=λy=>Empty.elim y) (f:=λx=>(x.1,x.2.1,d,x.2.2.2.1,e.op,x.2.2.2.2.2)) c3.k rfl rfl
 |cons b t=>
  have hl:decide (((e.st (b::t) d).1.length:Int)<=(e.st (b::t) d).2.1)=false:=by grind[m9,ax,cH.st]
  show aV e (b::t) (cK _ (b::t) (if b=c then _ else _)) _ (bif decide (((e.st (b::t) d).1.length:Int)<=(e.st (b::t) d).2.1) then _ else _);rw[hl];simp only[aU];refine aV.dU ?_ (bS (hX ad.sfx));have A:at' (e.st (b::t) d).1 (e.st (b::t) d).2.1=b:=jz ad.sfx;have m:t<:+b::t:=eb b t;by_cases aF:b=c
  ·subst aF;rw[bh rfl];refine aV.dU ?_ (show(bif decide (((at' (e.st (b::t) d).1 (e.st (b::t) d).2.1).toNat:Int)=(b.toNat:Int)) then _ else _)=some (.inr (e.S,W (ax e.S (b::t)+1),d,e.ne,e.op,e.j6)) by grind);rw[iP ad.bZ ad.sfx];exact aV.inr m (ad.mono m) rfl
  ·rw[aO aF];have aG:decide (((at' (e.st (b::t) d).1 (e.st (b::t) d).2.1).toNat:Int)=(c.toNat:Int))=false:=by grind[q3]
   refine aV.dU (y:=a_ (zD R (e.st (b::t) d) g) (λx=>x) λz=>bif !z.1 then k (z.2.1,W (z.2.2.1+1),z.2.2.2.1,z.2.2.2.2.1,z.2.2.2.2.2.1,z.2.2.2.2.2.2) else k z.2) ?_ (by show(bif decide (((at' (e.st (b::t) d).1 (e.st (b::t) d).2.1).toNat:Int)=(c.toNat:Int)) then _ else _)=_;rw[aG];rfl)
   have aB:=Yz w g gL bc ad;unfold ae;cases hm:cw (a7 false n) (if g=true then some (ey (a7 false n)) else none) (b::t) d with
   |ok a o p=>
    rw[hm] at aB;obtain⟨i,j,l⟩:=aB;have u:o.length<(b::t).length:=by grind
    refine aV.inl u ?_;have v:=hk () o p (i.trans m) j u;rcases l with l|⟨l,rfl,rfl⟩
    ·rw[eZ l];exact v
    ·rw[eZ l];show aV e _ _ _ (k (e.S,W (ax e.S (b::o)+1),p,e.ne,e.op,e.j6));rw[iP ad.bZ ad.sfx];exact v
   |more op nd ds=>rw[hm] at aB;obtain⟨st,i,j⟩:=aB;exact⟨st,hI i,j⟩
   |bad q=>rw[hm] at aB;obtain⟨i,st,j⟩:=aB;exact⟨i,st,hI j⟩
   |deep q=>trivial
theorem akl{k n:Nat}(a:Below (kD k) n):Cy (kD (k+1)) n:=⟨λe bc=>YA a false (λh=>by cases h) bc 34⟩
theorem akm{k n:Nat}(a:Below (kD k) n)(gL:Cy (kD k) n):Md (kD (k+1)) n:=⟨λe bc=>YA a true (λ_=>gL) bc 125⟩
structure ts(R:bg)(n:Nat):Prop extends Below R n where
 u0:Cy R n
theorem Mf{t:Tok}:(jk t).1=3↔ ∃w p,t= .word w p:=by cases t<;>simp[jk]
def akn:an->Option (bn an an):=λx=>bif decide (x.2.1=(x.1.length:Int)) then a_ (rj x) (λy=>(y.1,y.2.1,x.2.2.1,y.2.2.2.1,x.2.2.2.2.1,y.2.2.2.2.2)) λy=>Empty.elim y else some (.inr x)
theorem Mg{R:bg}{n:Nat}(hA:ts R n){e:cH}(bc:e.ne=30- (n:Int)){r:aa}{pd:ao}(h:dQ e r pd)(A:bp r=some r){w:aa}{p:Bool}(j:ar r= .word w p):
  aV e r (cG (a7 false n) r pd) (λ_=>e.st) (k8 R (e.st r pd)):=by
 have e0:k8 R (e.st r pd)=fixF (KL R akn) bC (e.st r pd):=by
  unfold k8 a8;refine(eZ ((kT e).some h A)).trans ?_;have:(jk (ar r)).1=3:=by rw[j];rfl
  simp only[this,bw,g9,aU];rfl
 rw[e0];unfold cG;refine aV.rep (en:=λ_ r pd=>e.st r pd) (λk s r1 c ad hk=>?_) bC () r pd (lI (lK (eG h.sfx) h.bZ)) h;unfold KL a8;have B:wD (e.st r1 c).1 (e.st r1 c).2.1=some (cT r1):=RY ad.bZ ad.sfx;refine aV.dU ?_ (aQ B);cases r1 with
 |nil=>
  have hl:decide ((e.st [] c).2.1=((e.st [] c).1.length:Int))=true:=by simp[cH.st,ir]
  show aV e [] (cK _ [] (b5 [] [] c)) _ (bif decide ((e.st [] c).2.1=((e.st [] c).1.length:Int)) then _ else _);rw[hl];exact aV.Yg (k:=λy=>Empty.elim y) (f:=λx=>(x.1,x.2.1,c,x.2.2.2.1,e.op,x.2.2.2.2.2)) c3.k rfl rfl
 |cons b t=>
  have j:t<:+b::t:=eb b t;simp only;by_cases l:cT (b::t)=true
  ·rw[bh l,l];have hl:decide ((e.st (b::t) c).2.1=((e.st (b::t) c).1.length:Int))=false:=by simp[cH.st,yC]
   show aV e (b::t) (cK _ (b::t) (aX (.inr ()) (b::t) c)) _ (bif decide ((e.st (b::t) c).2.1=((e.st (b::t) c).1.length:Int)) then _ else _);rw[hl];exact aV.inr fM ad rfl
  ·have C:cT (b::t)=false:=by grind
   rw[aO l,C];refine aV.dU (y:=a_ (zD R (e.st (b::t) c) true) (λx=>x) λz=>bif !z.1 then k (z.2.1,W (z.2.2.1+1),z.2.2.2.1,z.2.2.2.2.1,z.2.2.2.2.2.1,z.2.2.2.2.2.2) else k z.2) ?_ rfl;have aB:=Yz hA.toBelow true (λ_=>hA.u0) bc ad;unfold ae;simp only[cE] at aB;cases hm:cw (a7 false n) (some (ey (a7 false n))) (b::t) c with
   |ok a m o=>
    rw[hm] at aB;obtain⟨d,g,i⟩:=aB;have u:m.length<(b::t).length:=by grind
    refine aV.inl u ?_;have v:=hk () m o (d.trans j) g u;rcases i with i|⟨i,rfl,rfl⟩
    ·rw[eZ i];exact v
    ·rw[eZ i];show aV e _ _ _ (k (e.S,W (ax e.S (b::m)+1),o,e.ne,e.op,e.j6));rw[iP ad.bZ ad.sfx];exact v
   |more op nd ds=>rw[hm] at aB;obtain⟨st,d,g⟩:=aB;exact⟨st,hI d,g⟩
   |bad q=>rw[hm] at aB;obtain⟨d,st,g⟩:=aB;exact⟨d,st,hI g⟩
   |deep q=>trivial
theorem ako{α β:Type}{e:cH}{r0 r:aa}{pd:ao}{x:aa}{cv:α->aa->ao->β}{f:an->an}{k:Empty->Option (bn an β)}(h:dQ e r pd)(b:bp r=some r)(hf:∀st,(f st).2.2.2.2.1=st.2.2.2.2.1\/(f st).2.2.2.2.1=e.op):
  aV e r0 ((if ar r= .eof then b5 x else bJ:ak α) r pd) cv (a_ (kC (e.st r pd)) f k):=by
 by_cases a:ar r= .eof
 ·rw[bh a];exact(((tn h b).1 a).bind hf).rG
 ·rw[aO a];exact⟨h.sfx,_,hI ((tn h b).2 a)⟩
theorem Mh{α β:Type}{m:ak α}{e:cH}{r0 r:aa}{pd:ao}{x:aa}{cv:α->aa->ao->β}{f:an->an}{k:Empty->Option (bn an β)}(h:dQ e r pd)(a:bp r=some r)(ad:ar r= .eof->m=b5 x)(b:ar r≠ .eof->m=bJ)(hf:∀st,(f st).2.2.2.2.1=st.2.2.2.2.1\/(f st).2.2.2.2.1=e.op):
  aV e r0 (m r pd) cv (a_ (kC (e.st r pd)) f k):=by
 have:=ako (α:=α) (r0:=r0) (x:=x) (cv:=cv) (f:=f) (k:=k) h a hf;by_cases c:ar r= .eof
 ·simp_all
 simp_all
theorem R6{R:bg}{n:Nat}(hA:ts R n){e:cH}(bc:e.ne=30- (n:Int))(x:aa):qq e (jL (a7 false n) x) (λ_=>e.st) (k8 R):=by
 intro r pd h;unfold jL;cases a:bp r with
 |none=>rw[de (iG a)];unfold k8 a8;exact(((kT e).none h a).bind λ_=> .inr rfl).rG
 |some r'=>
  rw[aM (ch a)];have g:=dT a;have c:=h.mono g;have d:=kR _ _ _ (cV _) a;by_cases b:∃w p,ar r'= .word w p
  ·obtain⟨w,p,b⟩:=b;rw[b];have f:k8 R (e.st r pd)=k8 R (e.st r' pd):=by unfold k8 a8;refine(eZ ((kT e).some h a)).trans (Eq.symm ((eZ ((kT e).some c d)).trans ?_));rfl
   rw[f];exact(Mg hA bc c d b).mono g
  ·have i:decide ((jk (ar r')).1=3)=false:=by grind[decide_eq_false_iff_not,Mf]
   have f:k8 R (e.st r pd)=a_ (kC (e.st r' pd)) (λx=>(x.1,x.2.1,pd,x.2.2.2.1,e.op,x.2.2.2.2.2)) λy=>Empty.elim y:=by unfold k8 a8;refine(eZ ((kT e).some h a)).trans ?_;simp only[i,e2,aJ];rfl
   rw[f];refine Mh (x:=x) c d (λhk=>by rw[hk]) (λhk=>?_) λ_=> .inr rfl;grind
theorem Fa:dl [] 0=some []:=by simp[dl]
theorem R7(q:UInt8)(a:q=0\/q=34)(c:UInt8)(u:aa):dl (92::c::u) q=if c=10 then dl u q else if q=0\/c=36\/c=34\/c=92\/c=96 then(dl u q).map (c::·) else(dl (c::u) q).map (92::·):=by rw[dl];grind
theorem akp(q:UInt8)(a:q=0\/q=34):dl [92] q=none:=by rw[dl];rcases a with rfl|rfl<;>simp
theorem Mi(q:UInt8)(a:q=0\/q=34)(b:UInt8)(c:b=36\/b=96)(u:aa):dl (b::u) q=none:=by rw[dl.eq_def];grind
theorem YB(u:aa):dl (34::u) 34=dl u 0:=by grind[dl.eq_def]
theorem CA(u:aa):dl (34::u) 0=dl u 34:=by grind[dl.eq_def]
theorem R8(u:aa):dl (39::u) 0=dl u 39:=by grind[dl.eq_def]
theorem ID(q:UInt8)(a:q=0\/q=34)(b:UInt8)(ad:b≠92)(c:b≠36)(d:b≠96)(e:b≠34)(f:q=0->b≠39)(u:aa):dl (b::u) q=(dl u q).map (b::·):=by rw[dl.eq_def];grind
theorem R9(c:UInt8)(u:aa):dl (92::c::u) 34=(dl u 34).map (Ac c++·):=by
 rw[R7 34 (.inr rfl)];unfold Ac;by_cases h:c=36\/c=34\/c=92\/c=96
 ·grind
 ·rw[aO h];by_cases a:c=10
  ·simp_all
  ·rw[aO a,aO a,aO (by grind)];simp only[not_or] at h;rw[ID 34 (.inr rfl) c h.2.2.1 h.1 h.2.2.2 h.2.1 (λb=>absurd b (by decide))];cases dl u 34<;>rfl
theorem Mj(t:aa):ez (34::t)= .closed [] t:=by simp[ez.eq_def]
theorem R_(b:UInt8)(a:b=36\/b=96)(t:aa):ez (b::t)= .part:=by rw[ez.eq_def];grind
theorem Sa:ez [92]= .part:=by rfl
theorem Mk(c:UInt8)(u:aa):ez (92::c::u)=(ez u).add (Ac c):=by rfl
theorem Ml(b:UInt8)(ad:b≠34)(a:¬(b=36\/b=96))(c:b≠92)(t:aa):ez (b::t)=(ez t).add [b]:=by grind[ez.eq_def]
theorem YC:∀(n:Nat)(t:aa),t.length<=n->match ez t with
  | .closed o r=>∃a,t=a++r/\∀v,dl (a++v) 34=(dl v 0).map (o++·)
  | .open_ o=>dl (t++[34]) 34=some o
  | .part=>dl (t++[34]) 34=none:=by
 intro n;induction n with
 |zero=>intro t h;have:t=[]:=n1.1 (by omega);subst this;show dl [34] 34=some [];rw[YB,Fa]
 |succ n i=>
  intro t aw;cases t with
  |nil=>grind
  |cons b t=>
   have j:t.length<=n:=by grind
   have d:∀(x u p:aa),u.length<=n->b::t=p++u->ez (b::t)=(ez u).add x->(∀v,dl (p++v) 34=(dl v 34).map (x++·))->match ez (b::t) with
     | .closed o r=>∃a,b::t=a++r/\∀v,dl (a++v) 34=(dl v 0).map (o++·)
     | .open_ o=>dl (b::t++[34]) 34=some o
     | .part=>dl (b::t++[34]) 34=none:=by
    intro x u p hu he k aG;have:=i u hu;rw[k];cases hk:ez u with
    |closed o r=>rw[hk] at this;obtain⟨a,rfl,l⟩:=this;refine⟨p++a,by grind,λv=>?_⟩;rw[uV,aG,l];cases dl v 0<;>simp
    |part=>grind[jh.add,List.append_assoc]
    |open_ o=>grind[jh.add,List.append_assoc]
   by_cases e:b=34
   ·subst e;rw[Mj];exact⟨[34],rfl,λv=>by simp[YB]⟩
   by_cases aB:b=36\/b=96
   ·rw[R_ b aB];exact Mi 34 (.inr rfl) b aB _
   by_cases f:b=92
   ·subst f;cases t with
    |nil=>simp[Sa,dl,R9]
    |cons c u=>exact d (Ac c) u [92,c] (by grind) rfl (Mk c u) λv=>R9 c v
   ·have g:b≠36/\b≠96:=by grind
    refine d [b] t [b] j rfl (Ml b e aB f t) λv=>?_;show dl (b::v) 34=_;rw[ID 34 (.inr rfl) b f g.1 g.2 e (λm=>absurd m (by decide))];rfl
theorem IE:∀(t:aa),match gd t with
  |some r=>∃a,t=a++39::r/\a=t.take (t.length-r.length-1)/\∀v,dl (a++39::v) 39=(dl v 0).map (a++·)
  |none=>dl t 39=none
 |[]=>by show dl [] 39=none;simp[dl]
 |b::t=>by
  have c:=IE t;unfold gd;by_cases d:b=39
  ·subst d;rw[bh rfl];refine⟨[],rfl,by simp,λv=>?_⟩;show dl (39::v) 39=_;rw[dl.eq_def];simp
  ·rw[aO d]
   have aG:∀v,dl (b::v) 39=(dl v 39).map (b::·):=by grind[dl.eq_def]
   cases e:gd t with
   |none=>grind
   |some r=>
    rw[e] at c;obtain⟨a,ad,g,f⟩:=c;have hl:t.length=a.length+1+r.length:=by grind
    refine⟨b::a,by grind,?_,λv=>?_⟩
    ·have h:(b::t).length-r.length-1=(t.length-r.length-1)+1:=by grind
     grind
    ·show dl (b::(a++39::v)) 39=_;rw[aG,f];cases dl v 0<;>rfl
def gf:aa->Option (aa×aa)
 |[]=>some ([],[])
 |b::t=>if cT (b::t) then some (b::t,[]) else
  if b=92 then match t with
   |[]=>some ([],[])
   |c::u=>gf u
  else if b=39 then match h:gd t with
   |none=>none
   |some r=>gf r
  else if b=36\/b=96 then none else
  if b=34 then match h:ez t with
   | .part=>some ([],[34])
   | .open_ o=>some ([],[34])
   | .closed o r=>gf r
  else gf t
termination_by r=>r.length
decreasing_by
 all_goals simp_wf
 ·omega
 ·have:=yw t r h;omega
 ·have:=EI t o r h;omega
theorem YD:∀(n:Nat)(r:aa),r.length<=n->match gf r with
  |none=>dt r=none
  |some (q,a)=>∃w,r=w++q/\dt r=(dl (w++a) 0).map λd=>(d,q,a):=by
 intro n;induction n with
 |zero=>intro r h;have:r=[]:=n1.1 (by omega);subst this;rw[gf,dt];exact⟨[],rfl,by simp[Fa]⟩
 |succ n C=>
  intro r aw;cases r with
  |nil=>grind
  |cons b t=>
   have D:t.length<=n:=by grind
   have go:∀(u p x:aa),u.length<=n->b::t=p++u->gf (b::t)=gf u->dt (b::t)=(dt u).map (λq=>(x++q.1,q.2))->(∀v,dl (p++v) 0=(dl v 0).map (x++·))->match gf (b::t) with
     |none=>dt (b::t)=none
     |some (q,a)=>∃w,b::t=w++q/\dt (b::t)=(dl (w++a) 0).map λd=>(d,q,a):=by
    intro u p x hu he ad k l;have:=C u hu;rw[ad,k];cases e:gf u with
    |none=>grind
    |some y=>obtain⟨q,a⟩:=y;rw[e] at this;obtain⟨w,rfl,E⟩:=this;refine⟨p++w,by grind,?_⟩;rw[E,uV,l];cases dl (w++a) 0<;>rfl
   by_cases F:cT (b::t)=true
   ·have f:gf (b::t)=some (b::t,[]):=by rw[gf.eq_def];grind
    have g:dt (b::t)=some ([],b::t,[]):=by rw[dt.eq_def];grind
    rw[f,g];exact⟨[],rfl,by simp[Fa]⟩
   by_cases m:b=92
   ·subst m;cases t with
    |nil=>
     have f:gf [92]=some ([],[]):=by rw[gf.eq_def];grind
     have g:dt [92]=none:=by rw[dt.eq_def];grind
     rw[f,g];exact⟨[92],rfl,by rw[rP,akp 0 (.inl rfl)];rfl⟩
    |cons c u=>
     refine go u [92,c] (if c=10 then [] else [c]) (by grind) rfl (by rw[gf.eq_def];grind) (by rw[dt.eq_def];grind) λv=>?_;show dl (92::c::v) 0=_;rw[R7 0 (.inl rfl)];by_cases aF:c=10
     ·simp[aF]
     grind
   by_cases s:b=39
   ·subst s;have z:=IE t;cases e:gd t with
    |none=>
     have f:gf (39::t)=none:=by rw[gf.eq_def];grind
     have g:dt (39::t)=none:=by rw[dt.eq_def];grind
     grind
    |some r=>
     rw[e] at z;obtain⟨i,ad,k,l⟩:=z
     refine go r (39::i++[39]) i (by grind) (by grind) (by
      rw[gf.eq_def];grind) (by
      rw[dt.eq_def];grind) λv=>?_
     grind[R8]
   by_cases aB:b=36\/b=96
   ·have f:gf (b::t)=none:=by rw[gf.eq_def];grind
    have g:dt (b::t)=none:=by rw[dt.eq_def];grind
    grind
   by_cases A:b=34
   ·subst A;have j:=YC _ t (cV _);cases e:ez t with
    |closed o r=>
     rw[e] at j;obtain⟨i,ad,k⟩:=j
     refine go r (34::i) o (by grind) (by grind) (by
      rw[gf.eq_def];grind) (by
      rw[dt.eq_def];grind) λv=>?_
     grind[dl,CA]
    |part=>
     rw[e] at j;have f:gf (34::t)=some ([],[34]):=by rw[gf.eq_def];grind
     have g:dt (34::t)=none:=by rw[dt.eq_def];grind
     grind[dl,CA]
    |open_ o=>
     rw[e] at j;have f:gf (34::t)=some ([],[34]):=by rw[gf.eq_def];grind
     have g:dt (34::t)=some (o,[],[34]):=by rw[dt.eq_def];grind
     grind[dl,CA]
   ·have B:b≠36/\b≠96:=by grind
    refine go t [b] [b] D rfl (by rw[gf.eq_def];grind) (by rw[dt.eq_def];grind) λv=>?_;show dl (b::v) 0=_;rw[ID 0 (.inl rfl) b m B.1 B.2 A (λ_=>s)];rfl
def tu(S a:aa):jh->aa×Int
 | .closed o r=>(a++o,ax S r)
 |_=>([], -1)
theorem YE(S a x:aa)(q:jh):tu S a (q.add x)=tu S (a++x) q:=by cases q<;>simp[jh.add,tu]
theorem akq{S:aa}(dg:S.length<=1000000):∀(n:Nat)(r a:aa),r.length<n->r<:+S->a.length+r.length<=2000000->fixF (sf S λ_=>some ([],(-1))) n (a,ax S r)=some (tu S a (ez r)):=by
 intro n;induction n with
 |zero=>omega
 |succ n f=>
  intro r a aw d p;rw[e7];generalize fixF (sf S _) n=k at f;unfold sf a8;cases r with
  |nil=>simp[ir,ez,tu]
  |cons b t=>
   have q:t.length<n:=by grind
   have s:(b::t).length=t.length+1:=rfl;have i:=iP dg d;simp only[m9 d,bw,aJ];rw[bS ⟨(hX d).1,trivial⟩];simp only[jz d,i,nV,qo,nU,mI];by_cases g:b=34
   ·grind[Mj,tu]
   simp only[g,bF,aU];by_cases aB:b=36\/b=96
   ·rw[R_ b aB];rcases aB with rfl|rfl<;>simp[tu]
   have h:b≠36/\b≠96:=by grind
   simp only[h.1,h.2,bF,aU];by_cases e:b=92
   ·subst e;simp only[bw,aJ];cases t with
    |nil=>simp[ir,Sa,tu]
    |cons c u=>
     have bc:¬ax S (c::u)=(S.length:Int):=by simp[yC]
     have j:=iP dg (dY d);have l:(c::u).length=u.length+1:=rfl;have m:u.length<n:=by omega
     simp only[bc,bF,aU];rw[bS (hX (dY d))];simp only[jz (dY d),j,pF];rw[Mk,YE];have v:=λx (w:x.length<=2)=>f u (a++x) m (dY (dY d)) (by grind);unfold Ac;by_cases aF:c=36\/c=34\/c=92\/c=96
     ·rw[bh aF];have:(bif bif bif decide (c=36) then true else decide (c=34) then true else decide (c=92) then true else decide (c=96))=true:=by grind
      rw[this];simp only[aJ];grind[bS,List.length_singleton]
     ·rw[aO aF];have:(bif bif bif decide (c=36) then true else decide (c=34) then true else decide (c=92) then true else decide (c=96))=false:=by grind
      rw[this];by_cases o:c=10
      ·grind
      ·simp only[o,bF,e2,aJ,aU,cn];grind[bS,List.length_cons,List.length_nil]
   ·simp only[e,bF,aU];rw[bS ⟨(hX d).1,trivial⟩,bS (by grind),Ml b g aB e,YE];grind[dY,List.length_append,List.length_singleton]
theorem akr{S r:aa}(dg:S.length<=1000000)(a:r<:+S):BN S (ax S r) []=some (tu S [] (ez r)):=by unfold BN a8;grind[eG,akq,lI,Nat.le_trans,List.length_nil]
def YF(S:aa)(st:Int)(pd:ao)(op:bt)(j:aa×Int->Option (bn an an))(y:Option (bn an an)):Option (aa×aa)->Prop
 |none=>∃s:an,y=some (.inl (2,st,s))
 |some (q,b)=>q<:+S/\∃a,(a=ax S q\/q=[]/\a=(S.length:Int)+1)/\y=j (b,a)
theorem aks{x0:an}{S:aa}{st a2 a3:Int}{j:aa×Int->Option (bn an an)}(dg:S.length<=1000000):∀(n:Nat)(r:aa),r.length+1<n->r<:+S->
  YF S st x0.2.2.1 x0.2.2.2.2.1 j (fixF (x9 x0 S st a2 a3 j) n ([],ax S r)) (gf r):=by
 intro n;induction n with
 |zero=>omega
 |succ n h=>
  intro r aw d
  have i:∀(l:aa)(p:Int),n≠0->((S.length:Int)<=p/\p<=(S.length:Int)+1)->fixF (x9 x0 S st a2 a3 j) n (l,p)=j (l,p):=by
   intro l p D aB
   obtain⟨m,rfl⟩:∃m,n=m+1:=⟨n-1,by omega⟩
   rw[e7];unfold x9;dsimp only;have:wD S p=some true:=by simp_all[wD,bw,aJ,cP,aZ]
   rw[this,aQ rfl];rfl
  rw[e7];generalize fixF (x9 x0 S st a2 a3 j) n=k at h i;unfold x9 a8;dsimp only;rw[RY dg d,aQ rfl];have E:=eG d;cases r with
  |nil=>rw[gf];exact⟨d,_,.inl rfl,by rfl⟩
  |cons b t=>
   have F:(b::t).length=t.length+1:=rfl;have G:t.length+1<n:=by omega
   have A:=iP dg d;by_cases B:cT (b::t)=true
   ·rw[B];have a:gf (b::t)=some (b::t,[]):=by rw[gf.eq_def];grind
    rw[a];exact⟨d,_,.inl rfl,by simp⟩
   have C:cT (b::t)=false:=by grind
   rw[C];simp only[e2,aJ,bw];rw[bS (hX d)];simp only[jz d,mI,q2,qo,nU,nV,A];by_cases s:b=92
   ·subst s;simp only[bw,aJ];cases t with
    |nil=>
     have a:gf [92]=some ([],[]):=by rw[gf.eq_def];grind
     rw[a];have:W (ax S [92]+2)=(S.length:Int)+1:=by grind[ax,dV,List.length_singleton]
     rw[this];exact⟨ov,_,.inr ⟨rfl,rfl⟩,i _ _ (by omega) (by omega)⟩
    |cons c u=>
     have a:gf (92::c::u)=gf u:=by rw[gf.eq_def];grind
     have v:W (ax S (92::c::u)+2)=ax S u:=ks (w:=[92,c]) dg d;grind[List.length_cons,dY]
   simp only[s,bF,aU];by_cases x:b=39
   ·subst x;simp only[bw,aJ];rw[Yr dg (dY d),aQ rfl];cases f:gd t with
    |none=>
     have a:gf (39::t)=none:=by rw[gf.eq_def];grind
     rw[a];simp only[kU,show((-1:Int)<0) from by decide,bw,aJ];exact⟨_,rfl⟩
    |some e=>
     have a:gf (39::t)=gf e:=by rw[gf.eq_def];grind
     rw[a];have g:=(Ag _ _ f).trans (dY d);have h0:¬ax S e<0:=by grind[eG,ax]
     simp only[kU,h0,bF,aU];exact h e (by have:=yw t e f;omega) g
   simp only[x,bF,aU];by_cases aB:b=36\/b=96
   ·have a:gf (b::t)=none:=by rw[gf.eq_def];grind
    rw[a];rcases aB with rfl|rfl
    ·simp only[bw,aJ];exact⟨_,rfl⟩
    ·simp only[show¬((96:UInt8)=36) by decide,bw,bF,aJ,aU];exact⟨_,rfl⟩
   have y:b≠36/\b≠96:=by grind
   simp only[y.1,y.2,bF,aU];by_cases z:b=34
   ·subst z;simp only[bw,aJ];rw[akr dg (dY d),aQ rfl]
    have H:∀q,ez t=q->(∀o r,q≠ .closed o r)->YF S st x0.2.2.1 x0.2.2.2.2.1 j (bif decide ((tu S [] q).2<0) then k ([34],(S.length:Int)) else k ([],(tu S [] q).2)) (gf (34::t)):=by
     intro q g aF;have a:gf (34::t)=some ([],[34]):=by rw[gf.eq_def];grind
     rw[a];have v:(tu S [] q).2= -1:=by cases q with
      |closed o r=>grind
      |_=>rfl
     rw[v];simp only[show((-1:Int)<0) from by decide,bw,aJ];exact⟨ov,_,.inl (ir S).symm,i _ _ (by omega) (by omega)⟩
    cases f:ez t with
    |closed o e=>
     have a:gf (34::t)=gf e:=by rw[gf.eq_def];grind
     rw[a];have g:=(Rm _ _ _ _ (cV _) f).trans (dY d);have h0:¬ax S e<0:=by grind[eG,ax]
     simp only[tu,h0,bF,aU];exact h e (by have:=EI t o e f;omega) g
    |part=>grind
    |open_ o=>grind
   ·have a:gf (b::t)=gf t:=by rw[gf.eq_def];grind
    rw[a];simp only[z,bF,aU];grind[dY]
theorem Mm(s:aa)(b:UInt8):(0<=Lib.indexByte s b)↔s.contains b=true:=by
 induction s with
 |nil=>simp[Lib.indexByte]
 |cons c t a=>unfold Lib.indexByte;grind
def Al(m:Option aa):aa×Bool:=match m with
 |some d=>if d.contains 10 then([],false) else(d,true)
 |none=>([],false)
theorem Sb(l:aa)(hl:(l.length:Int)<=1048576):wN l=some (Al (dl l 0)):=by
 rw[aj0 l hl];unfold nT Al;cases dl l 0 with
 |none=>rfl
 |some s=>
  simp only[tM];by_cases h:s.contains 10=true
  ·simp_all[bh,Mm]
  simp_all[aO,Mm]
theorem akt(l:aa)(hl:(l.length:Int)<=200000000):Ep l=some (Al (dl l 0)):=by
 rw[ajZ l hl];unfold nT Al;cases dl l 0 with
 |none=>rfl
 |some s=>
  simp only[tM];by_cases h:s.contains 10=true
  ·simp_all[bh,Mm]
  simp_all[aO,Mm]
theorem YG(r q a:aa)(h:gf r=some (q,a)):a.length<=1:=by
 fun_induction gf r<;>simp_all
 all_goals grind
theorem YH{e:cH}{r:aa}{pd:ao}(tabs:Bool)(h:dQ e r pd)(T:pd.length+r.length<e.S.length):aV e r (hs tabs r pd) (λ_=>e.st) (x_ (e.st r pd) tabs):=by
 unfold hs;cases f:bp r with
 |none=>unfold x_ a8;exact(((kT e).none h f).bind λ_=> .inr rfl).rG
 |some r'=>
  have v:=dT f;have a:=h.mono v;have z:=kR _ _ _ (cV _) f;simp only;by_cases m:∃w p,ar r'= .word w p
  ·obtain⟨w,p,m⟩:=m;rw[m];simp only;unfold x_ a8;refine aV.dU ?_ (eZ ((kT e).some h f));have A:(jk (ar r')).1=3:=by rw[m];rfl
   simp only[A,bw,g9,aU];generalize K:(λx:aa×Int=>_)=j;have g:=aks (x0:=e.st r pd) (S:=e.S) (st:=ax e.S r') (a2:=e.ne) (a3:=e.j6) (j:=j) h.bZ bC r' (by have:=eG a.sfx;have:=h.bZ;grind[gg]) a.sfx;have i:=YD _ r' (cV _);show aV e r _ _ (fixF (x9 (e.st r pd) e.S (ax e.S r') e.ne e.j6 j) bC ([],ax e.S r'));generalize fixF (x9 (e.st r pd) e.S (ax e.S r') e.ne e.j6 j) bC ([],ax e.S r')=y at g;cases B:gf r' with
   |none=>rw[B] at g i;obtain⟨s,rfl⟩:=g;simp only at i;rw[i];exact⟨a.sfx,s,rfl⟩
   |some x=>
    obtain⟨q,b⟩:=x;rw[B] at g i;obtain⟨c,G,aG⟩:=i;obtain⟨L,k,aB,rfl⟩:=g;have C:q<:+r':=⟨c,G.symm⟩;have M:min k (e.S.length:Int)=ax e.S q:=by
     have:= @oQ q e.S;rcases aB with rfl|⟨rfl,rfl⟩
     ·omega
     grind[ir]
    have N:cg e.S (ax e.S r') (ax e.S q)=c:=by rw[Iy a.sfx C,G];simp
    have U:=eG a.sfx;have H:r'.length=c.length+q.length:=by grind
    have O:=v.length_le;have V:=h.bZ;have W:b.length<=1:=YG _ _ _ B;have D:((c++b).length:Int)<=1048576:=by grind
    rw[<-K];have E:min k ((e.st r' pd).1.length:Int)=ax e.S q:=M;simp only[E];have I:ax e.S r'<=ax e.S q/\0<=ax e.S r':=by grind[ax]
    refine aV.dU ?_ (bS ⟨I.2,I.1,oQ⟩);show aV e r _ _ (aZ ((((cg e.S (ax e.S r') (ax e.S q)).length+b.length:Nat):Int)<=9223372036854775807) (au (wN (cg e.S (ax e.S r') (ax e.S q)++b)) _));rw[N];refine aV.dU ?_ (bS (by omega));rw[aG];cases F:dl (c++b) 0 with
    |none=>
     have l:wN (c++b)=some ([],false):=by rw[Sb _ D,F];rfl
     refine aV.dU ?_ (aQ l);simp only[Option.map_none,e2,aJ];refine aV.dU ?_ (bS (λ_ n=>absurd n (by simp)));exact⟨a.sfx,_,rfl⟩
    |some d=>
     simp only[AU];by_cases t:d.contains 10=true
     ·have l:wN (c++b)=some ([],false):=by rw[Sb _ D,F];exact mq some (bh t)
      refine aV.dU ?_ (aQ l);rw[bh t];simp only[e2,aJ];refine aV.dU ?_ (bS (λ_ n=>absurd n (by simp)));exact⟨a.sfx,_,rfl⟩
     have l:wN (c++b)=some (d,true):=by rw[Sb _ D,F];exact mq some (aO t)
     refine aV.dU ?_ (aQ l);rw[aO t];simp only[g9,aU];have bq:(bif tabs then !decide (d=[]) else false)=true->(true:Bool)=true->(0:Int)<=0/\(0:Int)<(d.length:Int):=by
      intro n _;cases d with
      |nil=>grind
      |cons x y=>simp
     refine aV.dU ?_ (bS (by grind))
     have P:(bif bif tabs then !decide (d=[]) else false then decide (((at' d 0).toNat:Int)=9) else false)=decide (tabs=true/\d.head?=some 9):=by
      cases tabs with
      |false=>simp
      |true=>
       cases d with
       |nil=>simp
       |cons x y=>simp[at',Iw]
     rw[P];by_cases u:tabs=true/\d.head?=some 9
     ·rw[bh u];simp only[u,nB,bw,aJ];exact⟨a.sfx,_,rfl⟩
     rw[aO u];simp only[u,bF,aU];by_cases kg:b=[]
     ·subst kg;simp only[ne_eq,not_true,cn,bw,g9,aU];by_cases J:q=[]
      ·subst J;rw[bh rfl];have hle:decide ((e.S.length:Int)<=k)=true:=by
        rcases aB with rfl|⟨_,rfl⟩
        ·simp[ir]
        grind
       refine aV.dU ?_ (show(bif decide ((e.S.length:Int)<=k) then _ else _)=_ by rw[hle]);exact⟨_,rfl,by simp[cH.st]⟩
      ·rw[aO J];have Q:k=ax e.S q:=by grind
       subst Q;have hle:decide ((e.S.length:Int)<=ax e.S q)=false:=by grind[ax,yC,oQ]
       refine aV.dU ?_ (show(bif decide ((e.S.length:Int)<=ax e.S q) then _ else _)=_ by rw[hle]);have X:=h.R3;have Y:=C.length_le;refine aV.dU ?_ (bS (show pd.length+[(d,tabs)].length<=536870912 by grind));exact⟨C.trans v,⟨h.bZ,L,by grind,by have:=h.ops;omega⟩,rfl⟩
     ·rw[bh kg];simp only[kg,bF,e2,aJ];exact Ma rfl rfl h.w7 λ_=>rfl
  ·have A:decide ((jk (ar r')).1=3)=false:=by grind[decide_eq_false_iff_not,Mf]
   have R:x_ (e.st r pd) tabs=a_ (kC (e.st r' pd)) (λx=>(x.1,x.2.1,pd,x.2.2.2.1,e.op,x.2.2.2.2.2)) λy=>Empty.elim y:=by unfold x_ a8;refine(eZ ((kT e).some h f)).trans ?_;simp only[A,e2,aJ];rfl
   rw[R];cases hk:ar r' with
   |word w p=>grind
   |eof=>exact(((tn a z).1 hk).bind λ_=> .inr rfl).rG
   |line=>exact⟨a.sfx,_,hI ((tn a z).2 (by grind))⟩
   |op o=>exact⟨a.sfx,_,hI ((tn a z).2 (by grind))⟩
theorem YK(b:UInt8):D0 (b.toNat:Int)=some (b_ b):=by
 unfold D0 zI b_;have ad:((48:Int)<=(b.toNat:Int))=((48:UInt8)<=b):=by apply propext;rw[Da];grind
 have a:((b.toNat:Int)<=(57:Int))=(b<=(57:UInt8)):=by apply propext;rw[Da];grind
 grind[au]
theorem akv(w:aa)(d:w.length<=1000000):D5 w=some (!decide (w=[])&&w.all b_):=by
 have a:∀(n:Nat)(r:aa),r.length<n->r<:+w->fixF (Ho w λ_=>some (!(decide (w=[])))) n (ax w r)=some (!decide (w=[])&&r.all b_):=by
  intro n;induction n with
  |zero=>omega
  |succ n e=>
   intro r aw c;rw[e7];generalize fixF (Ho w _) n=k at e;unfold Ho;cases r with
   |nil=>simp[ir]
   |cons b t=>
    have f:=iP d c;simp only[m9 c,bw,aJ];rw[bS ⟨(hX c).1,trivial⟩,jz c,YK,aQ rfl,f];cases g:b_ b with
    |false=>grind
    |true=>simp only[g9,aU];grind[List.length_cons,dY]
 unfold D5 a8;have:=a bC w (lI d) fM;grind[Iv]
theorem Am{b:UInt8}(h:b_ b=true):gb b=false/\b≠10/\b≠92/\b≠39/\b≠34/\b≠96/\b≠36/\b≠35/\oM b=false:=by
 have ad:(48:UInt8)<=b/\b<=(57:UInt8):=by grind[b_]
 rw[Da,Da] at ad;have a:(48:UInt8).toNat=48:=rfl;have c:(57:UInt8).toNat=57:=rfl;rw[a,c] at ad;have d:b=UInt8.ofNat b.toNat:=by simp
 generalize b.toNat=n at*;subst d;have:n=48\/n=49\/n=50\/n=51\/n=52\/n=53\/n=54\/n=55\/n=56\/n=57:=by omega
 rcases this with rfl|rfl|rfl|rfl|rfl|rfl|rfl|rfl|rfl|rfl<;>decide
theorem YL{b:UInt8}{t:aa}(h:b_ b=true):cT (b::t)=false:=by obtain⟨ad,a,_,_,_,_,_,_,c⟩:=Am h;show(gb b||b==10||bs (b::t)!=[])=false;grind[nx]
theorem akw{b:UInt8}{t:aa}(h:b_ b=true):fJ (b::t)=false:=by simp_all[Am,sx]
theorem YM:∀(r:aa),cT (r.dropWhile b_)=true->c5 r=(r.takeWhile b_,true)
 |[],_=>by decide
 |b::t,h=>by
  cases a:b_ b with
  |true=>rw[T4 a] at h;obtain⟨ad,c,d,e,f,g,i,j,k⟩:=Am a;unfold c5;simp_all[YL,aO,akw,YM,List.takeWhile_cons_of_pos]
  |false=>simp_all[Jw,c5,bh,T9]
theorem Se:∀(r w:aa),c5 r=(w,true)->cT (r.drop w.length)=true
 |[],w,h=>by simp[c5] at h;subst h;rfl
 |b::t,w,h=>by
  unfold c5 at h;split at h
  ·rename_i a;cases h;exact a
  ·split at h
   ·cases h
   ·split at h
    ·rename_i w' c;cases h;exact Se t w' c
    ·cases h
def uJ(r:aa):aa:=match ar r with
 | .word w true=>if(!decide (w=[])&&w.all b_) then r.drop w.length else r
 |_=>r
theorem akx{r:aa}(d:bp r=some r):(eV (bs (r.dropWhile b_))=true->uJ r=r.dropWhile b_)/\eV (bs (uJ r))=eV (bs (r.dropWhile b_)):=by
 have g:eV []=false:=by decide
 by_cases i:cT (r.dropWhile b_)=true
 ·have:uJ r=r.dropWhile b_:=by
   cases r with
   |nil=>decide
   |cons b t=>
    cases e:b_ b with
    |true=>
     obtain⟨ad,y,_,_,_,_,_,_,z⟩:=Am e;have a:ar (b::t)= .word ((b::t).takeWhile b_) true:=by show(if b=10 then Tok.line else if bs (b::t)≠[] then .op (bs (b::t)) else .word (c5 (b::t)).1 (c5 (b::t)).2)=_;simp_all[aO,nx,YM]
     unfold uJ;rw[a];simp only;have j:¬(b::t).takeWhile b_=[]:=by simp_all
     have k:((b::t).takeWhile b_).all b_=true:=List.all_takeWhile;rw[k];simp only[j,bF,e2,Bool.and_self,cE];have:=T8 (p:=b_) (l:=b::t);grind
    |false=>
     rw[Jw (by grind)] at i⊢;unfold uJ;cases a:ar (b::t) with
     |word w p=>
      have m:gb b=false:=by
       cases n:gb b with
       |false=>rfl
       |true=>rw[E5 n] at d;have:=(dT d).length_le;grind
      grind[Ie]
     |_=>rfl
  grind
 ·have o:cT (r.dropWhile b_)=false:=by grind
  have q:bs (r.dropWhile b_)=[]:=by
   cases A:r.dropWhile b_ with
   |nil=>decide
   |cons c u=>grind[cT,Bool.or_eq_false_iff]
  rw[q,g];refine⟨λh=>absurd h (by decide),?_⟩;have s:uJ r=r:=by
   unfold uJ;cases a:ar r with
   |word w p=>
    cases p with
    |true=>
     simp only;by_cases x:(!decide (w=[])&&w.all b_)=true
     ·exfalso;simp only[hL] at x;cases r with
      |nil=>grind[ar]
      |cons b t=>
       have aB:c5 (b::t)=(w,true):=by have B:(if b=10 then Tok.line else if bs (b::t)≠[] then .op (bs (b::t)) else .word (c5 (b::t)).1 (c5 (b::t)).2)= .word w true:=a;grind
       obtain⟨v,f⟩:=(ER _ _ aB).1;have he:=Se _ _ aB;rw[<-f,o0] at he;rw[<-f,List.dropWhile_append_of_pos (by grind)] at o;cases v with
       |nil=>simp_all
       |cons c u=>grind[b_,YL,List.dropWhile_cons_of_neg]
     grind
    |false=>rfl
   |_=>rfl
  rw[s];cases r with
  |nil=>simp_all
  |cons b t=>
   cases e:b_ b with
   |true=>simp_all[nx,Am]
   |false=>simp_all
theorem Sf{o:aa}(h:eV o=true):1<=o.length:=by
 cases o with
 |nil=>exact absurd h (by decide)
 |cons a b=>simp
theorem IH{R:bg}{n:Nat}(hA:ts R n){e:cH}(bc:e.ne=30- (n:Int)):qq e (dx (a7 false n)) (λb r pd=>(b,e.st r pd)) (ya R):=by
 intro r pd h;unfold dx;cases d:bp r with
 |none=>
  have:fF r pd=Go.Eng.b5 [] r pd:=by grind[fF]
  rw[de (nd:=(cQ [] pd []).1) (ds:=(cQ [] pd []).2) this];unfold ya;exact(((kT e).none h d).bind λ_=> .inr rfl).rG
 |some r'=>
  have g:=dT d;have f:=h.mono g;have I:=kR _ _ _ (cV _) d;obtain⟨i,xb⟩:=akx I;have J:r'.dropWhile b_<:+r':=Co;have K:uJ r'<:+r':=by grind[uJ,List.drop_suffix]
  have Y:=eG f.sfx;have j:=h.bZ;unfold ya a8;refine aV.dU ?_ (eZ ((kT e).some h d));have L:∀(k:Int->Option (bn an (Bool×an)))(y:Option (bn an (Bool×an))),y=(cP ((bif(decide ((jk (ar r')).1=3)) then(jk (ar r')).2.2 else false)=true) (D5 (jk (ar r')).2.1) false λ(M:Bool)=>
    (bif(bif(bif(decide ((jk (ar r')).1=3)) then(jk (ar r')).2.2 else false) then M else false) then
    k (W (ax e.S r'+((jk (ar r')).2.1.length:Int)))
    else k (ax e.S r')))->y=k (ax e.S (uJ r')):=by
   intro k y N;rw[N];unfold uJ;cases O:ar r' with
   |word w p=>
    cases p with
    |false=>rfl
    |true=>
     have l:=(qj O).1;have P:w.length<=1000000:=by grind
     simp only[jk,bw,aJ];rw[akv w P,fX,bh trivial];cases aF:(!decide (w=[])&&w.all b_) with
     |false=>simp
     |true=>obtain⟨q,rfl⟩:=l;simp only[aJ,cE,o0];rw[ks j f.sfx]
   |_=>rfl
  refine aV.dU ?_ (L (λs=>au (zy e.S s) λ(c:aa)=>
   (au (D6 c) λ(Q:Bool)=>
   (bif(!Q) then
   some (.inr (false,e.st r' pd))
   else
   (bif(bif(decide (c=([60,60]:aa))) then true else(decide (c=([60,60,45]:aa)))) then
   (a_ (x_ (e.S,(W (s+(c.length:Int))),pd,e.ne,e.op,e.j6) (decide (c=([60,60,45]:aa)))) (λx=>x) λ(t:an)=>
   some (.inr (true,t)))
   else
   (a_ (k8 R (e.S,(W (s+(c.length:Int))),pd,e.ne,e.op,e.j6)) (λx=>x) λ(S:an)=>
   some (.inr (true,S))))))) _ rfl)
  refine aV.dU ?_ (aQ (RX j (K.trans f.sfx)));refine aV.dU ?_ (aQ (akc _));by_cases u:eV (bs (r'.dropWhile b_))=true
  ·have z:fF r pd= .ok (some (bs (r'.dropWhile b_))) ((r'.dropWhile b_).drop (bs (r'.dropWhile b_)).length) pd:=by simp_all[fF,bh]
   rw[aM z,i u];rw[u];simp only[g9,aU];have D:=J.trans g;have A:=h.mono D;generalize r'.dropWhile b_=q at*;have l:bs q<+:q:=Rk;have ad:=Sf u;generalize Z:bs q=o at*;obtain⟨v,rfl⟩:=l;rw[o0];have E:v<:+o++v:=gS o v;have B:=A.mono E;have T:W (ax e.S (o++v)+(o.length:Int))=ax e.S v:=ks j A.sfx;simp only[T]
   have C:∀(m:ak Unit)(y:Option (bn an an)),aV e v (m v pd) (λ_=>e.st) y->aV e r (ae m (λ_=>aX true) v pd) (λb r pd=>(b,e.st r pd)) (a_ y (λx=>x) λt=>some (.inr (true,t))):=by intro m y hm;exact aV.iH c3.id (hm.mono (E.trans D)) (λ_=>rfl) λa r1 aD _ U V=>⟨U,V,rfl⟩
   have F:pd.length+v.length<e.S.length:=by have:=A.jM;grind
   by_cases G:o=[60,60]
   ·subst G;simp only[bw,aJ,cE,show¬(([60,60]:aa)=[60,60,45]) by decide,bF];exact C _ _ (YH false B F)
   ·by_cases H:o=[60,60,45]
    ·subst H;simp only[bw,aJ,cE,show¬(([60,60,45]:aa)=[60,60]) by decide,bF,aU,cn];exact C _ _ (YH true B F)
    ·simp only[G,H,bF,aU,cn];exact C _ _ (R6 hA bc _ v pd B)
  ·have z:fF r pd= .ok none r' pd:=by simp_all[fF,aO]
   have X:eV (bs (uJ r'))=false:=by grind
   rw[aM z,X];exact⟨g,f,rfl⟩
theorem YO{R:bg}{n:Nat}(hA:ts R n){e:cH}(bc:e.ne=30- (n:Int)):qq e (gJ (a7 false n)) (λ_=>e.st) (D7 R):=by
 intro r pd h;unfold gJ D7 a8;refine aV.rep (en:=λ_ r pd=>e.st r pd) (λk s r1 a ad hk=>?_) bC () r pd (lI (lK (eG h.sfx) h.bZ)) h;unfold Qe;refine aV.iH c3.k (IH hA bc r1 a ad) (λ_=>rfl) λb c i d f g=>?_;cases b with
 |false=>exact aV.inr f g rfl
 |true=>
  rw[bh rfl];by_cases hl:c.length<r1.length
  ·grind[aV.inl]
  ·exact absurd (su (w8 false n▸(qY false n).dl) d) hl
theorem l8(fr:Bool)(n:Nat):hT (a7 fr n):=w8 fr n▸(qY fr n).dl
theorem aV.tst{α b β c:Type}{C:dD α->dD b}(i:c3 C){e:cH}{r0 r:aa}{pd:ao}{x:aa}{k:Tok->ak α}{f:Tok->β}{F:an->Option (bn an (β×an))}{cv:b->aa->ao->c}{g:an->an}{K:β×an->Option (bn an c)}
  (d:oi e f F) (h:dQ e r pd)
  (hk:∀r',bp r=some r'->r'<:+r->dQ e r' pd->bp r'=some r'->aV e r0 (C (k (ar r') r' pd)) cv (K (f (ar r'),e.st r' pd))) (bq:∀st,(g st).2.2.2.2.1=st.2.2.2.2.1\/(g st).2.2.2.2.1=e.op:=by intro _;first|exact .inl rfl|exact .inr rfl):
  aV e r0 (C (Go.Eng.ae (bM x) k r pd)) cv (a_ (F (e.st r pd)) g K):=by
 cases a:bp r with
 |none=>rw[de (iG a),i.more];exact((d.none h a).bind bq).rG
 |some r'=>rw[aM (ch a),eZ (d.some h a)];exact hk r' a (dT a) (h.mono (dT a)) (kR _ _ _ (cV _) a)
theorem Sj{b:Tok->Bool}{n:Nat}{r:aa}{pd:ao}{a:Unit}{r':aa}{d:ao}(h:mB b n r pd= .ok a r' d):d=pd:=by
 unfold mB at h;obtain⟨t,r1,e,ad,c⟩:=b1 h;obtain⟨_,_,rfl⟩:=IC ad;split at c
 ·grind[b5]
 ·split at c
  ·cases c;rfl
  ·cases c
theorem Sk{b:Tok->Bool}{n:Nat}{r:aa}{pd:ao}{op:bt}{nd:aa}{ds:ao}(h:mB b n r pd= .more op nd ds):op=[]:=by
 unfold mB at h;cases a:bp r with
 |none=>rw[de (nd:=(cQ [] pd []).1) (ds:=(cQ [] pd []).2) (op:=[]) (by rw[iG a];rfl)] at h;grind
 |some r'=>
  rw[aM (ch a)] at h;split at h
  ·grind[b5]
  ·split at h<;>cases h
theorem aV.Sl{α g i β j:Type}{C:dD g->dD i}(d:c3 C){e:cH}{r0 r:aa}{pd:ao}{m:ak α}{k:α->ak g}{cv:α->aa->ao->β}{cv':i->aa->ao->j}{y:Option (bn an β)}{k':β->Option (bn an j)}{f:an->an}
  (h:aV e r0 (m r pd) cv y) (hm:∀op nd ds,m r pd= .more op nd ds->op=[]) (hf:∀st,(f st).2.2.2.2.1=st.2.2.2.2.1\/(f st).2.2.2.2.1=e.op) (hk:∀a r1 b,m r pd= .ok a r1 b->r1<:+r0->dQ e r1 b->aV e r0 (C (k a r1 b)) cv' (k' (cv a r1 b))):
  aV e r0 (C (Go.Eng.ae m k r pd)) cv' (a_ y f k'):=by
 unfold Go.Eng.ae;cases c:m r pd with
 |ok a r1 b=>rw[c] at h;obtain⟨ad,l,rfl⟩:=h;exact hk a r1 b c ad l
 |more op nd ds=>rw[c] at h;obtain⟨st,rfl,l⟩:=h;rw[d.more];have:=hm op nd ds c;subst this;refine⟨f st,rfl,?_⟩;grind
 |bad q=>rw[c] at h;obtain⟨ad,st,rfl⟩:=h;rw[d.bad];exact⟨ad,f st,rfl⟩
 |deep q=>rw[d.deep];trivial
theorem akz{α:Type}{m:ak α}{x r:aa}{pd:ao}{op:bt}{nd:aa}{ds:ao}(h:m.aK x r pd= .more op nd ds):∃a b,m r pd= .more op a b:=by unfold ak.aK at h;grind
theorem aV.res{α d f:Type}{C:dD α->dD d}(i:c3 C){e:cH}{r0 r:aa}{pd:ao}{w x:aa}{k:Unit->ak α}{cv:d->aa->ao->f}{g:an->an}{K:an->Option (bn an f)}
  (j:0<w.length) (h:dQ e r pd) (h0:r<:+r0) (hk:∀r1,r1<:+r->dQ e r1 pd->r1.length<r.length->aV e r0 (C (k () r1 pd)) cv (K (e.st r1 pd))) (bq:∀st,(g st).2.2.2.2.1=st.2.2.2.2.1\/(g st).2.2.2.2.1=e.op:=by intro _;first|exact .inl rfl|exact .inr rfl):
  aV e r0 (C (Go.Eng.ae ((cW w).aK x) k r pd)) cv (a_ (ni (e.st r pd) w) g K):=by
 refine aV.Sl i ((aV.aK (x:=x) (Iz w h)).mono h0) (λop nd ds b=>by obtain⟨_,_,b⟩:=akz b;exact Sk b) bq λa r1 m c ad l=>?_;have:=Sj (gK.1 c);subst this;exact hk r1 ((aq.res _).sfx (gK.1 c)) l (Rp j (gK.1 c))
theorem YP{α:Type}(m:ak α):m.aK []=m:=by
 funext r pd
 unfold ak.aK;cases m r pd<;>rfl
theorem aV.Mo{α a b:Type}{C:dD α->dD a}(c:c3 C){e:cH}{r0 r:aa}{pd:ao}{w:aa}{k:Unit->ak α}{cv:a->aa->ao->b}{g:an->an}{K:an->Option (bn an b)}
  (d:0<w.length) (h:dQ e r pd) (h0:r<:+r0) (hk:∀r1,r1<:+r->dQ e r1 pd->r1.length<r.length->aV e r0 (C (k () r1 pd)) cv (K (e.st r1 pd))) (bq:∀st,(g st).2.2.2.2.1=st.2.2.2.2.1\/(g st).2.2.2.2.1=e.op:=by intro _;first|exact .inl rfl|exact .inr rfl):
  aV e r0 (C (Go.Eng.ae (cW w) k r pd)) cv (a_ (ni (e.st r pd) w) g K):=by
 have:=aV.res (x:=[]) c d h h0 hk bq;grind[YP]
theorem aV.YQ{e:cH}{r0 r:aa}{pd:ao}{w:aa}{g:an->an}{K:an->Option (bn an an)}(h:dQ e r pd)(h0:r<:+r0)(i:∀r1,K (e.st r1 pd)=some (.inr (e.st r1 pd)))(bq:∀st,(g st).2.2.2.2.1=st.2.2.2.2.1\/(g st).2.2.2.2.1=e.op:=by intro _;first|exact .inl rfl|exact .inr rfl):
  aV e r0 (cW w r pd) (λ_=>e.st) (a_ (ni (e.st r pd) w) g K):=by
 have:=aV.Sl (C:=λx=>x) (k:=λ_=>aX ()) (cv':=λ_=>e.st) (f:=g) (k':=K) c3.id ((Iz w h).mono h0) (λop nd ds b=>Sk b) bq λa r1 j c ad d=>⟨ad,d,by rw[Sj c];grind⟩;grind[E9]
theorem aV.akA{e:cH}{r0 r:aa}{pd:ao}{w:aa}{g:an->an}{K:an->Option (bn an an)}(h:dQ e r pd)(h0:r<:+r0)(i:∀r1,K (e.st r1 pd)=some (.inr (e.st r1 pd)))(bq:∀st,(g st).2.2.2.2.1=st.2.2.2.2.1\/(g st).2.2.2.2.1=e.op:=by intro _;first|exact .inl rfl|exact .inr rfl):
  aV e r0 (ji w r pd) (λ_=>e.st) (a_ (r9 (e.st r pd) w) g K):=by
 have:=aV.Sl (C:=λx=>x) (k:=λ_=>aX ()) (cv':=λ_=>e.st) (f:=g) (k':=K) c3.id ((L7 w h).mono h0) (λop nd ds b=>Sk b) bq λa r1 j c ad d=>⟨ad,d,by rw[Sj c];grind⟩;grind[E9]
theorem aV.ls{α d f:Type}{C:dD α->dD d}(i:c3 C){R:bg}{n:Nat}(bk:w9 R n){e:cH}(bc:e.ne=30- (n:Int)){r0 r:aa}{pd:ao}{c:Ctx}{no:Bool}{x:aa}{k:Nat->ak α}{cv:d->aa->ao->f}{g:an->an}{K:Int×an->Option (bn an f)}
  (h:dQ e r pd) (h0:r<:+r0) (hk:∀a r1 b,r1<:+r->dQ e r1 b->aV e r0 (C (k a r1 b)) cv (K ((a:Int),e.st r1 b))) (bq:∀st,(g st).2.2.2.2.1=st.2.2.2.2.1:=by intro _;rfl) (j:c≠ .text:=by simp):
  aV e r0 (C (Go.Eng.ae (((aR false n).ls c no).aK x) k r pd)) cv (a_ (R.kl (e.st r pd) (Cx c) no) g K):=
 aV.iH i ((aV.aK (x:=x) (bk.im e c no j bc r pd h)).mono h0) bq λa r1 b l ad m=>hk a r1 b (((qY false n).ls c no).sfx (gK.1 l)) m
theorem aV.lines{α c d:Type}{C:dD α->dD c}(i:c3 C){e:cH}{r0 r:aa}{pd:ao}{x:aa}{k:Bool->ak α}{cv:c->aa->ao->d}{g:an->an}{K:Bool×an->Option (bn an d)}
  (h:dQ e r pd) (h0:r<:+r0) (hk:∀a r1 b,cS r pd= .ok a r1 b->r1<:+r->dQ e r1 b->aV e r0 (C (k a r1 b)) cv (K (a,e.st r1 b))) (bq:∀st,(g st).2.2.2.2.1=st.2.2.2.2.1:=by intro _;rfl):
  aV e r0 (C (Go.Eng.ae (cS.aK x) k r pd)) cv (a_ (k6 (e.st r pd)) g K):=
 aV.iH i ((aV.aK (x:=x) (Yo h)).mono h0) bq λa r1 b f ad j=>hk a r1 b (gK.1 f) (aq.lines.sfx (gK.1 f)) j
theorem aV.An{α c d:Type}{C:dD α->dD c}(f:c3 C){e:cH}{r0 r:aa}{pd:ao}{k:Bool->ak α}{cv:c->aa->ao->d}{g:an->an}{K:Bool×an->Option (bn an d)}
  (h:dQ e r pd) (h0:r<:+r0) (hk:∀a r1 b,cS r pd= .ok a r1 b->r1<:+r->dQ e r1 b->aV e r0 (C (k a r1 b)) cv (K (a,e.st r1 b))) (bq:∀st,(g st).2.2.2.2.1=st.2.2.2.2.1:=by intro _;rfl):
  aV e r0 (C (Go.Eng.ae cS k r pd)) cv (a_ (k6 (e.st r pd)) g K):=by
 have:=aV.lines (x:=[]) f h h0 hk bq;grind[YP]
theorem Mp{R:bg}{n:Nat}(hA:ts R n){e:cH}(bc:e.ne=30- (n:Int)):qq e (hy false (a7 false n)) (λ_=>e.st) (zR R):=by
 intro r pd h;unfold hy zR;refine aV.rep (en:=λ_ r pd=>e.st r pd) (λk s r1 q ad hk=>?_) bC () r pd (lI (lK (eG h.sfx) h.bZ)) h;unfold Qg a8;refine aV.iH c3.k (IH hA bc r1 q ad) (λ_=>rfl) λb u l v d m=>?_;cases b with
 |true=>have hl:=su (l8 false n) v;rw[bh rfl];exact aV.inl hl (hk () u l d m hl)
 |false=>
  rw[aO (by simp)];dsimp only[cond_false];refine aV.tst c3.k (kT e) m λa C f g i=>?_;by_cases c:∃w p,ar a= .word w p
  ·obtain⟨w,p,c⟩:=c;rw[c];refine aV.iH c3.k ((Mg hA bc g i c).mono (f.trans d)) (λ_=>rfl) λ_ D E x F G=>?_;have j:a≠[]:=by rintro rfl;grind[ar]
   have z:cT a=false:=by
    cases a with
    |nil=>grind
    |cons b t=>
     refine Ie ⟨w,p,c⟩ ?_;cases A:gb b with
     |false=>rfl
     |true=>rw[E5 A] at i;have:=(dT i).length_le;grind
   have hl:=vF (l8 false n) j z x;grind[aV.inl]
  ·have B:decide ((jk (ar a)).1=3)=false:=by grind[decide_eq_false_iff_not,Mf]
   refine aV.dU (y:=some (.inr (e.st a l))) ?_ (by simp only[B,e2,aJ];rfl);cases H:ar a with
   |word w p=>grind
   |op o=>simp only[eB,false_and,cn];exact aV.inr (f.trans d) g rfl
   |_=>exact aV.inr (f.trans d) g rfl
theorem Fc(a b:UInt8):((a.toNat:Int)<=(b.toNat:Int))↔a<=b:=by simp[Da]
theorem Sm(b:UInt8):((97:Int)<=(b.toNat:Int))↔97<=b:=Fc 97 b
theorem Sn(b:UInt8):((b.toNat:Int)<=122)↔b<=122:=Fc b 122
theorem YR(b:UInt8):((65:Int)<=(b.toNat:Int))↔65<=b:=Fc 65 b
theorem YS(b:UInt8):((b.toNat:Int)<=90)↔b<=90:=Fc b 90
theorem So(b:UInt8):((48:Int)<=(b.toNat:Int))↔48<=b:=Fc 48 b
theorem Sp(b:UInt8):((b.toNat:Int)<=57)↔b<=57:=Fc b 57
theorem YT(b:UInt8):((b.toNat:Int)=95)↔b=95:=q3 (c:=95)
theorem akC(b:UInt8):Hk (b.toNat:Int)=some (decide (97<=b)&&decide (b<=122)):=by simp[Hk,zI,au,Sm,Sn]
theorem akD(b:UInt8):Hl (b.toNat:Int)=some (decide (65<=b)&&decide (b<=90)):=by simp[Hl,zI,au,YR,YS]
def Fe(first:Bool)(b:UInt8):Bool:=yu b||(!first&&b_ b)
theorem Mq{w:aa}(d:w.length<=1000000){j:Unit->Option Bool}{k:Int->Option Bool}{b:UInt8}{t:aa}(a:b::t<:+w):
  zJ w j k (ax w (b::t))=(bif Fe (decide (b::t=w)) b then k (ax w t) else some false)/\z5 w j k (ax w (b::t))=(bif Fe (decide (b::t=w)) b then k (ax w t) else some false):=by
 have h0:decide (ax w (b::t)=0)=decide (b::t=w):=by
  by_cases h:b::t=w
  ·grind[Iv]
  ·have:ax w (b::t)≠0:=by intro e;refine h (a.eq_of_length ?_);grind[ax]
   grind
 have c:=iP d a;constructor
 ·unfold zJ;simp only[m9 a,bw,aJ];rw[bS ⟨(hX a).1,trivial⟩];simp only[jz a,akC,akD,YK,fX,h0,c,YT];rw[aQ rfl];unfold Fe yu;grind
 ·unfold z5;have bq:=hX a;have f:0<=ax w (b::t)/\ax w (b::t)<(w.length:Int):=bq;simp only[m9 a,bw,aJ,bq.1,nB,implies_true];simp only[aZ,cE,jz a,h0,c,YT,Sm,Sn,YR,YS,So,Sp];unfold Fe yu b_;grind
theorem akE{w:aa}(d:w.length<=1000000){j:Unit->Option Bool}(i:j ()=some (!decide (w=[]))):∀(n:Nat)(r:aa),r.length<n->r<:+w->r≠w->fixF (zJ w j) n (ax w r)=some (r.all λc=>yu c||b_ c)/\fixF (z5 w j) n (ax w r)=some (r.all λc=>yu c||b_ c):=by
 intro n;induction n with
 |zero=>omega
 |succ n e=>
  intro r aw a bc;rw[e7,e7];cases r with
  |nil=>grind[zJ,ir,z5]
  |cons b t=>
   have f:t≠w:=by grind
   obtain⟨g,h⟩:=e t (by grind) (dY a) f;rw[(Mq d a).1,(Mq d a).2,g,h];grind[decide,Fe,yu,b_]
theorem yI(w:aa)(a:w.length<=1000000):zK w=some (l4 w)/\z6 w=some (l4 w):=by
 have e:=Iv w
 have d:∀j:Unit->Option Bool,j ()=some (!decide (w=[]))->fixF (zJ w j) bC 0=some (l4 w)/\fixF (z5 w j) bC 0=some (l4 w):=by
  intro j f
  obtain⟨n,aw⟩:∃n,bC=n+1:=⟨bC-1,by rw[gg]⟩
  rw[aw,e7,e7];cases w with
  |nil=>grind[zJ,l4,z5]
  |cons b t=>
   have bc:t≠b::t:=by simp
   have c:t.length<n:=by grind[lI,List.length_cons,gg]
   obtain⟨g,h⟩:=akE a f n t c (eb b t) bc;rw[<-e,(Mq a fM).1,(Mq a fM).2,g,h];grind[Fe,l4,yu]
 constructor
 ·unfold zK a8;exact(d (λ_=>some (!(decide (w=[])))) rfl).1
 ·unfold z6 a8;refine(d (λ_=>some (decide (0<(w.length:Int)))) ?_).2;cases w<;>simp
section
variable{R:bg}{n:Nat}(bk:w9 R n){e:cH}(bc:e.ne=30- (n:Int))
include bk bc
theorem Sq(x:aa):qq e (iF (aR false n) x) (λ_=>e.st) (s9 R):=by intro r pd h;unfold iF s9;refine aV.res (C:=λx=>x) c3.id (by decide) h fM λr1 s1 b _=>?_;refine aV.ls (c:= .done) (C:=λx=>x) c3.id bk bc b s1 λa f g s2 d=>?_;exact aV.YQ d (s2.trans s1) λi=>rfl
theorem akG:qq e (qd (aR false n)) (λ_=>e.st) (D3 R):=by
 intro r pd h;unfold qd D3 a8;refine aV.rep (en:=λ_ r pd=>e.st r pd) (λk s r1 M ad hk=>?_) bC () r pd (lI (lK (eG h.sfx) h.bZ)) h;unfold PZ;refine aV.ls (c:= .rB) c3.k bk bc ad fM λa N O s2 F=>?_;refine aV.Mo c3.k (by decide) F s2 λP C G Q=>?_;refine aV.ls (c:= .qc) c3.k bk bc G (C.trans s2) λa S D H I=>?_;dsimp only;refine aV.tst c3.k (q4 e _) I λd T J j K=>?_;have i:=J.trans (H.trans (C.trans s2));dsimp only;by_cases he:cA (ar d) ig=true
 ·rw[bh he];have t:cA (ar d) [101,108,105,102]=true:=he;rw[t];simp only[aU,g9];refine aV.Mo c3.k (by decide) j i λu l v w=>?_;have hl:u.length<r1.length:=by grind
  exact aV.inl hl (hk () u D (l.trans i) v hl)
 ·rw[aO he];have t:cA (ar d) [101,108,105,102]=false:=F6.2 he;rw[t];simp only[aJ,e2];have E:∀(f:Unit->ak (Unit⊕Unit))(g:aa)(b:ao),g<:+r1->dQ e g b->aV e r1 (cK f r1 (ae (cW eU) (λ_=>aX (.inr ())) g b)) (λ_=>e.st)
    (a_ (ni (e.st g b) [102,105]) (λx=>(x.1,x.2.1,b,x.2.2.2.1,e.op,x.2.2.2.2.2)) λm=>some (.inr (m.1,m.2.1,b,m.2.2.2.1,e.op,m.2.2.2.2.2))):=by
   intro f g b o y;refine aV.Mo c3.k (by decide) y o λU z A L=>?_;exact aV.inr (z.trans o) A rfl
  have p:=(q4 e [101,108,115,101]).some j K;by_cases q:cA (ar d) hS=true
  ·rw[bh q];have B:cA (ar d) [101,108,115,101]=true:=q;rw[B] at p;refine aV.dU ?_ (eZ p);dsimp only[cond_true];refine aV.Mo c3.k (by decide) j i λu l v w=>?_;refine aV.ls (c:= .kj) c3.k bk bc v (l.trans i) λa g b o y=>?_;exact E _ g b (o.trans (l.trans i)) y
  ·rw[aO q];have B:cA (ar d) [101,108,115,101]=false:=F6.2 q;rw[B] at p;refine aV.dU ?_ (eZ p);dsimp only[cond_false];exact E _ d D i j
end
theorem yJ{r:aa}(a:bp r=some r){w:aa}{p:Bool}(c:ar r= .word w p):r≠[]/\cT r=false:=by
 cases r with
 |nil=>grind[ar]
 |cons b t=>
  refine⟨by simp,Ie ⟨w,p,c⟩ ?_⟩;cases d:gb b with
  |false=>rfl
  |true=>rw[E5 d] at a;have:=(dT a).length_le;grind
theorem akK{α j l:Type}{C:dD α->dD j}(i:c3 C){e:cH}{r0 r:aa}{pd:ao}{x:aa}{k:ak α}{cv:j->aa->ao->l}{g:an->an}{K:an->Option (bn an l)}(h:dQ e r pd)
  (hk:∀r1,r1<:+r->dQ e r1 pd->aV e r0 (C (k r1 pd)) cv (K (e.st r1 pd))) (bq:∀st,(g st).2.2.2.2.1=st.2.2.2.2.1\/(g st).2.2.2.2.1=e.op:=by intro _;first|exact .inl rfl|exact .inr rfl):
  aV e r0 (C (Go.Eng.ae (bM x) (λt=>match t with
   | .eof=>b5 x
   | .word w true=>if l4 w then Go.Eng.ae (bU w.length) λ_=>k else bJ
   |_=>bJ) r pd)) cv (a_ (se (e.st r pd)) g K):=by
 cases b:bp r with
 |none=>rw[de (iG b),i.more];unfold se;exact((((kT e).none h b).bind λ_=> .inl rfl).bind bq).rG
 |some r'=>
  rw[aM (ch b)];have n:=dT b;have c:=h.mono n;have s:=kR _ _ _ (cV _) b;have hm:=(kT e).some h b
  have d:∀(m:ak α),(ar r'= .eof->m=b5 x)->(ar r'≠ .eof->m=bJ)->se (e.st r pd)=a_ (kC (e.st r' pd)) (λx=>x) (λy=>Empty.elim y)->aV e r0 (C (m r' pd)) cv (a_ (se (e.st r pd)) g K):=by
   intro m ad v z;rw[z];by_cases a:ar r'= .eof
   ·rw[ad a];unfold b5;rw[i.more];exact((((tn c s).1 a).bind λ_=> .inl rfl).bind bq).rG
   ·rw[v a];unfold bJ;rw[i.bad];exact⟨c.sfx,_,hI (hI ((tn c s).2 a))⟩
  cases a:ar r' with
  |word w p=>
   cases p with
   |true=>
    have u:w.length<=1000000:=by have:=(qj a).1.length_le;have:=eG c.sfx;have:=h.bZ;omega
    have A:=(qj a).1;by_cases aw:l4 w=true
    ·simp only;rw[bh aw];have B:se (e.st r pd)=some (.inr (e.st (r'.drop w.length) pd)):=by unfold se a8;refine(eZ hm).trans ?_;rw[a];simp only[jk,bw,g9,aU];rw[(yI w u).1,fX,bh trivial,aw];show some (Sum.inr (e.S,W (ax e.S r'+(w.length:Int)),pd,e.ne,e.op,e.j6))=_;obtain⟨q,rfl⟩:=A;rw[o0,ks h.bZ c.sfx];rfl
     rw[B,eZ rfl];exact hk _ ((lJ _ _).trans n) (c.mono (lJ _ _))
    ·simp only;rw[aO aw];refine d bJ (λf=>by grind) (λ_=>rfl) ?_;unfold se a8;refine(eZ hm).trans ?_;rw[a];simp only[jk,bw,g9,aU];have D:l4 w=false:=by grind
     rw[(yI w u).1,fX,bh trivial,D];rfl
   |false=>refine d bJ (λf=>by grind) (λ_=>rfl) ?_;unfold se a8;refine(eZ hm).trans ?_;rw[a];rfl
  |eof=>refine d (b5 x) (λ_=>rfl) (λf=>absurd a f) ?_;unfold se a8;refine(eZ hm).trans ?_;rw[a];rfl
  |line=>refine d bJ (λf=>by grind) (λ_=>rfl) ?_;unfold se a8;refine(eZ hm).trans ?_;rw[a];rfl
  |op o=>refine d bJ (λf=>by grind) (λ_=>rfl) ?_;unfold se a8;refine(eZ hm).trans ?_;rw[a];rfl
noncomputable def CD:an->Option (bn an an):=λy=>a_ (nh y [59]) (λx=>(x.1,x.2.1,y.2.2.1,x.2.2.2.1,y.2.2.2.2.1,x.2.2.2.2.2)) λz=>bif z.1 then some (.inr (z.2.1,W (z.2.2.1+1),y.2.2.1,z.2.2.2.2.1,y.2.2.2.2.1,z.2.2.2.2.2.2)) else
 a_ (lY (z.2.1,z.2.2.1,y.2.2.1,z.2.2.2.2.1,y.2.2.2.2.1,z.2.2.2.2.2.2)) (λx=>(x.1,x.2.1,y.2.2.1,x.2.2.2.1,y.2.2.2.2.1,x.2.2.2.2.2)) λu=>bif !(decide (u.1.1=1)) then a_ (kC (u.2.1,u.2.2.1,y.2.2.1,u.2.2.2.2.1,y.2.2.2.2.1,u.2.2.2.2.2.2)) (λx=>(x.1,x.2.1,y.2.2.1,x.2.2.2.1,y.2.2.2.2.1,x.2.2.2.2.2)) (λy=>Empty.elim y)
  else some (.inr (u.2.1,u.2.2.1,y.2.2.1,u.2.2.2.2.1,y.2.2.2.2.1,u.2.2.2.2.2.2))
section
variable{R:bg}{n:Nat}(hA:ts R n){e:cH}(bc:e.ne=30- (n:Int))
include hA bc
theorem akL:
  ∀(r:aa)(pd:ao),dQ e r pd->aV e r (pC (a7 false n) r pd) (λ_=>e.st) (fixF (vs R CD) bC (e.st r pd)):=by
 intro r pd h;unfold pC;refine aV.rep (en:=λ_ r pd=>e.st r pd) (λk s r1 c ad hk=>?_) bC () r pd (lI (lK (eG h.sfx) h.bZ)) h;unfold vs CD;refine aV.tst c3.k (kT e) ad λa I s2 b g=>?_;dsimp only;by_cases i:∃w p,ar a= .word w p
 ·obtain⟨w,p,i⟩:=i;rw[i];simp only[jk,bw,aJ];refine aV.iH c3.k ((Mg hA bc b g i).mono s2) (λ_=>rfl) λ_ B J C K L=>?_;obtain⟨D,E⟩:=yJ g i;have hl:B.length<r1.length:=by have:=vF (l8 false n) D E C;grind
  grind[aV.inl]
 ·have F:decide ((jk (ar a)).1=3)=false:=by grind[decide_eq_false_iff_not,Mf]
  simp only[F,aU];refine aV.dU ?_ (eZ ((rH e [59]).some b g));dsimp only;have aB:=(kT e).some b g;have l:∀(m:ak (Unit⊕Unit))(f:Unit->ak (Unit⊕Unit)),ar a≠ .line->ar a≠ .op [59]->(ar a= .eof->m=b5 [])->(ar a≠ .eof->m=bJ)->aV e r1 (cK f r1 (m a c)) (λ_=>e.st)
    (a_ (lY (e.st a c)) (λx=>(x.1,x.2.1,c,x.2.2.2.1,e.op,x.2.2.2.2.2)) λu=>bif !(decide (u.1.1=1)) then a_ (kC (u.2.1,u.2.2.1,c,u.2.2.2.2.1,e.op,u.2.2.2.2.2.2)) (λx=>(x.1,x.2.1,c,x.2.2.2.1,e.op,x.2.2.2.2.2)) (λy=>Empty.elim y) else some (.inr (u.2.1,u.2.2.1,c,u.2.2.2.2.1,e.op,u.2.2.2.2.2.2))):=by
   intro m f M N G H;refine aV.dU ?_ (eZ aB);have:decide ((jk (ar a)).1=1)=false:=by
    rw[Ga];cases d:ar a with
    |line=>grind
    |_=>simp[jk]
   simp only[this,e2,aJ];by_cases d:ar a= .eof
   ·rw[G d];exact(((tn b g).1 d).bind λ_=> .inr rfl).rG
   ·rw[H d];exact⟨b.sfx,_,hI ((tn b g).2 d)⟩
  cases d:ar a with
  |word w p=>grind
  |eof=>
   have:=l (b5 []) (λ_=>ae (bM []) λt=>match t with
    | .eof=>b5 []
    | .word _ _=>ae (cG (a7 false n)) λ_=>aX (.inl ())
    | .line=>aX (.inr ())
    | .op o=>if o=[59] then ae (bU 1) λ_=>aX (.inr ()) else bJ) (by grind) (by grind) (λ_=>rfl) (λv=>absurd d v)
   exact this
  |line=>
   refine aV.dU (y:=some (.inr (e.st a c))) ?_ ?_
   ·exact aV.inr s2 b rfl
   ·have j:((Tok.line==Tok.op [59]):Bool)=false:=by simp
    rw[j];simp only[aU];refine(eZ aB).trans ?_;rw[d];rfl
  |op o=>
   by_cases z:o=[59]
   ·subst z;simp only[beq_self_eq_true,aJ,cE];obtain⟨q,rfl⟩:=(il d).2.1;have A:q<:+[59]++q:=gS [59] q;refine aV.dU (y:=some (.inr (e.st q c))) ?_ ?_
    ·exact aV.inr (A.trans s2) (b.mono A) rfl
    ·show some (Sum.inr (e.S,W (ax e.S ([59]++q)+1),c,e.ne,e.op,e.j6))=_;have:=ks (w:=[59]) (t:=q) b.bZ b.sfx;rw[show(([59]:aa).length:Int)=1 from rfl] at this;rw[this];rfl
   ·have j:((Tok.op o==Tok.op [59]):Bool)=false:=by grind
    rw[j];simp only[aU,aO z];exact l bJ _ (by grind) (by grind) (λv=>by grind) (λ_=>rfl)
end
theorem oj{σ τ α β b:Type}{m:Option (bn σ α)}{f:σ->τ}{k:α->Option (bn τ β)}{K:β->Option (bn τ b)}:a_ (a_ m f k) (λx=>x) K=a_ m f (λa=>a_ (k a) (λx=>x) K):=by unfold a_;grind
theorem YV{R:bg}{J:an->Option (bn an an)}{K:an->Option (bn an an)}:∀(n:Nat)(x:an),fixF (vs R λy=>a_ (J y) (λx=>x) K) n x=a_ (fixF (vs R J) n x) (λx=>x) K
 |0,x=>rfl
 |n+1,x=>by
  rw[e7,e7];have a:=YV (R:=R) (J:=J) (K:=K) n;generalize fixF (vs R λy=>a_ (J y) (λx=>x) K) n=b at a;generalize fixF (vs R J) n=c at a;unfold vs;dsimp only;rw[oj];congr 1
  funext y
  cases decide (y.1.1=3) with
  |true=>simp_all[aJ,oj]
  |false=>rfl
theorem aV.YW{α β b:Type}{m:ak α}{x:aa}{k:α->ak β}{e:cH}{r0 r:aa}{pd:ao}{cv:β->aa->ao->b}{y:Option (bn an b)}(h:aV e r0 (Go.Eng.ae m k r pd) cv y):aV e r0 (Go.Eng.ae (m.aK x) k r pd) cv y:=by
 unfold Go.Eng.ae ak.aK at*;cases hm:m r pd with
 |ok a r1 c=>grind
 |more op nd ds=>rw[hm] at h;exact h
 |bad q=>grind
 |deep q=>trivial
theorem akM(K:an->Option (bn an an))(y:an):a_ (CD y) (λx=>x) K=a_ (nh y [59]) (λx=>(x.1,x.2.1,y.2.2.1,x.2.2.2.1,y.2.2.2.2.1,x.2.2.2.2.2)) λz=>bif z.1 then K (z.2.1,W (z.2.2.1+1),y.2.2.1,z.2.2.2.2.1,y.2.2.2.2.1,z.2.2.2.2.2.2) else
   a_ (lY (z.2.1,z.2.2.1,y.2.2.1,z.2.2.2.2.1,y.2.2.2.2.1,z.2.2.2.2.2.2)) (λx=>(x.1,x.2.1,y.2.2.1,x.2.2.2.1,y.2.2.2.2.1,x.2.2.2.2.2)) λu=>bif !(decide (u.1.1=1)) then a_ (kC (u.2.1,u.2.2.1,y.2.2.1,u.2.2.2.2.1,y.2.2.2.2.1,u.2.2.2.2.2.2)) (λx=>(x.1,x.2.1,y.2.2.1,x.2.2.2.1,y.2.2.2.2.1,x.2.2.2.2.2)) (λy=>Empty.elim y)
    else K (u.2.1,u.2.2.1,y.2.2.1,u.2.2.2.2.1,y.2.2.2.2.1,u.2.2.2.2.2.2):=by
 unfold CD;rw[oj];congr 1
 funext z
 cases z.1 with
 |true=>rfl
 |false=>
  simp only[aU];rw[oj];congr 1
  funext u
  cases decide (u.1.1=1) with
  |true=>rfl
  |false=>simp only[e2,aJ];grind[oj,Empty.elim]
theorem akN{R:bg}{n:Nat}(hA:ts R n)(bk:w9 R n){e:cH}(bc:e.ne=30- (n:Int)):qq e (pD (aR false n) (a7 false n)) (λ_=>e.st) (D1 R):=by
 intro r pd h;unfold D1;refine akK (C:=λx=>x) c3.id h λr1 s1 E=>?_;refine aV.YW ?_;rw[kr];refine aV.tst (C:=λx=>x) c3.id (rH e [59]) E λk U s2 g V=>?_;dsimp only;rw[yz];by_cases l:ar k= .op [59]
 ·rw[bh l];have m:((ar k==Tok.op [59]):Bool)=true:=by grind
  rw[m];simp only[aJ];obtain⟨q,rfl⟩:=(il l).2.1;have o:q<:+[59]++q:=gS [59] q;have F:W (ax e.S ([59]++q)+1)=ax e.S q:=ks (w:=[59]) g.bZ g.sfx;rw[kr];show aV e r (ae (ae cS λ_=>aX ()) (λ_=>iF (aR false n) eg) q pd) _ (a_ (k6 (e.S,W (ax e.S ([59]++q)+1),pd,e.ne,e.op,e.j6)) _ _);rw[F,kr];refine aV.An (C:=λx=>x) c3.id (g.mono o) (o.trans (s2.trans s1)) λb p c _ s t=>?_;dsimp only;refine aV.dU ((Sq bk bc _ p c t).mono (s.trans (o.trans (s2.trans s1)))) ?_;generalize s9 R (e.st p c)=y;unfold a_;grind
 ·rw[aO l];have m:((ar k==Tok.op [59]):Bool)=false:=by grind
  rw[m];simp only[aU];rw[kr];refine aV.An (C:=λx=>x) c3.id g (s2.trans s1) λb p c _ s t=>?_;dsimp only;unfold a8
  have A:∀a d,a<:+r->dQ e a d->aV e r (iF (aR false n) eg a d) (λ_=>e.st) (a_ (s9 R (e.st a d)) (λx=>x) λy=>some (.inr y)):=by intro a d i f;refine aV.dU ((Sq bk bc _ a d f).mono i) ?_;generalize s9 R (e.st a d)=y;unfold a_;grind
  have B:=s.trans (s2.trans s1);rw[kr];refine aV.tst (C:=λx=>x) c3.id (q4 e _) t λa X i f G=>?_;dsimp only;rw[yz];by_cases j:cA (ar a) fl=true
  ·rw[bh j];have u:cA (ar a) [105,110]=true:=j;rw[u];simp only[aJ];have v:ar a= .word [105,110] true:=by grind[cA]
   have H:ni (e.st a c) [105,110]=some (.inr (e.st (a.drop 2) c)):=by
    have:=Iz [105,110] f;have I:cW [105,110] a c= .ok () (a.drop 2) c:=by unfold cW mB;rw[aM (ch G),v];rfl
    rw[I] at this;exact this.2.2
   refine aV.dU ?_ (eZ H);have aG:a.drop 2<:+a:=lJ _ _;rw[kr];show aV e r (ae (ae (pC (a7 false n)) λ_=>ae cS λ_=>aX ()) (λ_=>iF (aR false n) eg) (a.drop 2) c) _ _;rw[kr]
   have L:∀(J K:an->Option (bn an an))(x:an),(∀y,J y=a_ (CD y) (λx=>x) K)->fixF (vs R J) bC x=a_ (fixF (vs R CD) bC x) (λx=>x) K:=by intro J K x M;have:J=λy=>a_ (CD y) (λx=>x) K:=funext M;grind[YV]
   refine aV.dU ?_ (L _ (λz=>a_ (k6 z) (λx=>x) λy=>a_ (s9 R y.2) (λx=>x) λy=>some (.inr y)) _ (λy=>(akM (λz=>a_ (k6 z) (λx=>x) λy=>a_ (s9 R y.2) (λx=>x) λy=>some (.inr y)) y).symm));have N:=aG.trans (i.trans B);refine aV.iH (C:=λx=>x) c3.id ((akL hA bc (a.drop 2) c (f.mono aG)).mono N) (λ_=>rfl) λ_ Y Z _ D O=>?_;rw[kr];refine aV.An (C:=λx=>x) c3.id O D λb P Q _ S T=>?_;exact A P Q (S.trans D) T
  ·rw[aO j];have u:cA (ar a) [105,110]=false:=F6.2 j;rw[u];simp only[aU];exact A a c (i.trans B) f
theorem YX{J K:an->Option (bn an an)}{L:(an->Option (bn an an))->(an->Option (bn an an))->an->Option (bn an an)}
  (bk:∀(a b:an->Option (bn an an)),(∀x,a x=a_ (b x) (λx=>x) K)->∀x,L (λy=>a_ (J y) (λx=>x) K) a x=a_ (L J b x) (λx=>x) K):
  ∀(n:Nat)(x:an),fixF (L λy=>a_ (J y) (λx=>x) K) n x=a_ (fixF (L J) n x) (λx=>x) K
 |0,x=>rfl
 |n+1,x=>by rw[e7,e7];exact bk _ _ (YX bk n) x
noncomputable def yK:an->Option (bn an an):=λy=>a_ (r9 y [41]) (λx=>(x.1,x.2.1,y.2.2.1,x.2.2.2.1,y.2.2.2.2.1,x.2.2.2.2.2)) λz=>some (.inr (z.1,z.2.1,y.2.2.1,z.2.2.2.1,y.2.2.2.2.1,z.2.2.2.2.2))
section
variable{R:bg}{n:Nat}(hA:ts R n){e:cH}(bc:e.ne=30- (n:Int))
include hA bc
theorem akP{α s u:Type}{C:dD α->dD s}(d:c3 C){r0 r:aa}{pd:ao}{x y:aa}{k:Unit->ak α}{cv:s->aa->ao->u}{K:an->Option (bn an u)}(h:dQ e r pd)(h0:r<:+r0)
  (hk:∀r1 i,r1<:+r->r1.length<r.length->dQ e r1 i->aV e r0 (C (k () r1 i)) cv (K (e.st r1 i))):
  aV e r0 (C (Go.Eng.ae (bM x) (λt=>match t with
   | .eof=>b5 x
   | .word _ _=>Go.Eng.ae ((cG (a7 false n)).aK y) k
   |_=>bJ) r pd)) cv (a_ (k8 R (e.st r pd)) (λx=>x) K):=by
 have b:=(R6 hA bc x r pd h).mono h0;unfold jL at b;unfold Go.Eng.ae at b⊢;cases aB:bM x r pd with
 |ok t r1 i=>
  rw[aB] at b;simp only at b⊢;obtain⟨m,rfl,rfl⟩:=IC aB;have v:=kR _ _ _ (cV _) m;cases j:ar r1 with
  |word w p=>
   rw[j] at b;simp only at b⊢;unfold ak.aK;cases l:cG (a7 false n) r1 i with
   |ok a z A=>rw[l] at b;obtain⟨c,f,B⟩:=b;rw[eZ B];obtain⟨D,E⟩:=yJ v j;have F:=vF (l8 false n) D E l;have G:=(dT m).length_le;exact hk z A (((aq.word (l8 false n)).sfx l).trans (dT m)) (by omega) f
   |more op nd ds=>rw[l] at b;obtain⟨st,c,f⟩:=b;simp only;rw[d.more];exact⟨st,hI c,f⟩
   |bad q=>rw[l] at b;obtain⟨g,st,c⟩:=b;simp only;rw[d.bad];exact⟨g,st,hI c⟩
   |deep q=>simp only;rw[d.deep];trivial
  |eof=>rw[j] at b;unfold b5 at b⊢;simp only at b⊢;obtain⟨st,c,f⟩:=b;rw[d.more];exact⟨st,hI c,f⟩
  |line=>rw[j] at b;unfold bJ at b⊢;obtain⟨g,st,c⟩:=b;simp only;rw[d.bad];exact⟨g,st,hI c⟩
  |op o=>rw[j] at b;unfold bJ at b⊢;obtain⟨g,st,c⟩:=b;simp only;rw[d.bad];exact⟨g,st,hI c⟩
 |more op nd ds=>rw[aB] at b;obtain⟨st,c,f⟩:=b;simp only;rw[d.more];exact⟨st,hI c,f⟩
 |bad q=>rw[aB] at b;obtain⟨g,st,c⟩:=b;simp only;rw[d.bad];exact⟨g,st,hI c⟩
 |deep q=>simp only;rw[d.deep];trivial
theorem akQ:qq e (kQ (a7 false n)) (λ_=>e.st) (λx=>a_ (k8 R x) (λx=>x) λy=>fixF (vr R yK) bC y):=by
 have j:∀(N:Nat)(r:aa)(pd:ao),r.length<N->dQ e r pd->aV e r (kQ (a7 false n) r pd) (λ_=>e.st) (a_ (k8 R (e.st r pd)) (λx=>x) λy=>fixF (vr R yK) N y):=by
  intro N;induction N with
  |zero=>omega
  |succ N v=>
   intro r pd O h;unfold kQ;rw[cm];refine akP hA bc c3.k h fM λr1 b s1 P E=>?_;rw[e7];generalize hk:fixF (vr R yK) N=k at v;unfold vr yK;refine aV.tst c3.k (rH e [124]) E λa Q s2 g A=>?_;dsimp only;have B:=s2.trans s1;have l:∀(m:ak (Unit⊕Unit))(f:Unit->ak (Unit⊕Unit))(c:Bool),ar a≠ .op [41]->c=false->(ar a= .eof->m=b5 [41])->(ar a≠ .eof->m=bJ)->aV e r (cK f r (m a b)) (λ_=>e.st)
     (bif c then a_ (k8 R (e.S,W (ax e.S a+1),b,e.ne,e.op,e.j6)) (λx=>x) (λy=>k y) else a_ (r9 (e.st a b) [41]) (λx=>(x.1,x.2.1,b,x.2.2.2.1,e.op,x.2.2.2.2.2)) λz=>some (.inr (z.1,z.2.1,b,z.2.2.2.1,e.op,z.2.2.2.2.2))):=by
    intro m f c F G H I;subst G;simp only[aU];have i:=L7 [41] g;have bc:∀q,ar a=q->q≠ .op [41]:=λq s=>s▸F
    unfold ji mB at i;rw[aM (ch A)] at i;by_cases d:ar a= .eof
    ·rw[H d];rw[bh d] at i;obtain⟨st,u,S⟩:=i;exact⟨_,hI u,by simp⟩
    ·rw[I d];rw[aO d,aO (by grind)] at i;obtain⟨J,st,u⟩:=i;exact⟨J,_,hI u⟩
   cases d:ar a with
   |word w p=>exact l bJ _ _ (by grind) (by simp) (λt=>by grind) (λ_=>rfl)
   |eof=>exact l (b5 [41]) _ _ (by grind) (by simp) (λ_=>rfl) (λt=>absurd d t)
   |line=>exact l bJ _ _ (by grind) (by simp) (λt=>by grind) (λ_=>rfl)
   |op o=>
    by_cases ad:o=[124]
    ·subst ad;simp only[beq_self_eq_true,aJ,cE];obtain⟨q,rfl⟩:=(il d).2.1;have s:q<:+[124]++q:=gS [124] q;have K:W (ax e.S ([124]++q)+1)=ax e.S q:=ks (w:=[124]) g.bZ g.sfx;have hl:q.length<r.length:=by grind
     have bf:=v q b (by omega) (g.mono s);show aV e r (cK _ r (ae (bU 1) (λ_=>aX (.inl ())) ([124]++q) b)) _ (a_ (k8 R (e.S,W (ax e.S ([124]++q)+1),b,e.ne,e.op,e.j6)) _ _);rw[K];exact aV.inl hl (bf.mono (s.trans B))
    ·by_cases C:o=[41]
     ·subst C;have L:((Tok.op [41]==Tok.op [124]):Bool)=false:=by simp
      rw[L];simp only[aU,cE,show¬(([41]:aa)=[124]) by decide,cn];obtain⟨D,M⟩:=Yw g A d;refine aV.dU (y:=some (.inr (e.st (a.drop 1) b))) ?_ ?_
      ·exact aV.inr (D.trans B) (g.mono D) rfl
      ·exact(eZ M).trans rfl
     ·simp only[aO ad,aO C];exact l bJ _ _ (by grind) (by grind) (λt=>by grind) (λ_=>rfl)
 intro r pd h;exact j bC r pd (lI (lK (eG h.sfx) h.bZ)) h
end
def IK(l:dS)(D:ak Unit):ak (Unit⊕Unit):=ae (bM []) λt=>if t= .eof then b5 [] else if cA t eo then ae (bU 4) λ_=>aX (.inr ()) else
 ae ((if t= .op [40] then bU 1 else aX ())) λ_=>ae (kQ D) λ_=>ae (l.ls .item true) λ_=>ae (bM []) λt=>if t= .op [59,59] then ae (bU 2) λ_=>aX (.inl ()) else aX (.inl ())
def uK(l:dS)(D:ak Unit):Unit->ak (Unit⊕Unit):=λ_=>ae cS λ_=>IK l D
theorem akR(l:dS)(D:ak Unit):nu l D=b8 (uK l D) ():=rfl
noncomputable def IL:an->Option (bn an an):=λy=>a_ (ni y eo) (λx=>(x.1,x.2.1,y.2.2.1,x.2.2.2.1,y.2.2.2.2.1,x.2.2.2.2.2)) λz=>some (.inr (z.1,z.2.1,y.2.2.1,z.2.2.2.1,y.2.2.2.2.1,z.2.2.2.2.2))
theorem Mr{r:aa}{pd:ao}(a:bp r=some r)(b:ar r≠ .line):cS r pd= .ok false r pd:=by rw[qk,cm,qZ a b];rfl
theorem Ap(fr:Bool)(n:Nat):∃c2,(aR fr n).ls=λc no=>oe c2 c no:=by
 cases n with
 |zero=>exact⟨_,rfl⟩
 |succ n=>exact⟨_,rfl⟩
theorem akS{e:cH}{v:aa}{pd:ao}{w:aa}(h:dQ e v pd)(b:bp v=some v)(c:ar v= .word w true):cW w v pd= .ok () (v.drop w.length) pd/\v.drop w.length<:+v/\ni (e.st v pd) w=some (.inr (e.st (v.drop w.length) pd)):=by
 have a:cW w v pd= .ok () (v.drop w.length) pd:=by unfold cW mB;rw[aM (ch b),c];simp[cA,bU]
 have:=Iz w h;rw[a] at this;exact⟨a,this.1,this.2.2⟩
theorem CE{σ α:Type}(y:Option (bn σ α)):a_ y (λx=>x) (λa=>some (.inr a))=y:=by unfold a_;grind
section
variable{R:bg}{n:Nat}(hA:ts R n)(bk:w9 R n){e:cH}(bc:e.ne=30- (n:Int))
include hA bk bc
theorem akT:∀(N:Nat)(r0 r:aa)(pd:ao),r<:+r0->r.length<N->dQ e r pd->aV e r0 (cK (uK (aR false n) (a7 false n)) r0 (IK (aR false n) (a7 false n) r pd)) (λ_=>e.st) (fixF (Hf R IL) N (e.st r pd)):=by
 intro N;induction N with
 |zero=>omega
 |succ N M=>
  intro r0 r pd Y nS h;rw[e7];generalize fixF (Hf R IL) N=k at M;unfold Hf a8;unfold IK;refine aV.tst c3.k (q4 e _) h λr1 qg s1 l C=>?_;dsimp only;have O:=s1.trans Y
  have P:∀(c:aa)(v:ao),c<:+r0->dQ e c v->bp c=some c->cA (ar c) eo=true->aV e r0 (cK (uK (aR false n) (a7 false n)) r0 (ae (bU 4) (λ_=>aX (.inr ())) c v)) (λ_=>e.st) (IL (e.st c v)):=by
   intro c v s2 A Z ht;have uI:ar c= .word eo true:=by grind[cA]
   obtain⟨_,Q,aY⟩:=akS A Z uI;unfold IL;rw[eZ aY];exact aV.inr (Q.trans s2) (A.mono Q) rfl
  by_cases he:cA (ar r1) eo=true
  ·have aw:ar r1≠ .eof:=by intro o;rw[o] at he;cases he
   have D:cA (ar r1) [101,115,97,99]=true:=he;rw[aO aw,bh he,D];simp only[g9,aU];exact P r1 pd O l C he
  have D:cA (ar r1) [101,115,97,99]=false:=F6.2 he;rw[D,aO he];simp only[e2,aJ];refine aV.dU ?_ (eZ ((rH e [40]).some l C));dsimp only;have S:∀c,c<:+r1->dQ e c pd->aV e r0 (cK (uK (aR false n) (a7 false n)) r0 (ae (kQ (a7 false n)) (λ_=>ae ((aR false n).ls .item true) λ_=>ae (bM []) λt=>if t= .op [59,59] then ae (bU 2) λ_=>aX (.inl ()) else aX (.inl ())) c pd)) (λ_=>e.st)
    (a_ (k8 R (e.st c pd)) (λx=>x) λy=>fixF (vr R (λy=>a_ (yK y) (λx=>x) λBG=>(a_ (R.kl BG 8 true) (λx=>x) λ(V3,i)=>(a_ (nh i ([59,59]:aa)) (λx=>(x.1,x.2.1,i.2.2.1,x.2.2.2.1,i.2.2.2.2.1,x.2.2.2.2.2)) λ(BH,f)=>(bif(!BH) then IL (f.1,f.2.1,i.2.2.1,f.2.2.2.1,i.2.2.2.2.1,f.2.2.2.2.2) else(a_ (k6 (f.1,(W (f.2.1+2)),i.2.2.1,f.2.2.2.1,i.2.2.2.2.1,f.2.2.2.2.2)) (λx=>x) λ(V4,m)=>k (m.1,m.2.1,m.2.2.1,m.2.2.2.1,m.2.2.2.2.1,m.2.2.2.2.2))))))) bC y):=by
   intro c s2 A
   have a1:∀(K:an->Option (bn an an)),(a_ (k8 R (e.st c pd)) (λx=>x) λy=>fixF (vr R (λy=>a_ (yK y) (λx=>x) K)) bC y)=a_ (a_ (k8 R (e.st c pd)) (λx=>x) λy=>fixF (vr R yK) bC y) (λx=>x) K:=by
    intro K;rw[oj];congr 1
    funext y
    refine YX (L:=vr R) (λcq cC hk x=>?_) bC y;unfold vr;dsimp only;rw[oj];congr 1
    funext z
    cases z.1 with
    |true=>simp_all[aJ,oj]
    |false=>rfl
   rw[a1];refine aV.iH c3.k ((akQ hA bc c pd A).mono (s2.trans O)) (λ_=>rfl) λ_ B b2 Ms iX eT=>?_;have ET:=Rs (l8 false n) Ms;have arM:B.length<r.length:=by grind
   have arN:B.length<r0.length:=by grind
   obtain⟨c2,e1⟩:=Ap false n;have UU:=bk.im e .item true (by simp) bc B b2 eT;refine aV.iH c3.k (UU.mono iX) (λ_=>rfl) λa d g E T p=>?_;dsimp only;have arO:=((qY false n).ls .item true).sfx E;rw[e1] at E;obtain⟨s,t4⟩:=yF (by simp) E;rw[aM (ch s)];refine aV.dU ?_ (eZ ((rH e [59,59]).some p s));dsimp only;by_cases F:ar d= .op [59,59]
   ·rw[bh F];have j:((ar d==Tok.op [59,59]):Bool)=true:=by grind
    rw[j];simp only[g9,aU];obtain⟨q,rfl⟩:=(il F).2.1;have u:q<:+[59,59]++q:=gS [59,59] q;have G:W (ax e.S ([59,59]++q)+2)=ax e.S q:=ks (w:=[59,59]) p.bZ p.sfx;have arP:q.length<B.length:=by grind
    show aV e r0 (cK _ r0 (.ok (.inl ()) q g)) _ (a_ (k6 (e.S,W (ax e.S ([59,59]++q)+2),g,e.ne,e.op,e.j6)) _ _);rw[G];have H:=p.mono u;have I:cK (uK (aR false n) (a7 false n)) r0 (.ok (.inl ()) q g)=b8 (uK (aR false n) (a7 false n)) () q g:=by show(if q.length<r0.length then _ else _)=_;grind
    rw[I,cm];refine aV.mono ?_ ((u.trans T));unfold uK;refine aV.An c3.k H fM λb eL lj _ mL mj=>?_;exact M q eL lj mL (by grind) mj
   ·rw[aO F];have j:((ar d==Tok.op [59,59]):Bool)=false:=by grind
    rw[j];simp only[e2,aJ];have U:cA (ar d) eo=true:=by grind[dG]
    have V:ar d≠ .line/\ar d≠ .eof:=by grind[ar,eo,cA]
    have nz:d.length<r0.length:=by grind
    have I:cK (uK (aR false n) (a7 false n)) r0 (aX (.inl ()) d g)=cK (uK (aR false n) (a7 false n)) d (ae (bU 4) (λ_=>aX (.inr ())) d g):=by show(if d.length<r0.length then _ else _)=_;rw[bh nz,cm];congr 1;show ae cS (λ_=>IK (aR false n) (a7 false n)) d g=_;rw[aM (Mr s V.1)];unfold IK;rw[aM (ch s),aO V.2,bh U]
    rw[I];have:=P d g T p s U;exact this
  by_cases aB:ar r1= .op [40]
  ·have j:((ar r1==Tok.op [40]):Bool)=true:=by grind
   rw[bh aB,aO (by grind),j];simp only[cond_true];obtain⟨q,rfl⟩:=(il aB).2.1;have u:q<:+[40]++q:=List.suffix_append [40] q;have G:W (ax e.S ([40]++q)+1)=ax e.S q:=ks (w:=[40]) l.bZ l.sfx;have:=S q u (l.mono u);show aV e r0 (cK _ r0 (ae (kQ (a7 false n)) _ q pd)) _ (a_ (k8 R (e.S,W (ax e.S ([40]++q)+1),pd,e.ne,e.op,e.j6)) _ _);rw[G];refine aV.dU this ?_;congr 1
   funext y
   congr 2
   funext z
   unfold yK;rw[oj];rfl
  ·have j:((ar r1==Tok.op [40]):Bool)=false:=by grind
   rw[j];simp only[aU];have J:=S r1 fM l;have bx:∀(y X:Option (bn an an)),X=y->aV e r0 (cK (uK (aR false n) (a7 false n)) r0 (ae (kQ (a7 false n)) (λ_=>ae ((aR false n).ls .item true) λ_=>ae (bM []) λt=>if t= .op [59,59] then ae (bU 2) λ_=>aX (.inl ()) else aX (.inl ())) r1 pd)) (λ_=>e.st) y->
     aV e r0 (cK (uK (aR false n) (a7 false n)) r0 ((if ar r1= .eof then b5 [] else ae (if ar r1= .op [40] then bU 1 else aX ()) λ_=>ae (kQ (a7 false n)) λ_=>ae ((aR false n).ls .item true) λ_=>ae (bM []) λt=>if t= .op [59,59] then ae (bU 2) λ_=>aX (.inl ()) else aX (.inl ()):ak (Unit⊕Unit)) r1 pd)) (λ_=>e.st) X:=by
    rintro y _ rfl o;by_cases hf:ar r1= .eof
    ·rw[bh hf]
     have aB:∃nd ds,kQ (a7 false n) r1 pd= .more [] nd ds:=by unfold kQ;rw[cm,aM (ch C),hf];exact⟨_,_,rfl⟩
     obtain⟨nd,ds,aB⟩:=aB;rw[de aB] at o;exact o
    ·rw[aO hf,aO aB];exact o
   refine bx _ _ ?_ J;congr 1
   funext y
   congr 2
   funext z
   unfold yK;rw[oj];rfl
theorem akW:qq e (qV (aR false n) (a7 false n)) (λ_=>e.st) (DY R):=by
 intro r pd h;unfold DY;have a:=R6 hA bc ([120,32]++fl++[10]++eo) r pd h;unfold qV;unfold jL at a;cases aB:bM ([120,32]++fl++[10]++eo) r pd with
 |more op nd ds=>rw[de aB] at a⊢;obtain⟨st,c,i⟩:=a;exact⟨st,hI c,i⟩
 |bad q=>rw[g1 aB] at a⊢;obtain⟨g,st,c⟩:=a;exact⟨g,st,hI c⟩
 |deep q=>
  have:ae (bM ([120,32]++fl++[10]++eo)) (λt=>match t with
   | .eof=>b5 ([120,32]++fl++[10]++eo)
   | .word _ _=>cG (a7 false n)
   |_=>bJ) r pd= .deep q:=by grind[ae]
  unfold ae;rw[aB];trivial
 |ok t r1 K=>
  rw[aM aB] at a⊢;obtain⟨A,rfl,rfl⟩:=IC aB;have s1:=dT A;cases k:ar r1 with
  |eof=>rw[k] at a;obtain⟨st,c,i⟩:=a;exact⟨st,hI c,i⟩
  |line=>rw[k] at a;obtain⟨g,st,c⟩:=a;exact⟨g,st,hI c⟩
  |op o=>rw[k] at a;obtain⟨g,st,c⟩:=a;exact⟨g,st,hI c⟩
  |word w p=>
   rw[k] at a;dsimp only at a⊢;refine aV.YW ?_;rw[kr];refine aV.iH (C:=λx=>x) c3.id a (λ_=>rfl) λ_ L M _ s2 B=>?_;rw[kr];refine aV.An (C:=λx=>x) c3.id B s2 λb y m _ D s=>?_;dsimp only;rw[kr];have E:=D.trans s2;cases j:bp y with
   |none=>rw[de (iG j)];unfold ni;exact((((q4 e _).none s j).bind λ_=> .inl rfl).bind λ_=> .inr rfl).rG
   |some d=>
    rw[aM (ch j)];have z:=dT j;have F:=s.mono z;have N:=kR _ _ _ (cV _) j;have f:=Iz [105,110] s;have he:cW [105,110] y m=(if ar d= .eof then b5 [] else if cA (ar d) [105,110] then bU 2 else bJ:ak Unit) d m:=by unfold cW mB;grind[aM,ch]
    rw[he] at f;by_cases ad:ar d= .eof
    ·rw[bh ad] at f⊢;obtain⟨st,c,i⟩:=f;exact⟨_,hI c,by simp;rfl⟩
    rw[aO ad] at f⊢;rw[show ae (aX (ar d)) (λt=>if cA t fl=true then ae (bU 2) λ_=>(nu (aR false n) (a7 false n)).aK (10::eo) else bJ)=(if cA (ar d) fl=true then ae (bU 2) λ_=>(nu (aR false n) (a7 false n)).aK (10::eo) else bJ) from rfl];by_cases l:cA (ar d) fl=true
    ·have u:cA (ar d) [105,110]=true:=l;rw[bh u] at f;rw[bh l];obtain⟨c,i,G⟩:=f;refine aV.dU ?_ (eZ G);have aG:d.drop 2<:+d:=lJ _ _;show aV e r ((nu (aR false n) (a7 false n)).aK (10::eo) (d.drop 2) m) _ _;refine aV.aK ?_;rw[akR,cm];refine aV.mono ?_ (aG.trans (z.trans E));unfold uK;refine aV.An c3.k (F.mono aG) fM λb H I _ J v=>?_;have:=akT hA bk bc bC (d.drop 2) H I J (lI (lK (eG v.sfx) v.bZ)) v;exact this
    ·have u:¬cA (ar d) [105,110]=true:=l;rw[aO u] at f;rw[aO l];obtain⟨g,st,c⟩:=f;exact⟨g,_,hI c⟩
end
theorem Y2{t:Tok}(h:hv t=true):(jk t).2.1=mC t/\0<(mC t).length:=by
 cases t with
 |eof=>cases h
 |line=>cases h
 |op o=>
  have:o=[40]:=by grind[hv]
  subst this;decide
 |word w p=>
  cases p with
  |false=>cases h
  |true=>
   refine⟨rfl,?_⟩;cases w with
   |nil=>exact absurd h (by decide)
   |cons a b=>simp[mC]
def CF(l:dS)(t:Tok):ak Unit:=match t with
 | .op _=>ae ((l.ls .paren false).aK [41]) λ_=>ji [41]
 | .word w _=>
  if w=[123] then ae ((l.ls .qU false).aK [10,125]) λ_=>cW [125]
  else if w=mh then qd l
  else if w=nr then pD l l.dl
  else if w=pA then qV l l.dl
  else ae ((l.ls .pB false).aK eg) λ_=>iF l eg
 |_=>bJ
theorem Y3{l:dS}{t:Tok}(h:hv t=true)(r:aa)(pd:ao):g0 l t r pd=CF l t (r.drop (mC t).length) pd:=by
 cases t with
 |eof=>cases h
 |line=>cases h
 |op o=>rfl
 |word w p=>rfl
theorem Y4{R:bg}{n:Nat}(aw:n<=30)(hA:∀m,n=m+1->ts R m/\w9 R m){e:cH}(bc:e.ne=30- (n:Int)){r:aa}{pd:ao}(h:dQ e r pd)(K:bp r=some r)(aF:hv (ar r)=true):
  aV e r ((aR false n).cp (ar r) r pd) (λ_=>e.st) (BK R (e.st r pd)):=by
 cases n with
 |zero=>trivial
 |succ m=>
  obtain⟨E,g⟩:=hA m rfl;obtain⟨L,Sg⟩:=Y2 aF;have M:mC (ar r)<+:r:=by
   cases b:ar r with
   |eof=>rw[b] at aF;cases aF
   |line=>rw[b] at aF;cases aF
   |op o=>
    rw[b] at aF;have:o=[40]:=by grind[hv]
    subst this;exact(il b).2.1
   |word w p=>
    rw[b] at aF;cases p with
    |false=>cases aF
    |true=>exact(qj b).1
  unfold BK a8;refine aV.dU ?_ (eZ ((kT e).some h K));dsimp only;rw[L];generalize l:mC (ar r)=x at*;have N:=Mb (p:=ax e.S r) (x:=x) h (by omega) (by omega);refine aV.dU ?_ (eZ N);show aV e r ((g0 (aR false m) (ar r)).named (mC (ar r)) r pd) _ _;rw[l];obtain⟨q,rfl⟩:=M;have d:q<:+x++q:=gS x q;have hl:q.length<(x++q).length:=by grind
  have O:W (ax e.S (x++q)+(x.length:Int))=ax e.S q:=ks h.bZ h.sfx;have j:=h.fj (x:=x) d hl;have P:(((e.fj x).st (x++q) pd).1,(W (((e.fj x).st (x++q) pd).2.1+(x.length:Int))),((e.fj x).st (x++q) pd).2.2.1,((e.fj x).st (x++q) pd).2.2.2.1,((e.fj x).st (x++q) pd).2.2.2.2.1,((e.fj x).st (x++q) pd).2.2.2.2.2)=(e.fj x).st q pd:=by show(e.S,W (ax e.S (x++q)+(x.length:Int)),pd,e.ne+1,e.op++[x],e.j6)=_;rw[O];rfl
  rw[P];have i:(e.fj x).ne=30- (m:Int):=by show e.ne+1=_;omega
  have Q:g0 (aR false m) (ar (x++q)) (x++q) pd=CF (aR false m) (ar (x++q)) q pd:=by grind[Y3,List.drop_left]
  have f:∀(y:Option (bn an an))(z:Option (bn an an)),aV (e.fj x) (x++q) (CF (aR false m) (ar (x++q)) q pd) (λ_=>(e.fj x).st) y->z=a_ y (λx=>x) (λy=>au (uc y) λy=>some (.inr y))->aV e (x++q) ((g0 (aR false m) (ar (x++q))).named x (x++q) pd) (λ_=>e.st) z:=by
   rintro y _ F rfl;rw[<-Q] at F;have k:=F.named;cases hk:((g0 (aR false m) (ar (x++q))).named x) (x++q) pd with
   |ok a r1 S=>rw[hk] at k;obtain⟨s,t,T⟩:=k;refine⟨s,t.out,?_⟩;rw[eZ T];exact(aQ (Mc (r:=r1) (pd:=S) (x:=x) h.w7 (show 0<=e.ne by omega) (by omega))).trans rfl
   |more op nd ds=>rw[hk] at k;obtain⟨st,s,t⟩:=k;exact⟨st,hI s,t⟩
   |bad U=>rw[hk] at k;obtain⟨s,st,t⟩:=k;exact⟨s,st,hI t⟩
   |deep U=>trivial
  have G:(aR false m).dl=a7 false m:=w8 false m;cases b:ar (x++q) with
  |eof=>rw[b] at aF;cases aF
  |line=>rw[b] at aF;cases aF
  |op o=>
   rw[b] at aF f l;have v:x=[40]:=l.symm;subst v;simp only[bw,aJ];refine f (a_ (R.kl ((e.fj [40]).st q pd) 1 false) (λx=>x) λy=>a_ (r9 y.2 [41]) (λx=>(x.1,x.2.1,y.2.2.2.1,x.2.2.2.1,y.2.2.2.2.2.1,x.2.2.2.2.2)) λz=>some (.inr (z.1,z.2.1,y.2.2.2.1,z.2.2.2.1,y.2.2.2.2.2.1,z.2.2.2.2.2))) _ ?_ ?_
   ·refine aV.ls (c:= .paren) (C:=λx=>x) c3.id g i j d λa A B s2 u=>?_;exact aV.akA u (s2.trans d) λV=>rfl
   ·rw[oj];congr 1
    funext y
    rw[oj];rfl
  |word w p=>
   rw[b] at aF f l;have v:x=w:=l.symm;subst v;have D:qb x=true:=by
    cases p with
    |true=>exact aF
    |false=>cases aF
   have X:decide (x=[40])=false:=by rw[Ga];rintro rfl;exact absurd D (by decide)
   simp only[X,aU];by_cases ad:x=[123]
   ·subst ad;simp only[bw,aJ];refine f (a_ (R.kl ((e.fj [123]).st q pd) 2 false) (λx=>x) λy=>a_ (ni y.2 [125]) (λx=>(x.1,x.2.1,y.2.2.2.1,x.2.2.2.1,y.2.2.2.2.2.1,x.2.2.2.2.2)) λz=>some (.inr (z.1,z.2.1,y.2.2.2.1,z.2.2.2.1,y.2.2.2.2.2.1,z.2.2.2.2.2))) _ ?_ ?_
    ·refine aV.ls (c:= .qU) (C:=λx=>x) c3.id g i j d λa A B s2 u=>?_;exact aV.YQ u (s2.trans d) λV=>rfl
    ·rw[oj];congr 1
     funext y
     rw[oj];rfl
   simp only[ad,bF,aU];by_cases H:x=mh
   ·subst H;rw[show decide (mh=[105,102])=true from rfl];simp only[aJ];refine f (D3 R ((e.fj mh).st q pd)) _ ((akG g i q pd j).mono d) ?_;rfl
   have Y:decide (x=[105,102])=false:=Ga.2 H;rw[Y];simp only[aU];by_cases I:x=nr
   ·subst I;rw[show decide (nr=[102,111,114])=true from rfl];simp only[aJ];refine f (D1 R ((e.fj nr).st q pd)) _ ?_ rfl;have:=(akN E g i q pd j).mono d;rw[<-G] at this;exact this
   have Z:decide (x=[102,111,114])=false:=Ga.2 I;rw[Z];simp only[aU];by_cases J:x=pA
   ·subst J;rw[show decide (pA=[99,97,115,101])=true from rfl];simp only[aJ];refine f (DY R ((e.fj pA).st q pd)) _ ?_ rfl;have:=(akW E g i q pd j).mono d;rw[<-G] at this;exact this
   have Vm:decide (x=[99,97,115,101])=false:=Ga.2 J;rw[Vm];simp only[aU];refine f (a_ (R.kl ((e.fj x).st q pd) 6 false) (λx=>x) λy=>a_ (s9 R y.2) (λx=>x) λz=>some (.inr z)) _ ?_ ?_
   ·have:CF (aR false m) (.word x p)=ae (((aR false m).ls .pB false).aK eg) λ_=>iF (aR false m) eg:=by simp_all[CF,aO]
    rw[this];refine aV.ls (c:= .pB) (C:=λx=>x) c3.id g i j d λa A B s2 u=>?_;dsimp only;rw[CE];exact(Sq g i _ A B u).mono (s2.trans d)
   ·rw[oj];congr 1
    funext y
    rw[oj];rfl
def vP(R:bg)(n:Nat):Prop:=∀m,m<=n->ts R m
theorem vP.at{R:bg}{n:Nat}(h:vP R n):ts R n:=h n (cV _)
theorem vP.low{R:bg}{n:Nat}(h:vP R n):∀m,n=m+1->ts R m/\w9 R m:=λm hm=>⟨h m (by omega),(h n (cV _)).ls m hm⟩
def jt(fr:Bool):Nat->Option dS
 |0=>none
 |n+1=>some (aR fr n)
theorem Y6(fr:Bool)(n:Nat):(aR fr n).cp=qe (jt fr n):=by cases n<;>rfl
theorem Fi(fr:Bool)(n:Nat):a7 fr n=dd (jt fr n):=by cases n<;>rfl
theorem akY{R:bg}{n:Nat}(hA:vP R n){e:cH}(bc:e.ne=30- (n:Int)){u:aa}{pd:ao}(h:dQ e (40::u) pd):
  aV e (40::u) (lF false (jt false n) (40::u) pd) (λ_=>e.st) (Ht R (e.st (40::u) pd)):=by
 have hle:=hA.at.le;cases n with
 |zero=>trivial
 |succ m=>
  cases m with
  |zero=>trivial
  |succ k=>
   show aV e (40::u) (lF false (some (aR false (k+1))) (40::u) pd) _ _;unfold lF;dsimp only;rw[bh (show(aR false (k+1)).has=true from rfl)];unfold Ht a8;have Mu:W (e.ne+2)=e.ne+2:=dV (by omega) (by omega);have N:decide (30<W ((e.st (40::u) pd).2.2.2.1+2))=false:=by show decide (30<W (e.ne+2))=false;grind
   rw[N];simp only[aU];have O:=Mb (p:=ax e.S (40::u)) (x:=[102,40,41]) h (by omega) (by omega);refine aV.dU ?_ (eZ O);have hu:u<:+40::u:=eb 40 u;have q:=h.fj (x:=[102,40,41]) hu (by simp);have P:W (ax e.S (40::u)+1)=ax e.S u:=iP h.bZ h.sfx;have Q:(e.fj [102,40,41]).ne=30- ((k+1:Nat):Int):=by show e.ne+1=_;omega
   have S:(((e.fj [102,40,41]).st (40::u) pd).1,(W (((e.fj [102,40,41]).st (40::u) pd).2.1+1)),((e.fj [102,40,41]).st (40::u) pd).2.2.1,((e.fj [102,40,41]).st (40::u) pd).2.2.2.1,((e.fj [102,40,41]).st (40::u) pd).2.2.2.2.1,((e.fj [102,40,41]).st (40::u) pd).2.2.2.2.2)=(e.fj [102,40,41]).st u pd:=by show(e.S,W (ax e.S (40::u)+1),pd,e.ne+1,e.op++[[102,40,41]],e.j6)=_;rw[P];rfl
   rw[S];generalize T:(ae (bU 1) λ_=>ae (bM [41,32,123,32,120,10,125]) λt=>if t= .eof then b5 [41,32,123,32,120,10,125] else if t= .op [41] then
    ae (bU 1) λ_=>ae (cS.aK [123,32,120,10,125]) λ_=>ae (bM [123,32,120,10,125]) λt=>if t= .eof then b5 [123,32,120,10,125] else
     if hv t then ae ((aR false (k+1)).cp t) λ_=>if false=true then(aR false (k+1)).rd else aX () else bJ
    else bJ:ak Unit)=B
   have U:∀K:an->Option (bn an an),(∀r1 c,K ((e.fj [102,40,41]).st r1 c)=some (.inr (e.st r1 c)))->
     ∀y,aV (e.fj [102,40,41]) (40::u) (B (40::u) pd) (λ_=>(e.fj [102,40,41]).st) y->aV e (40::u) ((B.named [102,40,41]) (40::u) pd) (λ_=>e.st) (a_ y (λx=>x) K):=by
    intro K l_ y V;have f:=V.named;cases hk:(B.named [102,40,41]) (40::u) pd with
    |ok a r1 c=>rw[hk] at f;obtain⟨g,l,A⟩:=f;exact⟨g,l.out,by grind[eZ]⟩
    |more op nd ds=>rw[hk] at f;obtain⟨st,g,l⟩:=f;exact⟨st,hI g,l⟩
    |bad X=>rw[hk] at f;obtain⟨g,st,l⟩:=f;exact⟨g,st,hI l⟩
    |deep X=>trivial
   have D:∀r1 c,(au (uc ((e.fj [102,40,41]).st r1 c)) λ(E:an)=>(some (.inr E):Option (bn an an)))=some (.inr (e.st r1 c)):=λr1 c=>
    (aQ (Mc (r:=r1) (pd:=c) (x:=[102,40,41]) h.w7 (show 0<=e.ne by omega) (by omega))).trans rfl
   have F:=U (λY=>au (uc Y) λ(E:an)=>some (.inr E)) D
    (a_ (r9 ((e.fj [102,40,41]).st u pd) ([41]:aa)) (λx=>(x.1,x.2.1,pd,x.2.2.2.1,e.op++[[102,40,41]],x.2.2.2.2.2)) λ(s:an)=>
     (a_ (k6 (s.1,s.2.1,pd,s.2.2.2.1,e.op++[[102,40,41]],s.2.2.2.2.2)) (λx=>x) λy=>
     (a_ (DR y.2) (λx=>(x.1,x.2.1,y.2.2.2.1,x.2.2.2.1,y.2.2.2.2.2.1,x.2.2.2.2.2)) λz=>
     (bif(!z.1) then
     a_ (kC (z.2.1,z.2.2.1,y.2.2.2.1,z.2.2.2.2.1,y.2.2.2.2.2.1,z.2.2.2.2.2.2)) (λx=>(x.1,x.2.1,y.2.2.2.1,x.2.2.2.1,y.2.2.2.2.2.1,x.2.2.2.2.2)) λy=>Empty.elim y
     else
     BK R (z.2.1,z.2.2.1,y.2.2.2.1,z.2.2.2.2.1,y.2.2.2.2.2.1,z.2.2.2.2.2.2)))))
   have G:=F (by
    rw[<-T];show aV (e.fj [102,40,41]) (40::u) (ae (bM [41,32,123,32,120,10,125]) _ u pd) _ _;have Z:=q;cases i:bp u with
    |none=>rw[de (iG i)];unfold r9;exact((((rH _ _).none q i).bind λ_=> .inl rfl).bind λ_=> .inr rfl).rG
    |some r1=>
     rw[aM (ch i)];have s1:=dT i;have v1:=q.mono s1;have g:=kR _ _ _ (cV _) i;have d:=L7 [41] q;have he:ji [41] u pd=(if ar r1= .eof then b5 [] else if(ar r1==Tok.op [41])=true then bU 1 else bJ:ak Unit) r1 pd:=by unfold ji mB;rw[aM (ch i)];rfl
     rw[he] at d;by_cases ad:ar r1= .eof
     ·rw[bh ad] at d⊢;obtain⟨st,v,aY⟩:=d;exact⟨_,hI v,by simp;rfl⟩
     rw[aO ad] at d⊢;by_cases I:ar r1= .op [41]
     ·rw[bh (by grind)] at d;rw[if_pos I];obtain⟨v,aY,gz⟩:=d;refine aV.dU ?_ (eZ gz);have aG:r1.drop 1<:+r1:=List.drop_suffix _ _;show aV (e.fj [102,40,41]) (40::u) (ae (cS.aK [123,32,120,10,125]) _ (r1.drop 1) pd) _ _;have J:r1.drop 1<:+40::u:=aG.trans (s1.trans hu);refine aV.lines (C:=λx=>x) c3.id (v1.mono aG) J λb ay dL _ s2 v2=>?_;refine aV.tst (C:=λx=>x) c3.id (Yp _) v2 λL rC iX M A=>?_;dsimp only;cases aF:hv (ar L) with
      |true=>
       have aw:ar L≠ .eof:=by intro o;rw[o] at aF;cases aF
       rw[aO aw];simp only[cE,g9,aU,eB,cn]
       have:=Y4 (R:=R) (n:=k+1) (by omega) (λm hm=>by
        have H:vP R (k+1):=λj ct=>hA j (by omega);exact H.low m hm) Q M A aF
       rw[E9];exact this.mono (iX.trans (s2.trans J))
      |false=>simp only[e2,aJ,eB,cn];exact Mh (x:=[123,32,120,10,125]) M A (λo=>bh o) (λo=>aO o) λ_=> .inr rfl
     ·rw[aO (by grind)] at d;rw[if_neg I];obtain⟨nX,st,v⟩:=d;exact⟨nX,_,hI v⟩)
   refine aV.dU G ?_;rw[oj];congr 1
   funext y
   rw[oj];congr 1
   funext z
   rw[oj];congr 1
   funext w
   cases w.1 with
   |true=>rfl
   |false=>simp only[Bool.not_false,cond_true];rw[oj];grind
theorem uL{D:ak Unit}{r r':aa}{pd:ao}(b:bp r=some r')(aw:eV (bs (r'.dropWhile b_))=false):dx D r pd= .ok false r' pd:=by
 have a:fF r pd= .ok none r' pd:=by simp_all[fF,aO]
 unfold dx;rw[aM a];rfl
theorem Y7{D:ak Unit}{r r':aa}{pd:ao}(d:bp r=some r')(aw:eV (bs (r'.dropWhile b_))=true){b:Bool}{r1:aa}{a:ao}(h:dx D r pd= .ok b r1 a):b=true:=by
 have c:fF r pd= .ok (some (bs (r'.dropWhile b_))) ((r'.dropWhile b_).drop (bs (r'.dropWhile b_)).length) pd:=by simp_all[fF,bh]
 unfold dx at h;rw[aM c] at h;obtain⟨_,_,_,_,h⟩:=b1 h;cases h;rfl
theorem ak3{b:UInt8}{t:aa}(h:bs (b::t)≠[]):b_ b=false:=by
 cases a:b_ b with
 |false=>rfl
 |true=>simp_all[absurd,nx,Am]
theorem Y8{R:bg}{n:Nat}(hA:vP R n){e:cH}(bc:e.ne=30- (n:Int)):qq e (fx false (jt false n) (a7 false n)) (λ_=>e.st) (zS R):=by
 intro r pd h;unfold fx zS;have a:=hA.at;refine aV.tst (C:=λx=>x) c3.id (Yp e) h λr1 qg s1 c d=>?_;dsimp only;by_cases aF:hv (ar r1)=true
 ·have aw:ar r1≠ .eof:=by intro g;rw[g] at aF;cases aF
  rw[aO aw,bh aF,aF];simp only[aJ];have J:=Y4 (R:=R) (n:=n) a.le (λm hm=>hA.low m hm) bc c d aF;rw[Y6] at J;refine aV.iH (C:=λx=>x) c3.id (J.mono s1) (λ_=>rfl) λ_ l q _ s2 i=>?_;rw[CE];exact(YO a bc l q i).mono s2
 have E:hv (ar r1)=false:=by grind
 rw[E];simp only[aU,eB,cn];refine aV.dU ?_ (eZ ((kT e).some c d));dsimp only;unfold a8;have F:∀(m:ak Unit)(z:Bool)(K:an->Option (bn an an)),eV (bs (r1.dropWhile b_))=false->(ar r1= .eof->m=b5 [120])->(ar r1≠ .eof->m=bJ)->z=false->aV e r (m r1 pd) (λ_=>e.st)
   (bif z then a_ (kC ((e.st r1 pd).1,(e.st r1 pd).2.1,(e.st r pd).2.2.1,(e.st r1 pd).2.2.2.1,(e.st r pd).2.2.2.2.1,(e.st r1 pd).2.2.2.2.2)) (λx=>(x.1,x.2.1,(e.st r pd).2.2.1,x.2.2.2.1,(e.st r pd).2.2.2.2.1,x.2.2.2.2.2)) λy=>Empty.elim y
    else a_ (ya R ((e.st r1 pd).1,(e.st r1 pd).2.1,(e.st r pd).2.2.1,(e.st r1 pd).2.2.2.1,(e.st r pd).2.2.2.2.1,(e.st r1 pd).2.2.2.2.2)) (λx=>x) λw=>bif w.1 then a_ (zR R w.2) (λx=>x) (λO=>some (.inr O)) else
     a_ (kC w.2) (λx=>(x.1,x.2.1,w.2.2.2.1,x.2.2.2.1,w.2.2.2.2.2.1,x.2.2.2.2.2)) λy=>Empty.elim y):=by
  rintro m _ K v P Q rfl;simp only[aU];have j:=IH a bc r1 pd c;rw[uL d v] at j;refine aV.dU ?_ (eZ j.2.2);simp only[aU];exact Mh (x:=[120]) c d P Q λ_=> .inr rfl
 have S:eV []=false:=by decide
 cases f:ar r1 with
 |eof=>
  have mJ:r1=[]:=by
   cases r1 with
   |nil=>rfl
   |cons b t=>exfalso;have uI:(if b=10 then Tok.line else if bs (b::t)≠[] then .op (bs (b::t)) else .word (c5 (b::t)).1 (c5 (b::t)).2)=Tok.eof:=f;grind
  simp only[jk,cP,show¬((0:Int)=3) by decide,bF,aU,cE,eB,cn,e2,aJ];have:=F (b5 [120]) false (λ_=>none) (by simp_all[bs,lg,xz,List.isPrefixOf]) (λ_=>rfl) (λg=>absurd f g) rfl;exact this
 |line=>obtain⟨t,rfl⟩:=vJ f;simp only[jk,cP,show¬((1:Int)=3) by decide,bF,aU,cE,eB,cn,e2,aJ,reduceCtorEq];have fp:bs (10::t)=[]:=nx (by decide);have:=F bJ false (λ_=>none) (by rfl) (λg=>by grind) (λ_=>rfl) rfl;exact this
 |op o=>
  simp only[jk,cP,show¬((2:Int)=3) by decide,bF,aU,cE,eB,cn,e2,aJ,reduceCtorEq];have T:=(il f).1;have CB:r1.dropWhile b_=r1:=by
   cases r1 with
   |nil=>rfl
   |cons b t=>exact Jw (by rw[ak3 (b:=b) (t:=t) (by rw[<-T];exact(il f).2.2.2)];simp)
  by_cases v:eV o=true
  ·rw[bh v];have j:=IH a bc r1 pd c;refine aV.iH (C:=λx=>x) c3.id (j.mono s1) (λ_=>rfl) λb l q A s2 i=>?_;have s:=Y7 d (by grind) A;subst s;simp only[aJ];rw[CE];exact(Mp a bc l q i).mono s2
  ·rw[aO v];have:=F bJ false (λ_=>none) (by grind) (λg=>by grind) (λ_=>rfl) rfl;exact this
 |word w p=>
  simp only[jk,bw,aJ,reduceCtorEq,cn,g9,aU];rw[akb,fX];have U:(bif p then(if p=true then rA w else false) else false)=(p&&rA w):=by simp
  rw[U];cases Mv:(p&&rA w) with
  |true=>simp only[aJ,cE];exact Mh (x:=[]) c d (λg=>by grind) (λ_=>rfl) λ_=> .inr rfl
  |false=>
   simp only[aU,eB,cn];have j:=IH a bc r1 pd c;refine aV.iH (C:=λx=>x) c3.id (j.mono s1) (λ_=>rfl) λb l q A s2 i=>?_;cases b with
   |true=>simp only[aJ,cE];rw[CE];exact(Mp a bc l q i).mono s2
   |false=>
    simp only[aU,eB,cn];have V:eV (bs (r1.dropWhile b_))=false:=by grind[eV,bs,b_,Y7]
    rw[uL d V] at A;cases A;refine aV.iH (C:=λx=>x) c3.id ((Mg a bc i d f).mono s2) (λ_=>rfl) λ_ G B _ H L=>?_;have W:aV e r (hy false (a7 false n) G B) (λ_=>e.st) (a_ (zR R (e.st G B)) (λx=>x) λX=>some (.inr X)):=by rw[CE];exact(Mp a bc G B L).mono H
    have Y:zK w=some (l4 w)\/p=false:=by
     cases p with
     |false=>simp
     |true=>left;have:=(qj f).1.length_le;have:=eG c.sfx;have:=h.bZ;grind[yI]
    have Z:∀(k:Bool->Option (bn an an)),cP (p=true) (zK w) false k=k (p&&l4 w):=by
     intro k;rcases Y with ad|rfl
     ·grind[fX]
     rfl
    refine aV.dU ?_ (Z _);cases Aq:(p&&l4 w) with
    |false=>simp_all[aV.dU,Yk,aU,eB,cn]
    |true=>
     have aB:p=true:=by grind
     subst aB;refine aV.dU ?_ (yD rfl);simp only[cE];refine aV.tst (C:=λx=>x) c3.id (rH e [40]) L λD Ao M N i4=>?_;dsimp only[cond_true];by_cases I:ar D= .op [40]
     ·have s:((ar D==Tok.op [40]):Bool)=true:=by grind
      rw[bh I,s];simp only[aJ];obtain⟨u,rfl⟩:=(il I).2.1;refine aV.iH (C:=λx=>x) c3.id ((akY hA bc N).mono (M.trans H)) (λ_=>rfl) λ_ eL lj _ mL mj=>?_;rw[CE];exact(YO a bc eL lj mj).mono mL
     ·have s:((ar D==Tok.op [40]):Bool)=false:=by grind
      rw[aO I,s];simp only[aU];rw[CE];exact(Mp a bc D B N).mono (M.trans H)
theorem St{e:cH}{r o:aa}{pd:ao}(v:dQ e r pd)(b:ar r= .op o):r.drop o.length<:+r/\(r.drop o.length).length<r.length/\dQ e (r.drop o.length) pd/\W (ax e.S r+(o.length:Int))=ax e.S (r.drop o.length):=by obtain⟨_,⟨q,rfl⟩,_,bc⟩:=il b;have hl:0<o.length:=Jy.2 bc;rw[o0];have a:q<:+o++q:=gS o q;exact⟨a,by grind,v.mono a,ks v.bZ v.sfx⟩
def q6(fr:Bool)(n:Nat):ak Unit:=fx fr (jt fr n) (a7 fr n)
theorem Y9(fr:Bool)(n:Nat):aq (q6 fr n):=by
 unfold q6;refine aq.command (λl hl=>?_) (l8 fr n);cases n with
 |zero=>cases hl
 |succ m=>cases hl;simp[qY]
theorem Y_(fr:Bool)(n:Nat):aq (fi (q6 fr n)):=aq.pipe (Y9 fr n)
section
variable{R:bg}{n:Nat}(hA:vP R n){e:cH}(bc:e.ne=30- (n:Int))
include hA bc
theorem Za:qq e (fi (q6 false n)) (λ_=>e.st) (BR R):=by
 intro r pd h;unfold fi BR a8;refine aV.tst (C:=λx=>x) c3.id (q4 e [33]) h λr1 X s1 d Y=>?_;dsimp only;have u:∀c,c<:+r->dQ e c pd->aV e r (ae (q6 false n) (λ_=>b8 (λ_=>ae (bM []) λt=>if t= .op [124] then ae (bU 1) λ_=>ae (cS.aK [120]) λ_=>ae (q6 false n) λ_=>aX (.inl ()) else aX (.inr ())) ()) c pd) (λ_=>e.st)
   (a_ (zS R (e.st c pd)) (λx=>x) λ(E:an)=>fixF (K0 R λy=>some (.inr y)) bC E):=by
  intro c s2 F;refine aV.iH (C:=λx=>x) c3.id ((Y8 hA bc c pd F).mono s2) (λ_=>rfl) λ_ G H _ I f=>?_;refine aV.mono ?_ I;refine aV.rep (en:=λ_ r pd=>e.st r pd) (λk s g v J hk=>?_) bC () G H (lI (lK (eG f.sfx) f.bZ)) f;unfold K0;refine aV.tst c3.k (rH e [124]) J λa Z i z i5=>?_;dsimp only;by_cases j:ar a= .op [124]
  ·have l:((ar a==Tok.op [124]):Bool)=true:=by grind
   rw[bh j,l];simp only[aJ];obtain⟨m,K,A,B⟩:=St z j;show aV e g (cK _ g (ae (cS.aK [120]) _ (a.drop 1) v)) _ (a_ (k6 (e.S,W (ax e.S a+1),v,e.ne,e.op,e.j6)) _ _);rw[show([124]:aa).length=1 from rfl] at m K A B;have L:W (ax e.S a+1)=ax e.S (a.drop 1):=B;rw[L];refine aV.lines c3.k A (m.trans i) λb M N _ O P=>?_;have Q:=O.trans (m.trans i);refine aV.iH c3.k ((Y8 hA bc M N P).mono Q) (λ_=>rfl) λ_ S qW T Fg IJ=>?_;have U:S.length<g.length:=by have cU:=((Y9 false n).sfx T).length_le;grind
   grind[aV.inl]
  ·have l:((ar a==Tok.op [124]):Bool)=false:=by grind
   rw[aO j,l];exact aV.inr i z rfl
 by_cases o:cA (ar r1) [33]=true
 ·rw[bh o,o];simp only[aJ];have p:ar r1= .word [33] true:=by grind[cA]
  obtain⟨q,rfl⟩:=(qj p).1;have D:q<:+[33]++q:=gS [33] q;have V:W (ax e.S ([33]++q)+1)=ax e.S q:=ks (w:=[33]) d.bZ d.sfx;have:=u q (D.trans s1) (d.mono D);show aV e r (ae (q6 false n) _ q pd) _ (a_ (zS R (e.S,W (ax e.S ([33]++q)+1),pd,e.ne,e.op,e.j6)) _ _);rw[V];exact this
 ·have p:cA (ar r1) [33]=false:=by grind
  rw[aO o,p];exact u r1 s1 d
theorem Sv:qq e (hB (fi (q6 false n))) (λ_=>e.st) (zT R):=by
 intro r pd h;unfold hB zT a8;refine aV.iH (C:=λx=>x) c3.id (Za hA bc r pd h) (λ_=>rfl) λ_ z A _ B f=>?_;refine aV.mono ?_ B;refine aV.rep (en:=λ_ r pd=>e.st r pd) (λk s c g D hk=>?_) bC () z A (lI (lK (eG f.sfx) f.bZ)) f;unfold Qj;refine aV.tst c3.k (rH e [38,38]) D λa S i j E=>?_;dsimp only;have q:∀o:aa,o.length=2->ar a= .op o->aV e c (cK (λ_=>ae (bM []) λt=>if t= .op [38,38]\/t= .op [124,124] then ae (bU 2) λ_=>ae (cS.aK [120]) λ_=>ae (fi (q6 false n)) λ_=>aX (.inl ()) else aX (.inr ())) c (ae (bU 2) (λ_=>ae (cS.aK [120]) λ_=>ae (fi (q6 false n)) λ_=>aX (.inl ())) a g)) (λ_=>e.st)
   (a_ (k6 (e.S,W (ax e.S a+2),g,e.ne,e.op,e.j6)) (λx=>x) λy=>a_ (BR R y.2) (λx=>x) λF=>k F):=by
  intro o G d;obtain⟨l,H,u,v⟩:=St j d;rw[G] at l H u v;have I:W (ax e.S a+2)=ax e.S (a.drop 2):=v;rw[I];show aV e c (cK _ c (ae (cS.aK [120]) _ (a.drop 2) g)) _ _;refine aV.lines c3.k u (l.trans i) λb J K _ L M=>?_;have N:=L.trans (l.trans i);refine aV.iH c3.k ((Za hA bc J K M).mono N) (λ_=>rfl) λ_ O T P U V=>?_;have Q:O.length<c.length:=by have X:=((Y_ false n).sfx P).length_le;grind
  grind[aV.inl]
 by_cases d:ar a= .op [38,38]
 ·have m:((ar a==Tok.op [38,38]):Bool)=true:=by grind
  rw[bh (.inl d),m];simp only[nc,tK,cn,aJ];exact q _ rfl d
 ·have m:((ar a==Tok.op [38,38]):Bool)=false:=by grind
  rw[m];refine aV.dU ?_ ((yD rfl).trans (eZ ((rH e [124,124]).some j E)));dsimp only;by_cases w:ar a= .op [124,124]
  ·have p:((ar a==Tok.op [124,124]):Bool)=true:=by grind
   rw[bh (.inr w),p];simp only[aJ,aU];exact q _ rfl w
  ·have p:((ar a==Tok.op [124,124]):Bool)=false:=by grind
   rw[aO (by grind),p];simp only[cond_false];exact aV.inr i j rfl
end
def mM(fr:Bool)(n:Nat):ak Unit:=hB (fi (q6 fr n))
theorem ak6(fr:Bool)(n:Nat):aq (mM fr n):=aq.pE (Y_ fr n)
theorem Zb(fr:Bool)(n:Nat)(c:Ctx)(no:Bool):(aR fr n).ls c no=oe (mM fr n) c no:=by cases n<;>rfl
theorem Zc{c:Ctx}:dG c .eof=decide (c= .text):=by cases c<;>simp[dG,cA]
theorem ak7{r:aa}{pd:ao}{b:Bool}{r':aa}{a:ao}(c:bp r=some r)(h:cS r pd= .ok b r' a):(ar r= .line->b=true/\r'.length<r.length)/\(ar r≠ .line->b=false/\r'=r/\a=pd):=by
 constructor
 ·intro d;obtain⟨t,rfl⟩:=vJ d;refine⟨?_,Xz h⟩;rw[qk,cm,tk c] at h;unfold cK at h;cases hm:ae iV (λ_=>(aX (.inl true):ak (Bool⊕Bool))) (10::t) pd with
  |ok x r1 g=>
   have f:x=(Sum.inl true:Bool⊕Bool):=by obtain⟨_,_,_,_,e⟩:=b1 hm;cases e;rfl
   subst f;rw[hm] at h;simp only at h;split at h
   ·have:∀(N:Nat)(r:aa)(pd:ao)(b:Bool)(r':aa)(a:ao),r.length<=N->b8 gE true r pd= .ok b r' a->b=true:=by
     intro N;induction N with
     |zero=>intro r pd b r' a i h;have:r=[]:=n1.1 (by omega);subst this;rw[cm,qZ (r1:=[]) (by rw[l5]) (by decide)] at h;cases h;rfl
     |succ N k=>
      intro r pd b r' a i h;rw[cm] at h;cases c:bp r with
      |none=>have:gE true r pd= .more [] (cQ [] pd []).1 (cQ [] pd []).2:=de (iG c);rw[this] at h;cases h
      |some j=>
       by_cases d:ar j= .line
       ·obtain⟨t,rfl⟩:=vJ d;rw[tk c] at h;unfold cK at h;cases hm:ae iV (λ_=>(aX (.inl true):ak (Bool⊕Bool))) (10::t) pd with
        |ok x r1 g=>
         have f:x=(Sum.inl true:Bool⊕Bool):=by obtain⟨_,_,_,_,e⟩:=b1 hm;cases e;rfl
         grind
        |more _ _ _=>grind
        |bad _=>grind
        |deep _=>grind
       ·rw[qZ c d] at h;cases h;rfl
    exact this _ _ _ _ _ _ (cV _) h
   grind
  |more _ _ _=>grind
  |bad _=>grind
  |deep _=>grind
 ·intro d;rw[Mr c d] at h;cases h;exact⟨rfl,rfl,rfl⟩
theorem Zd(fr:Bool)(n:Nat){r r':aa}{pd:ao}(a:bp r=some r'):mM fr n r pd=mM fr n r' pd:=by have b:=kR _ _ _ (cV _) a;unfold mM hB fi;rw[kr];rw[aM (ch a),aM (ch b)]
theorem Ze(fr:Bool)(n:Nat){r:aa}{pd:ao}(a:bp r=none):∃nd ds,mM fr n r pd= .more [] nd ds:=by unfold mM hB fi;rw[kr];exact⟨_,_,de (iG a)⟩
theorem Zf(fr:Bool)(n:Nat)(pd:ao):∃nd ds,mM fr n [] pd= .more [] nd ds:=by
 have a:bp []=some []:=l5;unfold mM hB fi;rw[kr,aM (ch a),kr];have ad:cA (ar []) [33]=false:=rfl;rw[ad];simp only[eB,cn];show∃nd ds,ae (ae (q6 fr n) _) _ [] pd=_
 have b:∃nd ds,q6 fr n [] pd= .more [] nd ds:=by unfold q6 fx;rw[aM (ch a)];exact⟨_,_,rfl⟩
 grind[de]
theorem Zg{R:bg}{n:Nat}(hA:vP R n){e:cH}(bc:e.ne=30- (n:Int))(c:Ctx)(no:Bool)(Fb:c≠ .text\/no=true):qq e (oe (mM false n) c no) (λa r pd=>((a:Int),e.st r pd)) (λx=>D_ R x (Cx c) no):=by
 intro r pd h;rw[qX];unfold D_;refine aV.lines (C:=λx=>x) c3.id h fM λb r1 aD _ s1 q=>?_;dsimp only;refine aV.mono ?_ s1
 have O:∀(N:Nat)(k:Nat)(r pd),r.length<N->k+r.length<=2000000->dQ e r pd->aV e r (b8 (eN (mM false n) c no) k r pd) (λa r pd=>((a:Int),e.st r pd)) (fixF (Hv R (Cx c) no) N ((k:Int),e.st r pd)):=by
  intro N;induction N with
  |zero=>omega
  |succ N P=>
   intro k r pd nS hk h;rw[e7,cm];generalize fixF (Hv R (Cx c) no) N=K at P;unfold Hv a8;have hW:k<2000000->W ((k:Int)+1)=((k+1:Nat):Int):=by grind[dV]
   have Q:∀g,r≠[]->g<:+r->dQ e g pd->aV e r (cK (eN (mM false n) c no) r (ae (mM false n) (λ_=>ae (bM []) (ik c k)) g pd)) (λa r pd=>((a:Int),e.st r pd))
     (a_ (zT R (e.st g pd)) (λx=>x) λ(i:an)=>(a_ (nh i ([59]:aa)) (λx=>(x.1,x.2.1,i.2.2.1,x.2.2.2.1,i.2.2.2.2.1,x.2.2.2.2.2)) λ(si,v)=>(nc (si=false) (nh (v.1,v.2.1,i.2.2.1,v.2.2.2.1,i.2.2.2.2.1,v.2.2.2.2.2) ([38]:aa)) (λx=>(x.1,x.2.1,i.2.2.1,x.2.2.2.1,i.2.2.2.2.1,x.2.2.2.2.2)) (false,(v.1,v.2.1,i.2.2.1,v.2.2.2.1,i.2.2.2.2.1,v.2.2.2.2.2)) λ(kd,z)=>(bif(bif si then true else kd) then(a_ (k6 (z.1,(W (z.2.1+1)),i.2.2.1,z.2.2.2.1,i.2.2.2.2.1,z.2.2.2.2.2)) (λx=>x) λ(h4,A)=>K ((W ((k:Int)+1)),A.1,A.2.1,A.2.2.1,A.2.2.2.1,A.2.2.2.2.1,A.2.2.2.2.2)) else(a_ (k6 (z.1,z.2.1,i.2.2.1,z.2.2.2.1,i.2.2.2.2.1,z.2.2.2.2.2)) (λx=>x) λ(oH,d)=>(bif oH then K ((W ((k:Int)+1)),d.1,d.2.1,d.2.2.1,d.2.2.2.1,d.2.2.2.2.1,d.2.2.2.2.2) else(a_ (lY d) (λx=>(x.1,x.2.1,d.2.2.1,x.2.2.2.1,d.2.2.2.2.1,x.2.2.2.2.2)) λ(m5,B)=>(nc ((decide (m5.1=3))=false) (DQ (B.1,B.2.1,d.2.2.1,B.2.2.2.1,d.2.2.2.2.1,B.2.2.2.2.2) (Cx c)) (λx=>(x.1,x.2.1,d.2.2.1,x.2.2.2.1,d.2.2.2.2.1,x.2.2.2.2.2)) (false,(B.1,B.2.1,d.2.2.1,B.2.2.2.1,d.2.2.2.2.1,B.2.2.2.2.2)) λ(gY,D)=>(bif(bif(decide (m5.1=3)) then true else(!gY)) then a_ (kC (D.1,D.2.1,d.2.2.1,D.2.2.2.1,d.2.2.2.2.1,D.2.2.2.2.2)) (λx=>(x.1,x.2.1,d.2.2.1,x.2.2.2.1,d.2.2.2.2.1,x.2.2.2.2.2)) λy=>Empty.elim y else some (.inr ((W ((k:Int)+1)),(D.1,D.2.1,d.2.2.1,D.2.2.2.1,d.2.2.2.2.1,D.2.2.2.2.2)))))))))))):=by
    intro g mJ s2 S;refine aV.iH c3.k ((Sv hA bc g pd S).mono s2) (λ_=>rfl) λ_ cu s Ms iX eT=>?_;have ET:=((ak6 false n).sfx Ms).length_le;dsimp only;refine aV.tst c3.k (rH e [59]) eT λf Ao pG j t=>?_;dsimp only;have G:=pG.trans iX;have T:ar f≠ .eof->k<2000000:=by
     intro I;have:f≠[]:=by rintro rfl;exact I rfl
     grind[List.length_pos_iff]
    have Zh:∀o:aa,o.length=1->(o=[59]\/o=[38])->ar f= .op o->aV e r (cK (eN (mM false n) c no) r (ik c k (.op o) f s)) (λa r pd=>((a:Int),e.st r pd))
      (a_ (k6 (e.S,W (ax e.S f+1),s,e.ne,e.op,e.j6)) (λx=>x) λ(h4,A)=>K ((W ((k:Int)+1)),A)):=by
     intro o U V E;obtain⟨X,cF,eE,cf⟩:=St j E;rw[U] at X cF eE cf;have IN:W (ax e.S f+1)=ax e.S (f.drop 1):=cf;rw[IN];unfold ik;dsimp only;rw[bh V];show aV e r (cK _ r (ae cS _ (f.drop 1) s)) _ _;refine aV.An c3.k eE (X.trans G) λb J Y _ Z mj=>?_;have Ar:J.length<r.length:=by grind
     rw[hW (T (by grind))];exact aV.inl Ar ((P (k+1) J Y (by omega) (by omega) mj).mono (Z.trans (X.trans G)))
    by_cases kV:ar f= .op [59]
    ·have hb:((ar f==Tok.op [59]):Bool)=true:=by grind
     rw[hb,kV];simp only[nc,tK,cn,aJ];exact Zh [59] rfl (.inl rfl) kV
    have hb:((ar f==Tok.op [59]):Bool)=false:=by grind
    rw[hb];refine aV.dU ?_ ((yD rfl).trans (eZ ((rH e [38]).some j t)));dsimp only;by_cases Zi:ar f= .op [38]
    ·have o7:((ar f==Tok.op [38]):Bool)=true:=by grind
     rw[o7,Zi];simp only[aJ,aU];exact Zh [38] rfl (.inr rfl) Zi
    have o7:((ar f==Tok.op [38]):Bool)=false:=by grind
    rw[o7];simp only[aU];by_cases hl:ar f= .line
    ·rw[hl];unfold ik;dsimp only;refine aV.An c3.k j G λb J Y ala Z mj=>?_;obtain⟨alb,Ar⟩:=(ak7 t ala).1 hl;subst alb;simp only[aJ];have alc:J.length<r.length:=by grind
     rw[hW (T (by grind))];exact aV.inl alc ((P (k+1) J Y (by omega) (by omega) mj).mono (Z.trans G))
    have Dq:=Mr (pd:=s) t hl;have Mn:=Yo j;rw[Dq] at Mn;refine aV.dU ?_ (eZ Mn.2.2);dsimp only;simp only[aU];refine aV.dU ?_ (eZ ((kT e).some j t));dsimp only
    have Zj:∀(m:ak (Nat⊕Nat)),ar f≠ .eof->m=bJ->aV e r (cK (eN (mM false n) c no) r (m f s)) (λa r pd=>((a:Int),e.st r pd)) (a_ (kC (e.st f s)) (λx=>(x.1,x.2.1,s,x.2.2.2.1,e.op,x.2.2.2.2.2)) λy=>(Empty.elim y:Option (bn an (Int×an)))):=by rintro m I rfl;exact⟨j.sfx,_,hI ((tn j t).2 I)⟩
    cases E:ar f with
    |line=>grind
    |word w p=>simp only[jk,bw,nc,tK,cn,aJ];exact Zj bJ (by grind) rfl
    |op o=>
     have l:(decide ((jk (Tok.op o)).1=3))=false:=rfl;refine aV.dU ?_ ((yD l).trans (eZ ((R0 e c).some j t)));dsimp only;rw[l,E];simp only[aU];have U:¬(o=[59]\/o=[38]):=by grind
     unfold ik;dsimp only;rw[aO U];cases yG:dG c (.op o) with
     |true=>simp only[g9,aU,cE];rw[hW (T (by grind))];exact aV.inr G j rfl
     |false=>simp only[Bool.not_false,cond_true,Bool.false_eq_true,if_false];exact Zj bJ (by grind) rfl
    |eof=>
     have uF:f=[]:=by
      cases f with
      |nil=>rfl
      |cons b u=>exfalso;have uI:(if b=10 then Tok.line else if bs (b::u)≠[] then .op (bs (b::u)) else .word (c5 (b::u)).1 (c5 (b::u)).2)=Tok.eof:=E;grind
     subst uF;have l:(decide ((jk Tok.eof).1=3))=false:=rfl;refine aV.dU ?_ ((yD l).trans (eZ ((R0 e c).some j t)));dsimp only;rw[l,E,Zc];simp only[aU];have mK:k<2000000:=by grind[List.length_pos_iff]
     have o8:cK (eN (mM false n) c no) r (ik c k .eof [] s)=cK (eN (mM false n) c no) [] ((if c= .text then aX (.inr (k+1)) else b5 (if no||k+1>0 then [] else [120]):ak (Nat⊕Nat)) [] s):=by show(if([]:aa).length<r.length then _ else _)=_;rw[bh (by grind),cm];congr 1;unfold eN;rw[aM (ch t),E,if_pos rfl]
     rw[o8];by_cases aF:c= .text
     ·rw[if_pos aF];simp only[aF,decide_true,Bool.not_true,cond_false];rw[hW mK];exact⟨G,j,rfl⟩
     ·rw[if_neg aF];simp only[aF,decide_false,Bool.not_false,cond_true];exact(((tn j t).1 E).bind λ_=> .inr rfl).rG
   unfold eN;have RZ:(0<(k:Int))↔k>0:=by omega
   have bq:(bif no then true else decide (0<(k:Int)))=(no||decide (k>0)):=by simp
   have mi:=Q;dsimp only;have arT:bp r=none->aV e r (cK (eN (mM false n) c no) r (ae (mM false n) (λ_=>ae (bM []) (ik c k)) r pd)) (λa r pd=>((a:Int),e.st r pd)) (a_ (zT R (e.st r pd)) (λx=>x) λ_=>none):=by intro F;obtain⟨nd,ds,ad⟩:=Ze false n (pd:=pd) F;have L:=Sv hA bc r pd h;have uH:hB (fi (q6 false n)) r pd= .more [] nd ds:=ad;rw[uH] at L;rw[de ad];obtain⟨st,bD,aY⟩:=L;exact⟨st,hI bD,aY⟩
   have Sw:∀(g:aa)(H:ao)(Zk:an->Option (bn an (Int×an)))(x:dD (Nat⊕Nat)),dQ e g H->(∃nd ds,mM false n g H= .more [] nd ds)->(∃nd ds,x= .more [] nd ds)->aV e r (cK (eN (mM false n) c no) r x) (λa r pd=>((a:Int),e.st r pd)) (a_ (zT R (e.st g H)) (λx=>x) Zk):=by rintro g H Zk x S ⟨nd,ds,ad⟩ ⟨arU,arV,rfl⟩;have L:=Sv hA bc g H S;have uH:hB (fi (q6 false n)) g H= .more [] nd ds:=ad;rw[uH] at L;obtain⟨st,bD,aY⟩:=L;exact⟨st,hI bD,aY⟩
   have pH:∀{g:aa},g<:+r->ar g≠ .eof->r≠[]:=by rintro g s2 I rfl;have:g=[]:=List.suffix_nil.1 s2;subst this;exact I rfl
   cases arW:(no||decide (k>0)) with
   |true=>
    have M:(bif no then true else decide (0<(k:Int)))=true:=by grind
    refine aV.dU ?_ (yD M);refine aV.tst c3.k (R0 e c) h λr1 qg s1 q i1=>?_;dsimp only;rw[M];simp only[aJ,Nz];by_cases hf:ar r1= .eof
    ·rw[bh hf,hf,Zc];by_cases aF:c= .text
     ·rw[bh aF];simp only[aF,bw,aJ];exact aV.inr s1 q rfl
     ·rw[aO aF];simp only[aF,bF,aU];have j1:r1=[]:=by
       cases r1 with
       |nil=>rfl
       |cons b u=>exfalso;have uI:(if b=10 then Tok.line else if bs (b::u)≠[] then .op (bs (b::u)) else .word (c5 (b::u)).1 (c5 (b::u)).2)=Tok.eof:=hf;grind
      subst j1;exact Sw [] pd _ _ q (Zf false n pd) ⟨_,_,rfl⟩
    ·rw[aO hf];cases yG:dG c (ar r1) with
     |true=>simp only[aJ,cE];exact aV.inr s1 q rfl
     |false=>simp only[aU,eB,cn];exact mi r1 (pH s1 hf) s1 q
   |false=>
    have M:(bif no then true else decide (0<(k:Int)))=false:=by grind
    refine aV.dU ?_ (Yk (by grind));dsimp only;rw[M];simp only[aU,Bool.false_and,eB,cn];cases F:bp r with
    |none=>rw[de (nd:=(cQ [] pd [120]).1) (ds:=(cQ [] pd [120]).2) (op:=[]) (by rw[iG F];rfl)];exact Sw r pd _ _ h (Ze false n F) ⟨_,_,rfl⟩
    |some r1=>
     rw[aM (ch F)];have s1:=dT F;by_cases hf:ar r1= .eof
     ·rw[bh hf];have j1:r1=[]:=by
       cases r1 with
       |nil=>rfl
       |cons b u=>exfalso;have uI:(if b=10 then Tok.line else if bs (b::u)≠[] then .op (bs (b::u)) else .word (c5 (b::u)).1 (c5 (b::u)).2)=Tok.eof:=hf;grind
      subst j1
      have e1:∃nd ds,mM false n r pd= .more [] nd ds:=by rw[Zd false n F];simp[Zf]
      by_cases aF:c= .text
      ·grind
      ·rw[aO aF];exact Sw r pd _ _ h e1 ⟨_,_,rfl⟩
     ·rw[aO hf];have:=mi r (pH s1 hf) fM h;have a1:ae (mM false n) (λ_=>ae (bM []) (ik c k)) r1 pd=ae (mM false n) (λ_=>ae (bM []) (ik c k)) r pd:=by grind[Zd,ae]
      rw[a1];exact this
 exact O bC 0 r1 aD (lI (lK (eG q.sfx) q.bZ)) (by have:=eG q.sfx;have:=q.bZ;omega) q
theorem ald{k n:Nat}(hA:vP (kD k) n):w9 (kD (k+1)) n:=⟨λe c no aF bc=>by have:=Zg hA bc c no (.inl aF);intro r pd h;rw[Zb];exact this r pd h⟩
theorem jd:∀(k n:Nat),n<=30->(2*n+1<=k->Cy (kD k) n)/\(2*n+2<=k->Md (kD k) n/\w9 (kD k) n):=by
 intro k;induction k with
 |zero=>omega
 |succ k b=>
  have a:∀n,n<=30->2*n<=k->Below (kD k) n:=λn aw h=>
   ⟨aw,λm hm=>((b m (by omega)).2 (by omega)).1,λm hm=>((b m (by omega)).2 (by omega)).2⟩
  intro n aw;refine⟨λh=>akl (a n aw (by omega)),λh=>⟨akm (a n aw (by omega)) ((b n aw).1 (by omega)),ald λm hm=>?_⟩⟩;exact {toBelow:=a m (by omega) (by omega),u0:=(b m (by omega)).1 (by omega)}
theorem ale{S:aa}(dg:S.length<=1000000):aV ⟨S,0,[],0⟩ S (gm false 30 S) (λa r pd=>((a:Int),(⟨S,0,[],0⟩:cH).st r pd)) (sn.kl (S,0,[],0,[],0) 0 true):=by
 have b:dQ ⟨S,0,[],0⟩ S []:=⟨dg,fM,by simp,by simp⟩
 have hk:∃k,bC=k+1/\62<=k:=by
  refine⟨bC-1,?_,?_⟩
  ·rw[gg]
  simp[gg]
 obtain⟨k,hk,c⟩:=hk;have hA:vP (kD k) 30:=by intro m hm;exact {le:=by omega,u1:=λj d=>((jd k j (by omega)).2 (by omega)).1,ls:=λj d=>((jd k j (by omega)).2 (by omega)).2,u0:=(jd k m hm).1 (by omega)}
 have:=Zg hA (e:=⟨S,0,[],0⟩) (show(0:Int)=30- ((30:Nat):Int) by decide) .text true (.inr rfl) S [] b;unfold gm;rw[Zb];have f:(⟨S,0,[],0⟩:cH).st S []=(S,0,[],0,[],0):=by show(S,ax S S,([]:ao),(0:Int),([]:bt),(0:Int))=_;rw[Iv]
 rw[f] at this;have g:sn.kl (S,0,[],0,[],0) 0 true=D_ (kD k) (S,0,[],0,[],0) 0 true:=by unfold sn;rw[hk];rfl
 rw[g];exact this
def df(s:aa):aa:=if s.getLast?=some 10 then s else s++[10]
theorem alg(s:aa)(d:s.length<=1000000):H7 s [10]=some (decide (s.getLast?=some 10)):=by
 unfold H7;rcases List.eq_nil_or_concat s with rfl|⟨t,b,rfl⟩
 ·decide
 ·rw[List.concat_eq_append] at*;have hl:(t++[b]).length=t.length+1:=by simp
  have a:W (((t++[b]).length:Int)- (([10]:aa).length:Int))=(t.length:Int):=by grind[dV,List.length_singleton]
  simp only[a];have c:cg (t++[b]) (t.length:Int) ((t++[b]).length:Int)=[b]:=by simp[cg]
  rw[c,bS (by omega)];have ad:(([10]:aa).length:Int)<=((t++[b]).length:Int):=by grind
  simp_all
theorem alh(s:aa)(a:s.length<=1000000):(((s.length+([10]:aa).length:Nat):Int)<=9223372036854775807):=by grind
theorem Zl(s:aa)(a:s.length<=1000000):aZ (((s.length+([10]:aa).length:Nat):Int)<=9223372036854775807) (some (s++[10]))=some (s++[10]):=by exact bh (alh s a)
theorem ali(s:aa)(a:s.length<=1000000)(b:Bool):(au (au (some b) λ(c:Bool)=>some c) λ(d:Bool)=>
 (bif d then
 some s
 else
 (aZ (((s.length+([10]:aa).length:Nat):Int)<=9223372036854775807)<|
 some (s++([10]:aa)))))=some (bif b then s else s++[10]):=by
 cases b with
 |true=>rfl
 |false=>exact(aQ (aQ rfl)).trans ((aU _ _).trans (Zl s a))
theorem Zm(s:aa)(a:s.length<=1000000):EF s=some (df s):=by unfold EF LK;rw[alg s a,ali s a];simp[df,bh,decide_eq_true,aO,e3]
theorem alj(s:aa)(c:(df s).length<=1000000):match gm false 30 (df s) with
  | .ok a _ _=>Cj s=some (((0:Int),((df s).length:Int)),([]:bt),(a:Int))
  | .more op _ _=>Cj s=some (((1:Int),((df s).length:Int)),op,(0:Int))
  | .bad r=>r<:+df s/\∃op,Cj s=some (((2:Int),ax (df s) r),op,(0:Int))
  | .deep _=>True:=by
 have hl:s.length<=(df s).length:=by grind[df]
 have h:=ale c;unfold Cj;rw[Zm s (by omega),aQ rfl];cases aB:gm false 30 (df s) with
 |ok a r pd=>rw[aB] at h;obtain⟨ad,b,d⟩:=h;simp only;rw[d];rfl
 |more op nd ds=>rw[aB] at h;obtain⟨st,ad,b⟩:=h;grind
 |bad r=>rw[aB] at h;obtain⟨ad,st,b⟩:=h;grind
 |deep q=>trivial
end Go.Eng
namespace Go.Eng
def eh(pd:ao):Nat:=(lE pd).length
theorem Zn:∀(a b:ao),lE (a++b)=lE a++lE b
 |[],b=>rfl
 |d::a,b=>by simp[lE,Zn]
theorem Zo(a b:ao):eh (a++b)=eh a+eh b:=by simp[eh,Zn]
theorem As:∀(x nd:aa)(ds:ao),(cQ nd ds x).1.length+eh (cQ nd ds x).2=nd.length+eh ds+x.length
 |[],nd,ds=>rfl
 |b::x,nd,ds=>by
  unfold cQ;split
  ·rw[As x];grind[List.length_append,List.length_cons,eh,lE,List.length_nil]
  ·rw[As x];simp only[C8,mo,AR];omega
def dZ(c:Nat){α:Type}(r:aa)(pd:ao):dD α->Prop
 | .ok _ r' a=>eh a+100*r'.length<=eh pd+100*r.length
 | .more _ nd ds=>nd.length+eh ds<=eh pd+100*r.length+c
 | .bad _=>True
 | .deep _=>True
def aH(c:Nat){α:Type}(f:ak α):Prop:=∀r pd,dZ c r pd (f r pd)
section
theorem aH.mono{α:Type}{c b:Nat}{f:ak α}(h:aH c f)(aF:c<=b):aH b f:=by
 intro r pd;have:=h r pd;cases hm:f r pd with
 |more op nd ds=>grind[dZ]
 |ok a r1 d=>rw[hm] at this;exact this
 |bad _=>trivial
 |deep _=>trivial
theorem aH.ae{α β:Type}{c:Nat}{m:ak α}{k:α->ak β}(hm:aH c m)(hk:∀a,aH c (k a)):aH c (Go.Eng.ae m k):=by
 intro r pd;unfold Go.Eng.ae;have:=hm r pd;cases h:m r pd with
 |ok a r1 b=>rw[h] at this;simp only[dZ] at this⊢;have d:=hk a r1 b;grind[dZ]
 |more op nd ds=>rw[h] at this;exact this
 |bad _=>trivial
 |deep _=>trivial
theorem aH.aK{α:Type}{c:Nat}{m:ak α}(h:aH c m)(x:aa):aH (c+x.length) (m.aK x):=by
 intro r pd;unfold ak.aK;have:=h r pd;cases hm:m r pd with
 |more op nd ds=>grind[dZ,As]
 |ok a r1 b=>rw[hm] at this;exact this
 |bad _=>trivial
 |deep _=>trivial
theorem aH.named{α:Type}{c:Nat}{m:ak α}(h:aH c m)(x:aa):aH c (m.named x):=by
 intro r pd;unfold ak.named;have:=h r pd;cases hm:m r pd with
 |more op nd ds=>rw[hm] at this;exact this
 |ok a r1 b=>grind
 |bad _=>trivial
 |deep _=>trivial
theorem aH.b5{α:Type}{c:Nat}{x:aa}(h:x.length<=c):aH c (Go.Eng.b5 x:ak α):=by intro r pd;grind[Go.Eng.b5,dZ,As,List.length_nil]
theorem aH.bJ{α:Type}{c:Nat}:aH c (Go.Eng.bJ:ak α):=λr pd=>trivial
theorem aH.ret{α:Type}{c:Nat}(a:α):aH c (aX a):=λr pd=>cV _
theorem aH.ite{α:Type}{c:Nat}{p:Prop}[Decidable p]{f g:ak α}(hf:aH c f)(bq:aH c g):aH c (if p then f else g):=by grind
theorem aH.h7{c:Nat}{f:ak Unit}(hf:∀r pd,match f r pd with| .ok _ r' b=>r'.length<=r.length/\b=pd| .more _ nd ds=>nd.length<=c/\ds=pd|_=>True):aH c f:=by
 intro r pd;have:=hf r pd;cases hm:f r pd with
 |ok a r1 d=>rw[hm] at this;obtain⟨ad,rfl⟩:=this;grind[dZ]
 |more op nd ds=>rw[hm] at this;obtain⟨ad,rfl⟩:=this;grind[dZ]
 |bad _=>trivial
 |deep _=>trivial
theorem aH.dj{c:Nat}(k:Nat):aH c (bU k):=aH.h7 λr pd=>⟨by simp,rfl⟩
theorem aH.dH{c:Nat}{x:aa}(h:x.length<=c):aH c (bM x):=by
 intro r pd;cases a:bp r with
 |none=>rw[iG a];exact aH.b5 (α:=Tok) h r pd
 |some r'=>rw[ch a];have:=(dT a).length_le;grind[dZ]
theorem aH.rep{σ α:Type}{c:Nat}{f:σ->ak (σ⊕α)}(hf:∀s,aH c (f s))(s:σ):aH c (b8 f s):=by
 have d:∀(N:Nat)(s:σ)(r:aa)(pd:ao),r.length<=N->dZ c r pd (b8 f s r pd):=by
  intro N;induction N with
  |zero=>
   intro s r pd g;rw[cm];have:=hf s r pd;unfold cK;cases hm:f s r pd with
   |ok x r1 e=>
    rw[hm] at this;cases x with
    |inl s'=>simp only;rw[aO (by omega)];trivial
    |inr a=>exact this
   |more _ _ _=>rw[hm] at this;exact this
   |bad _=>trivial
   |deep _=>trivial
  |succ N h=>
   intro s r pd g;rw[cm];have:=hf s r pd;unfold cK;cases hm:f s r pd with
   |ok x r1 e=>
    rw[hm] at this;cases x with
    |inl s'=>
     simp only[dZ] at this;simp only;split
     ·have i:=h s' r1 e (by omega);cases j:b8 f s' r1 e with
      |ok b k l=>grind[dZ]
      |more op nd ds=>grind[dZ]
      |bad _=>trivial
      |deep _=>trivial
     ·trivial
    |inr a=>exact this
   |more _ _ _=>rw[hm] at this;exact this
   |bad _=>trivial
   |deep _=>trivial
 exactλr pd=>d _ s r pd (cV _)
theorem aH.exp{c:Nat}(b:Tok->Bool)(k:Nat):aH c (mB b k):=(aH.dH (by simp)).ae λt=>aH.ite (aH.b5 (by simp)) (aH.ite (aH.dj _) aH.bJ)
theorem aH.ji{c:Nat}(o:aa):aH c (Go.Eng.ji o):=aH.exp _ _
theorem aH.cW{c:Nat}(o:aa):aH c (Go.Eng.cW o):=aH.exp _ _
theorem Sx:∀(pd:ao)(t nd:aa),l3 pd t= .inr nd->nd.length<=eh pd
 |[],t,nd,h=>by cases h
 |d::ds,t,nd,h=>by
  unfold l3 at h;split at h
  ·have:=Sx ds _ nd h;grind[eh,lE,List.length_append,List.length_cons]
  ·cases h;exact cV _
theorem aH.nl{c:Nat}:aH c iV:=by
 intro r pd;cases r with
 |nil=>exact cV _
 |cons b t=>
  unfold iV;simp only;cases a:l3 pd t with
  |inl r'=>have:=((vE pd t [] r' a).1).length_le;grind[dZ,eh,lE,List.length_nil,List.length_cons]
  |inr nd=>have:=Sx pd t nd a;grind[dZ,eh,lE,List.length_nil]
theorem aH.lines{c:Nat}:aH c cS:=aH.rep (λ_=>(aH.dH (by simp)).ae λt=>aH.ite (aH.nl.ae λ_=>aH.ret _) (aH.ret _)) _
theorem aH.part{D:ak Unit}(hD:aH 10 D){dq:Option (ak Unit)}(d:∀q,dq=some q->aH 50 q):aH 11 (cw D dq):=by
 intro r pd;cases r with
 |nil=>exact cV _
 |cons b t=>
  have e:∀(f:aa->Option aa)(x:UInt8),(∀r q,f r=some q->q.length<=r.length)->dZ 11 (b::t) pd (js f [x] t pd):=by grind[js,dZ,List.length_cons,List.length_nil]
  unfold cw;simp only;split
  ·grind[dZ,List.length_drop,List.length_cons]
  ·split
   ·exact e _ _ λr q g=>(c r q g)
   ·split
    ·exact hD.mono (by decide) _ _
    ·cases dq with
     |none=>grind[dZ,List.length_cons]
     |some q=>
      simp only;split
      ·grind[Nat.le_of_lt,yw]
      ·split
       ·have:=d q rfl t pd;cases hm:q t pd with
        |ok a r1 i=>grind[dZ,List.length_cons]
        |more op nd ds=>grind[dZ,List.length_cons]
        |bad _=>trivial
        |deep _=>trivial
       grind[dZ,List.length_cons]
where
 c:∀(r q:aa),gZ r=some q->q.length<=r.length:=by
  intro r q h
  have:∀(n:Nat)(r q:aa),r.length<=n->gZ r=some q->q.length<=r.length:=by
   intro n;induction n with
   |zero=>simp_all[n1,Nat.le_zero,gZ]
   |succ n j=>
    intro r q aw h;cases r with
    |nil=>grind
    |cons b t=>unfold gZ at h;grind
  exact this _ r q (cV _) h
theorem aH.Cs{p:ak Unit}{n:Nat}(aB:aH n p)(c:UInt8):aH n (iO c p):=by
 refine aH.rep (λ_=>?_) _;intro r pd;cases r with
 |nil=>exact aH.b5 (α:=Unit⊕Unit) (by simp) [] pd
 |cons b t=>
  simp only;split
  ·grind[dZ,List.length_cons]
  ·exact(aB.ae (λ_=>aH.ret _)) _ _
end
theorem dZ.mono{c:Nat}{α:Type}{r0 r:aa}{b pd:ao}{x:dD α}(h:dZ c r pd x)(ad:eh pd+100*r.length<=eh b+100*r0.length):dZ c r0 b x:=by
 cases x with
 |ok a r1 d=>grind[dZ]
 |more op nd ds=>grind[dZ]
 |bad _=>trivial
 |deep _=>trivial
theorem dZ.pR{c b:Nat}{α:Type}{r:aa}{pd:ao}{x:dD α}(h:dZ c r pd x)(ad:c<=b):dZ b r pd x:=by
 cases x with
 |ok a r1 d=>exact h
 |more op nd ds=>grind[dZ]
 |bad _=>trivial
 |deep _=>trivial
theorem dZ.less{c b k:Nat}{α:Type}{r0 r:aa}{pd:ao}{x:dD α}(h:dZ c r pd x)(hl:r.length+k<=r0.length)(aF:c<=b+100*k):dZ b r0 pd x:=by
 cases x with
 |ok a r1 d=>grind[dZ]
 |more op nd ds=>grind[dZ]
 |bad _=>trivial
 |deep _=>trivial
theorem dZ.ae{c:Nat}{α β:Type}{m:ak α}{k:α->ak β}{r v:aa}{pd:ao}(h:dZ c r pd (m v pd))(hk:∀a,aH c (k a)):dZ c r pd (Go.Eng.ae m k v pd):=by
 unfold Go.Eng.ae;cases hm:m v pd with
 |ok a r1 b=>rw[hm] at h;have:=hk a r1 b;exact this.mono (by grind[dZ])
 |more op nd ds=>rw[hm] at h;exact h
 |bad _=>trivial
 |deep _=>trivial
theorem aH.Sy{c a:Nat}{α:Type}{k:Nat}{f:ak α}(hf:aH c f){r:aa}{pd:ao}(hl:k<=r.length)(aF:c<=a+100*k):dZ a r pd (Go.Eng.ae (bU k) (λ_=>f) r pd):=
 (hf (r.drop k) pd).less (by grind) aF
section
variable{D:ak Unit}(hD:aH 10 D)
include hD
theorem aH.double:aH 50 (ey D):=((((aH.Cs (n:=11) (aH.part hD (dq:=none) (λq h=>by cases h)) 34)).aK [34]).named [34]).mono (by decide)
theorem aH.yB:aH 11 (cw D (some (ey D))):=aH.part hD λq h=>by grind[aH.double]
theorem aH.param:aH 12 (qT D):=(aH.Cs (aH.yB hD) 125).aK [125]
theorem aH.cG:aH 11 (Go.Eng.cG D):=by
 refine aH.rep (λ_=>?_) _;intro r pd;cases r with
 |nil=>exact aH.b5 (α:=Unit⊕Unit) (by simp) [] pd
 |cons b t=>
  simp only;split
  ·exact cV _
  ·exact((aH.yB hD).ae (λ_=>aH.ret _)) _ _
theorem aH.jL{x:aa}(a:x.length<=11):aH 11 (Go.Eng.jL D x):=(aH.dH a).ae λt=>by grind[aH.b5,aH.cG,aH.bJ]
omit hD in
theorem alm{r:aa}{x:aa×aa×aa}(h:dt r=some x):x.1.length+x.2.1.length<=r.length+1/\x.2.2.length<=1:=by
 have a:=YD _ r (cV _);cases aF:gf r with
 |none=>grind
 |some y=>
  obtain⟨q,c⟩:=y;rw[aF] at a;obtain⟨w,e,aG⟩:=a;rw[h] at aG;have f:=YG _ _ _ aF;cases b:dl (w++c) 0 with
  |none=>grind
  |some d=>rw[b] at aG;cases aG;have:=Yd _ _ (cV _) 0 d b;grind
omit hD in
theorem aH.ss{tabs:Bool}{r0 v:aa}{pd:ao}(hl:v.length+1<=r0.length):dZ 10 r0 pd (hs tabs v pd):=by
 have b:∀d:aa,eh (pd++[(d,tabs)])=eh pd+d.length+1:=by intro d;rw[Zo];grind[eh,lE]
 have ad:dZ 10 r0 pd (.more [] [120] (pd++[([120],tabs)]):dD Unit):=by grind[dZ,List.length_cons,List.length_nil]
 unfold hs;cases a:bp v with
 |none=>exact ad
 |some r'=>
  have c:=(dT a).length_le;simp only;cases e:ar r' with
  |eof=>exact ad
  |line=>trivial
  |op o=>trivial
  |word w p=>
   simp only;cases aG:dt r' with
   |none=>trivial
   |some x=>obtain⟨d,q,f⟩:=x;obtain⟨g,h⟩:=alm aG;have i:=(Rn _ _ _ (cV _) aG).length_le;grind[dZ,List.length_nil]
theorem aH.jj:aH 11 (dx D):=by
 intro r pd;unfold dx;cases d:bp r with
 |none=>
  have:fF r pd=Go.Eng.b5 [] r pd:=by grind[fF]
  rw[de (nd:=(cQ [] pd []).1) (ds:=(cQ [] pd []).2) (op:=[]) this];exact aH.b5 (α:=Bool) (x:=[]) (by simp) r pd
 |some r'=>
  have f:=(dT d).length_le;have g:(r'.dropWhile b_).length<=r'.length:=(Co).length_le;by_cases e:eV (bs (r'.dropWhile b_))=true
  ·have a:fF r pd= .ok (some (bs (r'.dropWhile b_))) ((r'.dropWhile b_).drop (bs (r'.dropWhile b_)).length) pd:=by simp_all[fF,bh]
   rw[aM a];have ad:=Sf e;have h:=Rj (r:=r'.dropWhile b_);generalize r'.dropWhile b_=q at*;have hl:(q.drop (bs q).length).length+1<=r.length:=by grind
   generalize q.drop (bs q).length=v at*;simp only;refine dZ.ae ?_ λ_=>aH.ret _;by_cases b:bs q=[60,60]
   ·rw[bh b];exact(aH.ss (tabs:=false) (pd:=pd) hl).pR (by decide)
   ·rw[aO b];by_cases c:bs q=[60,60,45]
    ·rw[bh c];exact(aH.ss (tabs:=true) (pd:=pd) hl).pR (by decide)
    ·rw[aO c];exact(aH.jL hD (by decide) v pd).less hl (by decide)
  ·have a:fF r pd= .ok none r' pd:=by simp_all[fF,aO]
   rw[aM a];show eh pd+100*r'.length<=eh pd+100*r.length;omega
theorem aH.mG:aH 11 (gJ D):=aH.rep (λ_=>(aH.jj hD).ae λb=>aH.ret _) _
theorem aH.simple(fr:Bool):aH 11 (hy fr D):=aH.rep (λ_=>(aH.jj hD).ae λb=>aH.ite (aH.ret _) ((aH.dH (by simp)).ae λt=>by
 cases t with
 |word _ _=>grind[aH.cG,aH.ae,aH.ret]
 |op o=>simp[aH.ite,aH.bJ,aH.ret]
 |_=>simp[aH.ret])) _
end
theorem aH.Mw{c:Nat}(x:aa)(h:x.length<=c):aH c (cS.aK x):=((aH.lines (c:=0)).aK x).mono (by omega)
theorem aH.pipe{da:ak Unit}(h:aH 50 da):aH 50 (fi da):=(aH.dH (by decide)).ae λt=>(aH.ite (aH.dj _) (aH.ret _)).ae λ_=>h.ae λ_=>
 aH.rep (λ_=>(aH.dH (by simp)).ae λt=>aH.ite ((aH.dj _).ae λ_=>(aH.Mw _ (by decide)).ae λ_=>h.ae λ_=>aH.ret _) (aH.ret _)) _
theorem aH.pE{a:ak Unit}(h:aH 50 a):aH 50 (hB a):=h.ae λ_=>
 aH.rep (λ_=>(aH.dH (by simp)).ae λt=>aH.ite ((aH.dj _).ae λ_=>(aH.Mw _ (by decide)).ae λ_=>h.ae λ_=>aH.ret _) (aH.ret _)) _
theorem aH.list{c2:ak Unit}(h:aH 50 c2)(c:Ctx)(no:Bool):aH 50 (oe c2 c no):=(aH.Mw _ (by grind)).ae λ_=>aH.rep (λk=>(aH.dH (by grind)).ae λt=>
 aH.ite (aH.ite (aH.ret _) (aH.b5 (by grind))) (aH.ite (aH.ret _) (h.ae λ_=>(aH.dH (by simp)).ae λt=>by
  cases t with
  |eof=>simp[aH.ret]
  |line=>exact aH.lines.ae λ_=>aH.ret _
  |word _ _=>exact aH.bJ
  |op o=>exact aH.ite ((aH.dj _).ae λ_=>aH.lines.ae λ_=>aH.ret _) (aH.ite (aH.ret _) aH.bJ)))) _
structure yL(l:dS):Prop where
 ls:∀c no,aH 50 (l.ls c no)
 pm:aH 12 l.pm
 cp:∀r pd,hv (ar r)=true->dZ 50 r pd (l.cp (ar r) r pd)
 rd:aH 11 l.rd
 dl:aH 10 l.dl
section
variable{l:dS}(hl:yL l)
include hl
theorem aH.body{x:aa}(a:x.length<=60):aH 60 (iF l x):=(((aH.cW (c:=0) gD).aK x).mono (by omega)).ae λ_=>(((hl.ls _ _).aK _).mono (by decide)).ae λ_=>aH.cW _
theorem aH.cond:aH 70 (qd l):=aH.rep (λ_=>(((hl.ls _ _).aK _).mono (by decide)).ae λ_=>(aH.cW _).ae λ_=>(((hl.ls _ _).aK _).mono (by decide)).ae λ_=>(aH.dH (by simp)).ae λt=>
 aH.ite ((aH.cW _).ae λ_=>aH.ret _) (aH.ite ((aH.cW _).ae λ_=>(((hl.ls _ _).aK _).mono (by decide)).ae λ_=>(aH.cW _).ae λ_=>aH.ret _) ((aH.cW _).ae λ_=>aH.ret _))) _
theorem aH.words:aH 11 (pC l.dl):=aH.rep (λ_=>(aH.dH (by simp)).ae λt=>by
 cases t with
 |eof=>simp[aH.b5]
 |word _ _=>exact(aH.cG hl.dl).ae λ_=>aH.ret _
 |line=>simp[aH.ret]
 |op o=>simp[aH.ite,aH.dj,aH.ae,aH.ret,aH.bJ]) _
theorem aH.for_:aH 60 (pD l l.dl):=(aH.dH (by decide)).ae λt=>by
 cases t with
 |eof=>exact aH.b5 (by decide)
 |word w p=>
  cases p with
  |true=>
   refine aH.ite ((aH.dj _).ae λ_=>((aH.aK (c:=11) ((aH.dH (by simp)).ae λt=>?_) eg).mono (by decide)).ae λ_=>aH.body hl (by decide)) aH.bJ
   exact aH.ite ((aH.dj _).ae λ_=>aH.lines.ae λ_=>aH.ret _) (aH.lines.ae λ_=>(aH.dH (by simp)).ae λt=>
    aH.ite ((aH.dj _).ae λ_=>(aH.words hl).ae λ_=>aH.lines.ae λ_=>aH.ret _) (aH.ret _))
  |false=>exact aH.bJ
 |_=>exact aH.bJ
theorem aH.w2:aH 12 (kQ l.dl):=aH.rep (λ_=>(aH.dH (by decide)).ae λt=>by
 cases t with
 |eof=>simp[aH.b5]
 |word _ _=>
  refine((aH.cG hl.dl).aK [41]).ae λ_=>(aH.dH (by decide)).ae λt=>?_;cases t with
  |op o=>exact aH.ite ((aH.dj _).ae λ_=>aH.ret _) (aH.ite ((aH.dj _).ae λ_=>aH.ret _) aH.bJ)
  |eof=>simp[aH.b5]
  |_=>exact aH.bJ
 |_=>exact aH.bJ) _
theorem aH.items:aH 50 (nu l l.dl):=aH.rep (λ_=>aH.lines.ae λ_=>(aH.dH (by simp)).ae λt=>aH.ite (aH.b5 (by simp)) (aH.ite ((aH.dj _).ae λ_=>aH.ret _)
 ((aH.ite (aH.dj _) (aH.ret _)).ae λ_=>((aH.w2 hl).mono (by decide)).ae λ_=>(hl.ls _ _).ae λ_=>(aH.dH (by simp)).ae λt=>aH.ite ((aH.dj _).ae λ_=>aH.ret _) (aH.ret _)))) _
theorem aH.w3:aH 60 (qV l l.dl):=(aH.dH (by decide)).ae λt=>by
 cases t with
 |eof=>exact aH.b5 (by decide)
 |word _ _=>refine((aH.aK (c:=11) ((aH.cG hl.dl).ae λ_=>aH.lines.ae λ_=>(aH.dH (by simp)).ae λt=>aH.ite (aH.b5 (by simp)) (aH.ret _)) ([32]++fl++[10]++eo)).mono (by decide)).ae λt=>?_;exact aH.ite ((aH.dj _).ae λ_=>((aH.items hl).aK _).mono (by decide)) aH.bJ
 |_=>exact aH.bJ
theorem dZ.kind{r:aa}{pd:ao}(aF:hv (ar r)=true):dZ 50 r pd (g0 l (ar r) r pd):=by
 obtain⟨c,d⟩:=Y2 aF;have e:(mC (ar r)).length<=r.length:=by
  cases a:ar r with
  |eof=>rw[a] at aF;cases aF
  |line=>rw[a] at aF;cases aF
  |op o=>
   have:=(il a).2.1.length_le;rw[a] at aF;have b:o=[40]:=by grind[hv]
   subst b;exact this
  |word w p=>
   rw[a] at aF;cases p with
   |false=>cases aF
   |true=>exact(qj a).1.length_le
 rw[Y3 aF];have hk:aH 70 (CF l (ar r)):=by
  unfold CF;cases a:ar r with
  |op o=>exact(((hl.ls _ _).aK _).mono (by decide)).ae λ_=>aH.ji _
  |word w p=>refine aH.ite ((((hl.ls _ _).aK _).mono (by decide)).ae λ_=>aH.cW _) (aH.ite (aH.cond hl) (aH.ite ((aH.for_ hl).mono (by decide)) (aH.ite ((aH.w3 hl).mono (by decide)) ?_)));exact(((hl.ls _ _).aK _).mono (by decide)).ae λ_=>(aH.body hl (by decide)).mono (by decide)
  |_=>exact aH.bJ
 exact(hk _ pd).less (k:=1) (by grind) (by decide)
end
theorem aH.Sz:∀(t:aa)(d n:Nat),hR d t= .more n->n<=d+t.length+2
 |[],d,n,h=>by grind[hR]
 |b::t,d,n,h=>by have a:=aH.Sz t;unfold hR at h;grind
theorem aH.vK{lo:Option dS}(hl:∀l,lo=some l->yL l):aH 10 (dd lo):=by
 intro r pd;unfold dd;split
 ·rename_i h;rw[C7] at h;obtain⟨t,rfl⟩:=h;show dZ 10 _ pd (ns t pd);unfold ns;cases a:hR 0 t with
  |ok q=>have:=(Ae 0 t q a).length_le;grind[dZ,List.length_append]
  |more n=>have:=aH.Sz t 0 n a;grind[dZ,List.length_append,List.length_replicate,List.length_cons,List.length_nil]
  |bad q=>trivial
 ·split
  ·rename_i h;rw[C7] at h;have b:=h.length_le;cases lo with
   |none=>trivial
   |some l=>have c:=hl l rfl;have aB:aH 60 (sq l):=((((c.ls _ _).aK _).mono (by decide)).named _).ae λ_=>aH.ji _;exact aH.Sy aB (k:=2) (by omega) (by decide)
  ·split
   ·rename_i h;rw[C7] at h;have b:=h.length_le;cases lo with
    |none=>trivial
    |some l=>exact aH.Sy ((hl l rfl).pm.named _) (k:=2) (by omega) (by decide)
   grind[dZ,List.length_drop]
theorem aH.function{fr:Bool}{lo:Option dS}(hl:∀l,lo=some l->yL l){u:aa}{pd:ao}:dZ 50 (40::u) pd (lF fr lo (40::u) pd):=by
 unfold lF;cases lo with
 |none=>trivial
 |some l=>
  have d:=hl l rfl;dsimp only;split
  ·have aw:∀{α:Type}{c:Nat}{m:ak α}{r:aa}{pd:ao}{x:aa},dZ c r pd (m r pd)->dZ c r pd (m.named x r pd):=by
    intro α c m r pd x h;unfold ak.named;cases hm:m r pd with
    |more op nd ds=>rw[hm] at h;exact h
    |ok a r1 e=>grind
    |bad _=>trivial
    |deep _=>trivial
   refine aw ?_;refine aH.Sy (c:=60) (k:=1) ?_ (by simp) (by decide);refine(aH.dH (by decide)).ae λt=>aH.ite (aH.b5 (by decide)) (aH.ite ((aH.dj _).ae λ_=>(aH.Mw _ (by decide)).ae λ_=>?_) aH.bJ);intro r pd;cases b:bp r with
   |none=>rw[de (iG b)];exact aH.b5 (α:=Unit) (by decide) r pd
   |some r'=>
    rw[aM (ch b)];have f:=(dT b).length_le;refine dZ.mono (r:=r') (pd:=pd) ?_ (by omega);split
    ·exact aH.b5 (α:=Unit) (by decide) _ _
    ·split
     ·rename_i aF;exact(dZ.ae ((d.cp r' pd aF).pR (by decide)) λ_=>aH.ite (d.rd.mono (by decide)) (aH.ret _))
     ·trivial
  ·trivial
theorem aH.command{fr:Bool}{lo:Option dS}(hl:∀l,lo=some l->yL l):aH 50 (fx fr lo (dd lo)):=by
 have hD:=aH.vK hl;intro r pd;unfold fx;cases c:bp r with
 |none=>rw[de (iG c)];exact aH.b5 (α:=Unit) (by decide) r pd
 |some r'=>
  rw[aM (ch c)];have f:=(dT c).length_le;refine dZ.mono (r:=r') (pd:=pd) ?_ (by omega);by_cases ad:ar r'= .eof
  ·rw[bh ad];exact aH.b5 (α:=Unit) (by decide) _ _
  rw[aO ad];by_cases aF:hv (ar r')=true
  ·rw[bh aF];refine dZ.ae ?_ λ_=>(aH.mG hD).mono (by decide);cases lo with
   |none=>trivial
   |some l=>
    have:=dZ.kind (hl l rfl) aF (r:=r') (pd:=pd);show dZ 50 r' pd ((g0 l (ar r')).named _ r' pd);unfold ak.named;cases hm:g0 l (ar r') r' pd with
    |more op nd ds=>rw[hm] at this;exact this
    |ok a r1 g=>grind
    |bad _=>trivial
    |deep _=>trivial
  ·rw[aO aF];cases h:ar r' with
   |eof=>grind
   |line=>trivial
   |op o=>exact aH.ite (((aH.jj hD).mono (by decide)).ae λ_=>(aH.simple hD fr).mono (by decide)) aH.bJ _ _
   |word w p=>
    refine aH.ite aH.bJ (((aH.jj hD).mono (by decide)).ae λb=>aH.ite ((aH.simple hD fr).mono (by decide)) (((aH.cG hD).mono (by decide)).ae λ_=>aH.ite ?_ ((aH.simple hD fr).mono (by decide)))) _ _;intro r pd;cases c:bp r with
    |none=>rw[de (iG c)];exact aH.b5 (α:=Unit) (by decide) r pd
    |some e=>
     rw[aM (ch c)];have f:=(dT c).length_le;refine dZ.mono (r:=e) (pd:=pd) ?_ (by omega);by_cases d:ar e= .op [40]
     ·rw[bh d];obtain⟨u,rfl⟩:=(il d).2.1;exact dZ.ae (aH.function hl) λ_=>aH.ite (aH.ret _) ((aH.mG hD).mono (by decide))
     ·rw[aO d];exact(aH.simple hD fr).mono (by decide) _ _
theorem Zp{fr:Bool}{lo:Option dS}(hl:∀l,lo=some l->yL l)(b:Bool):yL {ls:=oe (hB (fi (fx fr lo (dd lo)))),pm:=qT (dd lo),cp:=qe lo,rd:=gJ (dd lo),dl:=dd lo,has:=b}:=by
 have hD:=aH.vK hl;refine⟨λc no=>aH.list (aH.pE (aH.pipe (aH.command hl))) c no,aH.param hD,λr pd aF=>?_,aH.mG hD,hD⟩;cases lo with
 |none=>trivial
 |some l=>
  have:=dZ.kind (hl l rfl) aF (r:=r) (pd:=pd);show dZ 50 r pd ((g0 l (ar r)).named _ r pd);unfold ak.named;cases hm:g0 l (ar r) r pd with
  |more op nd ds=>rw[hm] at this;exact this
  |ok a r1 d=>grind
  |bad _=>trivial
  |deep _=>trivial
theorem tz(fr:Bool):∀n,yL (aR fr n)
 |0=>Zp (λl h=>by cases h) false
 |n+1=>Zp (λl h=>by cases h;exact tz fr n) true
end Go.Eng
namespace Go.Eng
open Go Go.Proofs
theorem Mx{S r:aa}(a:r<:+S):zW (ax S r) S.length=some (ax S r):=by grind[zW,ax,eG,oQ]
theorem aln{S:aa}(dg:S.length<=1000000):∀(n:Nat)(r:aa),r.length<n->r<:+S->fixF (HK S λ_=>some (-1)) n (ax S r)=some (kU S (gd r)):=by
 intro n;induction n with
 |zero=>omega
 |succ n c=>
  intro r aw a;rw[e7];generalize fixF (HK S _) n=k at c;unfold HK;cases r with
  |nil=>simp[ir,gd,kU]
  |cons b t=>
   have d:=iP dg a;simp only[m9 a,bw,aJ];rw[bS ⟨(hX a).1,trivial⟩];simp only[jz a,d,q2];unfold gd;by_cases e:b=39
   ·grind[kU]
   ·simp only[e,bF,aU,cn];grind[List.length_cons,dY]
theorem alo{S r:aa}(dg:S.length<=1000000)(a:r<:+S):BZ S (ax S r)=some (kU S (gd r)):=by unfold BZ a8;rw[Mx a,aQ rfl];grind[aln,lI,Nat.le_trans,eG]
theorem alp{S:aa}(dg:S.length<=1000000):∀(n:Nat)(r:aa),r.length+1<n->r<:+S->fixF (BX S λ_=>some (-1)) n (ax S r)=some (kU S (gZ r)):=by
 intro n;induction n with
 |zero=>omega
 |succ n f=>
  intro r aw a;have i:=eG a;have d:n≠0->fixF (BX S λ_=>some (-1)) n ((S.length:Int)+1)=some (-1):=by
   intro h0
   obtain⟨m,rfl⟩:∃m,n=m+1:=⟨n-1,by omega⟩
   grind[e7,BX]
  rw[e7];generalize fixF (BX S _) n=k at f d;unfold BX a8;cases r with
  |nil=>simp[ir,gZ,kU]
  |cons b t=>
   have g:=iP dg a;have j:(b::t).length=t.length+1:=rfl;simp only[m9 a,bw,aJ];rw[bS ⟨(hX a).1,trivial⟩];simp only[jz a,g,nU,mI];unfold gZ;by_cases h:b=96
   ·grind[kU]
   simp only[h,bF,aU,cn];rw[bS ⟨(hX a).1,trivial⟩];by_cases e:b=92
   ·subst e;simp only[bw,aJ,cE];cases t with
    |nil=>
     have:W (ax S []+1)=(S.length:Int)+1:=by grind[ir,dV]
     rw[this];exact d (by omega)
    |cons c u=>grind[iP,dY,List.length_cons]
   ·simp only[e,bF,aU,cn];grind[dY]
theorem alq{S r:aa}(dg:S.length<=1000000)(a:r<:+S):z1 S (ax S r)=some (kU S (gZ r)):=by unfold z1 a8;rw[Mx a,aQ rfl];grind[alp,eG,gg]
theorem alr(l:aa)(hl:(l.length:Int)<=1048576)(j g:Int->Option (Int×Int))(z:∀d,j d=g d)(A:∀d,∃v,g d=some v):∀(m:Nat)(d k:Int),0<=d->d<=k->k<=2000000->(l.length:Int)-k<m->0<m->
  ∃v,fixF (LB l j) m (d,k)=some v/\fixF (Bz l g) m (d,k)=some v:=by
 intro m;induction m with
 |zero=>omega
 |succ m o=>
  intro d k aG p B hm _;have hk:0<=k:=by omega
  simp only[fixF,LB,Bz,aZ,a8];by_cases ad:k<(l.length:Int)
  ·simp only[ad,hk,bw,aJ,cE,nB];rw[dV (x:=k+1) (by omega) (by omega),dV (x:=k+2) (by omega) (by omega),dV (x:=d+1) (by omega) (by omega),dV (x:=d-1) (by omega) (by omega)];have h:0<=k+1:=by omega
   have a:=λ(e:Int)(ad:0<=e)(c:e<=k+1)=>o e (k+1) ad c (by omega) (by omega) (by omega);have u0:=a d (by omega) (by omega);have u1:=a (d+1) (by omega) (by omega);by_cases c:k+1<(l.length:Int)
   ·have f:¬k+1=(l.length:Int):=by omega
    simp only[c,f,h,bw,bF,aJ,aU,cE,nB,implies_true];generalize ((at' l k).toNat:Int)=b;generalize ((at' l (k+1)).toNat:Int)=n;by_cases q:b=39
    ·grind
    by_cases r:b=34
    ·grind
    by_cases s:b=92
    ·grind
    by_cases t:b=96
    ·grind
    by_cases u:b=40
    ·grind
    by_cases i:b=41
    ·subst i;by_cases aB:0<d
     ·have w:=a (d-1) (by omega) (by omega);grind
     grind
    grind
   ·have y:((0:UInt8).toNat:Int)=0:=rfl;simp only[c,bF,aU,y,eB,false_implies,implies_true,cE];generalize ((at' l k).toNat:Int)=b;have f:k+1=(l.length:Int):=by omega
    simp only[f,bw];rw[<-f];by_cases q:b=39
    ·grind
    by_cases r:b=34
    ·grind
    by_cases s:b=92
    ·grind
    by_cases t:b=96
    ·grind
    by_cases u:b=40
    ·grind
    by_cases i:b=41
    ·subst i;by_cases aB:0<d
     ·have w:=a (d-1) (by omega) (by omega);grind
     grind
    grind
  ·simp only[ad,bF,aU];simp_all
theorem alu{S r:aa}(dg:S.length<=1000000)(a:r<:+S):EB S (ax S r)=some (qp S (hR 0 r)):=by
 have bf:=Ys dg a;have h0:0<=ax S r:=by grind[eG,ax]
 have hle:= @oQ r S;obtain⟨v,ad,b⟩:=alr S (by omega) (λx=>some ((-1),(W (x+2)))) (λx=>some ((-1),(W (x+2)))) (λ_=>rfl) (λd=>⟨_,rfl⟩) bC 0 (ax S r) (by omega) h0 (by omega) (by grind[gg]) (by simp[gg]);have c:EB S (ax S r)=some v:=by unfold EB a8;rw[Mx a,aQ rfl];exact ad
 have e:BA S (ax S r)=some v:=by unfold BA a8;rw[IB a,aQ rfl];exact b
 grind
theorem alv{S d:aa}{tabs:Bool}{r:aa}(dg:S.length<=1000000)(a:r<:+S):Eg S (ax S r) d tabs=some (match nq d tabs r with|some q=>ax S q|none=> -1):=by
 have bf:=Yn (d:=d) (tabs:=tabs) dg a;have h0:0<=ax S r:=by grind[eG,ax]
 have hle:= @oQ r S;obtain⟨v,r1,b⟩:=ajQ S d tabs (by omega) bC (ax S r) h0 hle (by grind[gg]) (by simp[gg]);have c:Eg S (ax S r) d tabs=some v:=by unfold Eg;rw[Mx a,aQ rfl];exact r1
 have e:Bt S (ax S r) d tabs=some v:=by unfold Bt;rw[IB a,aQ rfl];exact b
 grind
theorem SD{S r:aa}(dg:S.length<=1000000)(a:r<:+S):yg S (ax S r)=some (bs r):=by
 have ad:¬ax S r<0:=by grind[eG,ax]
 unfold yg La;by_cases b:(S.length:Int)<=ax S r
 ·have c:r=[]:=yC.1 (show ax S r=S.length by have:= @oQ r S;omega);simp_all[bs,lg,xz,List.isPrefixOf]
 ·simp only[ad,b,bF,aU];rw[aQ rfl];unfold a8;show fixF (HE S (ax S r) lg λ_=>some []) bC 0=_;rw[(X7 S (ax S r) (by omega) (by omega) (by omega) lg (by decide) (by decide) (λ_=>some []) bC 0 (by omega) (by decide) (by rw[gg];decide) (by simp[gg])).1];rw[RW a];grind[bs,Lib.hasPrefix,List.isPrefixOf,List.find?,lg]
theorem My(w:aa)(l:bt)(hl:l.length<=1000):yh w l=some (l.contains w):=by
 have a:∀(n i:Nat),l.length-i<n->i<=l.length->fixF (HG w l λ_=>some false) n (i:Int)=some ((l.drop i).contains w):=by
  intro n;induction n with
  |zero=>omega
  |succ n b=>
   intro i aw bf;rw[e7];generalize fixF (HG w l _) n=k at b;unfold HG;by_cases c:i<l.length
   ·have d:(i:Int)<(l.length:Int):=by omega
    have e:l.drop i=at' l (i:Int)::l.drop (i+1):=by rw[NB c];simp_all[at',abV,abY]
    simp only[d,bw,aJ];rw[bS ⟨by omega,trivial⟩,dV (by omega) (by omega),e];by_cases he:at' l (i:Int)=w
    ·grind
    ·have:=b (i+1) (by omega) (by omega);have f:(i:Int)+1=((i+1:Nat):Int):=by omega
     simp only[he,bF,aU,f];rw[this];have:(w==at' l (i:Int))=false:=by grind
     rw[List.contains_cons,this,Bool.false_or]
   grind
 unfold yh a8;have:=a bC 0 (by grind[gg]) (by omega);grind
theorem Zr(w:aa):yi w=some (qb w):=by unfold yi;rw[aQ (My w _ (by decide))];rfl
theorem Zs(w:aa):Eh w=some (rA w):=by unfold Eh;rw[aQ (My w _ (by decide))];rfl
theorem Fl(w:aa):vA w=some (eV w):=by unfold vA;rw[aQ (My w _ (by decide))];rfl
structure ca where
 S:aa
 ne:Int
def ca.st(e:ca)(r:aa)(pd:ao)(tr:Bool):ah:=(e.S,ax e.S r,e.ne,pd,0,0,[],[],tr)
def ca.tt(e:ca)(pd:ao):ah:=(e.S,e.S.length,e.ne,pd,0,0,[],[],true)
structure cB(e:ca)(r:aa)(pd:ao):Prop where
 bZ:e.S.length<=1000000
 nl:dr e.S
 IP:e.S≠[]
 sfx:r<:+e.S
 jM:eh pd+100*r.length<=100*e.S.length
theorem cB.mono{e:ca}{r r':aa}{pd:ao}(h:cB e r pd)(ad:r'<:+r):cB e r' pd:=
 ⟨h.bZ,h.nl,h.IP,ad.trans h.sfx,by have:=h.jM;grind⟩
structure nY(e:ca)(r0:aa)(st:ah):Prop where
 s:st.1=e.S
 lo:ax e.S r0<=st.2.1
 bf:st.2.1<=(e.S.length:Int)+1+r0.length
 nd:st.2.2.2.2.2.2.1.length+eh st.2.2.2.1<=100*e.S.length+1000
 op:st.2.2.2.2.2.2.2.1.length<=r0.length+1
def iI(q:Bool)(e:ca)(r0:aa)(nd:aa)(ds:ao)(st:ah):Prop:=
 (st.2.2.2.2.1=1/\st.2.2.2.2.2.2.1=nd/\st.2.2.2.1=ds/\nY e r0 st/\(e.S.length:Int)<=st.2.1)\/(q=true/\nd=[]/\st=e.tt ds)
def iQ(e:ca)(r0:aa)(st:ah):Prop:=st.2.2.2.2.1=2/\nY e r0 st
def fY(e:ca)(r:aa)(pd:ao)(st:ah):Prop:=∃tr,st=e.st r pd tr/\(r=[]->tr=false)
def bL{α β:Type}(q:Bool)(e:ca)(r0:aa)(m:dD α)(pr:β->ah)(cv:α->aa->β->Prop)(y:Option β):Prop:=∃b,y=some b/\match m with
 | .ok a r pd=>r<:+r0/\cB e r pd/\fY e r pd (pr b)/\cv a r b
 | .more _ nd ds=>iI q e r0 nd ds (pr b)
 | .bad _=>iQ e r0 (pr b)
 | .deep _=>iQ e r0 (pr b)
theorem nY.mono{e:ca}{r0 r1:aa}{st:ah}(h:nY e r0 st)(ad:r0<:+r1):nY e r1 st:=by
 have:=ad.length_le;have a:ax e.S r1<=ax e.S r0:=by grind[ax]
 exact⟨h.s,by have:=h.lo;omega,by have:=h.bf;omega,h.nd,by have:=h.op;omega⟩
theorem iI.mono{q:Bool}{e:ca}{r0 r1:aa}{nd:aa}{ds:ao}{st:ah}(h:iI q e r0 nd ds st)(ad:r0<:+r1):iI q e r1 nd ds st:=by
 rcases h with⟨a,b,c,d,f⟩|h
 ·exact .inl ⟨a,b,c,d.mono ad,f⟩
 ·exact .inr h
theorem iI.up{q:Bool}{e:ca}{r0:aa}{nd:aa}{ds:ao}{st:ah}(h:iI false e r0 nd ds st):iI q e r0 nd ds st:=by
 rcases h with h|h
 ·exact .inl h
 grind
theorem iI.z{e:ca}{r0:aa}{nd:aa}{ds:ao}{st:ah}(h:iI false e r0 nd ds st):st.2.2.2.2.1=1/\st.2.2.2.2.2.2.1=nd/\st.2.2.2.1=ds/\nY e r0 st/\(e.S.length:Int)<=st.2.1:=by
 rcases h with h|h
 ·exact h
 grind
theorem iQ.mono{e:ca}{r0 r1:aa}{st:ah}(h:iQ e r0 st)(ad:r0<:+r1):iQ e r1 st:=⟨h.1,h.2.mono ad⟩
theorem bL.mono{q:Bool}{α β:Type}{e:ca}{r0 r1:aa}{m:dD α}{pr:β->ah}{cv:α->aa->β->Prop}{y:Option β}(h:bL q e r0 m pr cv y)(ad:r0<:+r1):bL q e r1 m pr cv y:=by obtain⟨b,a,h⟩:=h;refine⟨b,a,?_⟩;grind[trans,iI.mono,iQ.mono]
theorem bL.dU{q:Bool}{α β:Type}{e:ca}{r0:aa}{m:dD α}{pr:β->ah}{cv:α->aa->β->Prop}{y a:Option β}(h:bL q e r0 m pr cv y)(b:a=y):bL q e r0 m pr cv a:=b▸h
theorem bL.iH{q o:Bool}{α p s β l:Type}{C:dD p->dD s}(n:c3 C){e:ca}{r0 r:aa}{pd:ao}{m:ak α}{k:α->ak p}{pr:β->ah}{cv:α->aa->β->Prop}{i:l->ah}{cv':s->aa->l->Prop}{y:Option β}{K:β->Option l}
  (h:bL o e r0 (m r pd) pr cv y)
  (hk:∀a r1 d b,m r pd= .ok a r1 d->r1<:+r0->cB e r1 d->fY e r1 d (pr b)->cv a r1 b->bL q e r0 (C (k a r1 d)) i cv' (K b))
  (hm:∀op nd ds b,m r pd= .more op nd ds->iI o e r0 nd ds (pr b)->∃c,K b=some c/\iI q e r0 nd ds (i c))
  (t:∀b,iQ e r0 (pr b)->∃c,K b=some c/\iQ e r0 (i c)):
  bL q e r0 (C (Go.Eng.ae m k r pd)) i cv' (au y K):=by
 obtain⟨b,u,h⟩:=h;rw[u,aQ rfl];unfold Go.Eng.ae;cases j:m r pd with
 |ok a r1 d=>grind
 |more op nd ds=>rw[j] at h;obtain⟨c,f,g⟩:=hm op nd ds b j h;rw[n.more];exact⟨c,f,g⟩
 |bad q=>rw[j] at h;obtain⟨c,f,g⟩:=t b h;rw[n.bad];exact⟨c,f,g⟩
 |deep q=>rw[j] at h;obtain⟨c,f,g⟩:=t b h;rw[n.deep];exact⟨c,f,g⟩
theorem vR(e:ca)(r:aa)(a b c:Int)(d:ao)(f:aa)(g:bt)(h:Bool):gu (e.S,ax e.S r,a,d,b,c,f,g,h)=some (decide (r=[])):=by
 unfold gu;have:((e.S.length:Int)<=ax e.S r)↔r=[]:=by rw[<-yC (S:=e.S)];have:= @oQ r e.S;omega
 grind
theorem vS{e:ca}{r:aa}(j:r<:+e.S)(a c d:Int)(f:ao)(g:aa)(h:bt)(i:Bool):ie (e.S,ax e.S r,a,f,c,d,g,h,i)=some (r.headD 0):=by
 unfold ie;rw[vR,aQ rfl];cases r with
 |nil=>rfl
 |cons b t=>simp only[reduceCtorEq,bF,aU];simp_all[bS,hX,jz]
theorem SE(b:UInt8):zV b=some (gb b):=by grind[zV,gb,RQ,Iw]
theorem IQ{e:ca}{r:aa}(a:e.S.length<=1000000)(b:r<:+e.S)(c d f:Int)(g:ao)(h:aa)(i:bt)(j:Bool):hH (e.S,ax e.S r,c,g,d,f,h,i,j)=some (bs r):=by unfold hH;rw[SD a b];rfl
theorem xc(e:ca)(pd:ao):e.tt pd=e.st [] pd true:=by rfl
def Fm(e:ca)(r:aa)(pd:ao)(tr:Bool)(y:Option ah):Prop:=match bp r with
 |some r'=>∃a,y=some (e.st r' pd a)/\(a=tr\/a=true)
 |none=>y=some (e.tt pd)
theorem alw{e:ca}{x0:ah}{tr:Bool}(c:x0.1=e.S){j:Int->Option ah}(dg:e.S.length<=1000000):∀(n:Nat)(r:aa),r.length<n->r<:+e.S->fixF (Ec x0 tr j) n (ax e.S r)=j (ax e.S (lf r)):=by
 intro n;induction n with
 |zero=>omega
 |succ n d=>
  intro r aw a;rw[e7];generalize fixF (Ec x0 tr j) n=k at d;unfold Ec;rw[c];rw[vR,aQ rfl];cases r with
  |nil=>rfl
  |cons b t=>
   simp only[reduceCtorEq,bF,e2,aJ];rw[bS (λ_=>hX a),jz a,iP dg a];simp only[pF];unfold lf;by_cases f:b=10
   ·grind
   ·simp only[f,bF,e2,aJ,cn];grind[List.length_cons,dY]
theorem alx{e:ca}{pd:ao}(dg:e.S.length<=1000000)(x0:ah)(m:∃r0 tr0,x0=e.st r0 pd tr0):∀(n:Nat)(r:aa)(tr:Bool),r.length<n->r<:+e.S->
  Fm e r pd tr (fixF (BV x0 λx=>some (x0.1,x.1,x0.2.2.1,x0.2.2.2.1,x0.2.2.2.2.1,x0.2.2.2.2.2.1,x0.2.2.2.2.2.2.1,x0.2.2.2.2.2.2.2.1,x.2)) n (ax e.S r,tr)):=by
 obtain⟨r0,tr0,rfl⟩:=m;intro n;induction n with
 |zero=>omega
 |succ n d=>
  intro r tr aw a;rw[e7];generalize fixF (BV (e.st r0 pd tr0) _) n=k at d;unfold BV a8;dsimp only;have he:gu ((e.st r0 pd tr0).1,ax e.S r,(e.st r0 pd tr0).2.2.1,(e.st r0 pd tr0).2.2.2.1,(e.st r0 pd tr0).2.2.2.2.1,(e.st r0 pd tr0).2.2.2.2.2.1,(e.st r0 pd tr0).2.2.2.2.2.2.1,(e.st r0 pd tr0).2.2.2.2.2.2.2.1,tr)=some (decide (r=[])):=vR e r _ _ _ _ _ _ _;rw[he,aQ rfl];unfold Fm;cases r with
  |nil=>rw[l5];exact⟨tr,rfl,.inl rfl⟩
  |cons b t=>
   have j:t.length<n:=by grind
   simp only[reduceCtorEq,bF,e2,aJ];have f:(e.st r0 pd tr0).1=e.S:=rfl;rw[f];rw[bS (hX a),jz a,SE,aQ rfl,iP dg a];by_cases g:gb b=true
   ·rw[E5 g,g];exact d t tr j (dY a)
   have o:gb b=false:=by grind
   rw[o];simp only[aU,mI,Ye];by_cases l:b=92
   ·subst l;cases t with
    |nil=>
     rw[Yh];refine⟨tr,?_,.inl rfl⟩;have h0:decide (ax e.S []<(e.S.length:Int))=false:=by simp[ir]
     simp only[bw,aJ,h0,aU];rfl
    |cons c u=>
     simp only[bw,aJ,m9 (dY a)];rw[bS (λ_=>⟨(hX (dY a)).1,trivial⟩),jz (dY a)];simp only[pF];by_cases aF:c=10
     ·subst aF;have p:W (ax e.S (92::10::u)+2)=ax e.S u:=ks (w:=[92,10]) dg a;rw[p,RS];simp only[bw,aJ];by_cases hu:u=[]
      ·subst hu;rw[bh rfl];have:=d [] true (by grind) List.nil_suffix;unfold Fm at this;rw[l5] at this;obtain⟨q,ad,s⟩:=this;have:q=true:=by rcases s with rfl|rfl<;>rfl
       subst this;simp only;rw[xc];exact ad
      ·rw[aO hu];have:=d u true (by grind) (dY (dY a));unfold Fm at this;grind
     ·rw[RR aF];simp only[aF,bF,aU,show¬((92:UInt8)=35) by decide];exact⟨tr,rfl,.inl rfl⟩
   ·have v:decide (b=92)=false:=by grind
    rw[v];simp only[aU];rw[bS (λh=>by cases h)];by_cases i:b=35
    ·subst i;rw[RT];simp only[bw,aJ];have aG:fixF (Ec (e.st r0 pd tr0) tr λy=>k (y,tr)) bC (ax e.S (35::t))=k (ax e.S (lf (35::t)),tr):=alw (e:=e) rfl dg _ _ (lI (lK (eG a) dg)) a;rw[aG];have:lf (35::t)=lf t:=by rfl
     rw[this];exact d _ tr (Nat.lt_of_le_of_lt (Ab t) j) ((EL t).trans (dY a))
    ·rw[RU g i l];simp only[i,bF,aU];exact⟨tr,rfl,.inl rfl⟩
theorem alz{e:ca}{r:aa}{pd:ao}{tr:Bool}(h:cB e r pd):Fm e r pd tr (g6 (e.st r pd tr)):=by unfold g6 a8;exact alx h.bZ _ ⟨r,tr,rfl⟩ bC r tr (lI (lK (eG h.sfx) h.bZ)) h.sfx
theorem dr.h7{r S:aa}(h:dr S)(a:r<:+S):dr r:=by
 obtain⟨u,rfl⟩:=a;induction u with
 |nil=>exact h
 |cons b u c=>exact c h.tail
theorem Zt{r r':aa}(d:dr r)(k:r≠[])(a:bp r=some r'):r'≠[]:=by
 have e:∀(n:Nat)(r r':aa),r.length<=n->dr r->r≠[]->bp r=some r'->r'≠[]:=by
  intro n;induction n with
  |zero=>grind
  |succ n f=>
   intro r r' aw d k a;cases r with
   |nil=>grind
   |cons b t=>
    have l:t.length<=n:=by grind
    have g:b≠10->t≠[]:=by
     intro i h0;subst h0;rcases d with h|⟨s,h⟩
     ·cases h
     ·have:=mq List.getLast? h;grind
    by_cases i:gb b=true
    ·rw[E5 i] at a;exact f t r' l d.tail (g (by rintro rfl;exact absurd i (by decide))) a
    by_cases o:b=35
    ·subst o;rw[RT] at a;have bc:=g (by decide);have aG:lf t≠[]:=by
      have:∀t:aa,dr t->t≠[]->lf t≠[]:=by
       intro t;induction t with
       |nil=>simp
       |cons c u j=>
        intro m _;unfold lf;by_cases aF:c=10
        ·grind
        ·rw[aO aF];refine j m.tail ?_;rintro rfl;rcases m with h|⟨s,h⟩
         ·cases h
         ·have:=mq List.getLast? h;grind
      exact this t d.tail bc
     exact f _ r' (lK (Ab t) l) (d.tail.h7 (EL t)) aG a
    by_cases p:b=92
    ·subst p;have bc:=g (by decide);cases t with
     |nil=>grind
     |cons c u=>
      by_cases aF:c=10
      ·subst aF;rw[RS] at a;by_cases hu:u=[]
       ·grind
       ·rw[aO hu] at a;exact f u r' (by grind) d.tail.tail hu a
      grind[RR]
    grind[RU]
 exact e _ r r' (cV _) d k a
theorem xd{e:ca}{r:aa}{pd:ao}{st:ah}(h:cB e r pd)(g:fY e r pd st):(∃r' b,bp r=some r'/\g6 st=some b/\fY e r' pd b/\cB e r' pd/\r'<:+r/\bp r'=some r')\/(bp r=none/\g6 st=some (e.tt pd)):=by
 obtain⟨tr,rfl,k⟩:=g;have:=alz (tr:=tr) h;unfold Fm at this;cases a:bp r with
 |none=>grind
 |some r'=>
  rw[a] at this;obtain⟨c,ad,l⟩:=this;have d:=dT a;refine .inl ⟨r',_,rfl,ad,⟨c,rfl,λi=>?_⟩,h.mono d,d,kR _ _ _ (cV _) a⟩;subst i;by_cases f:r=[]
  ·subst f;have j:g6 (e.st [] pd tr)=some (e.st [] pd tr):=by
    unfold g6 a8
    obtain⟨n,aw⟩:∃n,bC=n+1:=⟨bC-1,by rw[gg]⟩
    dsimp only;rw[aw,e7];unfold BV;dsimp only;have he:gu ((e.st [] pd tr).1,(e.st [] pd tr).2.1,(e.st [] pd tr).2.2.1,(e.st [] pd tr).2.2.2.1,(e.st [] pd tr).2.2.2.2.1,(e.st [] pd tr).2.2.2.2.2.1,(e.st [] pd tr).2.2.2.2.2.2.1,(e.st [] pd tr).2.2.2.2.2.2.2.1,(e.st [] pd tr).2.2.2.2.2.2.2.2)=some (decide (([]:aa)=[])):=vR e [] _ _ _ _ _ _ _;rw[he,aQ rfl];rfl
   rw[j] at ad;have:=mq (λx=>x.2.2.2.2.2.2.2.2) (Option.some.inj ad);have m:tr=c:=this;grind
  ·exact absurd rfl (Zt (h.nl.h7 h.sfx) f a)
theorem CG(e:ca)(pd:ao):g6 (e.tt pd)=some (e.tt pd):=by
 rw[xc];unfold g6 a8
 obtain⟨n,aw⟩:∃n,bC=n+1:=⟨bC-1,by rw[gg]⟩
 dsimp only;rw[aw,e7];unfold BV;dsimp only;have he:gu ((e.st [] pd true).1,(e.st [] pd true).2.1,(e.st [] pd true).2.2.1,(e.st [] pd true).2.2.2.1,(e.st [] pd true).2.2.2.2.1,(e.st [] pd true).2.2.2.2.2.1,(e.st [] pd true).2.2.2.2.2.2.1,(e.st [] pd true).2.2.2.2.2.2.2.1,(e.st [] pd true).2.2.2.2.2.2.2.2)=some (decide (([]:aa)=[])):=vR e [] _ _ _ _ _ _ _;rw[he,aQ rfl];rfl
theorem bL.rep{q:Bool}{σ α τ β:Type}{e:ca}{f:σ->ak (σ⊕α)}{pr:β->ah}{cv:α->aa->β->Prop}{en:σ->aa->ao->τ->Prop}{body:(τ->Option β)->τ->Option β}
  (c:∀(k:τ->Option β)(s:σ)(r:aa)(pd:ao)(x:τ),cB e r pd->en s r pd x->(∀a,∃k',k a=body k' a)->(∀s' r' b a,r'<:+r->cB e r' b->r'.length<r.length->en s' r' b a->bL q e r (b8 f s' r' b) pr cv (k a))->bL q e r (cK f r (f s r pd)) pr cv (body k x)):
  ∀(n:Nat)(s:σ)(r:aa)(pd:ao)(x:τ),r.length+1<n->cB e r pd->en s r pd x->bL q e r (b8 f s r pd) pr cv (fixF body n x):=by
 intro n;induction n with
 |zero=>omega
 |succ n d=>
  intro s r pd x aw g he;rw[cm,e7];refine c _ s r pd x g he (λa=>?_) λs' r' b a ad h j i=>(d s' r' b a (by omega) h i).mono ad
  obtain⟨m,rfl⟩:∃m,n=m+1:=⟨n-1,by omega⟩
  exact⟨_,e7⟩
theorem bL.inl{q:Bool}{σ α β:Type}{e:ca}{f:σ->ak (σ⊕α)}{r0 r r':aa}{a:ao}{s':σ}{pr:β->ah}{cv:α->aa->β->Prop}{y:Option β}(hl:r'.length<r.length)(h:bL q e r0 (b8 f s' r' a) pr cv y):bL q e r0 (cK f r (.ok (.inl s') r' a)) pr cv y:=by simp_all[cK,bh]
theorem vU{e:ca}{r:aa}{pd:ao}(h:cB e r pd):r.length+1<bC:=by have:=h.bZ;have:=eG h.sfx;grind[gg]
theorem MA{α:Type}[Inhabited α]{l:List α}{i:Nat}(bf:i<l.length):l.drop i=at' l (i:Int)::l.drop (i+1):=by grind[List.drop_eq_getElem_cons,at',List.getElem?_eq_getElem]
theorem alB{ds:ao}{j:aa->Option ah}(e:ds.length<=1000000000):∀(n i:Nat)(x:aa),ds.length-i<n->i<=ds.length->x.length+eh (ds.drop i)<=1000000000->fixF (Hz ds j) n ((i:Int),x)=j (x++lE (ds.drop i)):=by
 intro n;induction n with
 |zero=>omega
 |succ n b=>
  intro i x aw bf f;rw[e7];generalize fixF (Hz ds j) n=k at b;unfold Hz;dsimp only;by_cases c:i<ds.length
  ·have a:(i:Int)<(ds.length:Int):=by omega
   have aG:=MA c;have hl:eh (ds.drop i)=(at' ds (i:Int)).1.length+1+eh (ds.drop (i+1)):=by grind[eh,lE]
   simp only[a,bw,aJ];rw[bS ⟨by omega,trivial⟩,bS (by omega),bS (by grind)];have d:W ((i:Int)+1)=((i+1:Nat):Int):=by grind[dV]
   rw[d,b (i+1) _ (by omega) (by omega) (by grind),aG];simp[lE]
  ·have a:¬(i:Int)<(ds.length:Int):=by omega
   simp only[a,decide_false,cond_false];grind[List.drop_eq_nil_of_le,lE]
theorem alC{a:aa}{j:ao×aa->Option ah}(l:a.length<=2000000):∀(n i:Nat)(nd:aa)(ds:ao),a.length-i<n->i<=a.length->nd.length+eh ds+(a.length-i)<=1000000000->ds.length<=1000000000->fixF (HA a j) n ((i:Int),ds,nd)=j ((cQ nd ds (a.drop i)).2,(cQ nd ds (a.drop i)).1):=by
 intro n;induction n with
 |zero=>omega
 |succ n d=>
  intro i nd ds aw bf m e;rw[e7];generalize fixF (HA a j) n=k at d;unfold HA a8;dsimp only;by_cases f:i<a.length
  ·have b:(i:Int)<(a.length:Int):=by omega
   have aG:=MA f;have g:W ((i:Int)+1)=((i+1:Nat):Int):=by grind[dV]
   have h:cg a (i:Int) ((i+1:Nat):Int)=[at' a (i:Int)]:=by simp_all[cg,Js]
   simp only[b,bw,aJ,g];rw[bS (by omega),h,bS (by grind),bS ⟨by omega,trivial⟩];simp only[pF];rw[aG];unfold cQ;by_cases c:at' a (i:Int)=10
   ·rw[if_pos c];simp only[c,decide_true,cond_true];have h0:(0:Int)=((0:Nat):Int):=rfl;rw[h0,alB e bC 0 (nd++[10]) (by grind[gg]) (by omega) (by grind)];simp only[List.drop_zero];grind[lE,List.length_append,List.length_cons,eh,List.length_nil]
   grind
  ·have b:¬(i:Int)<(a.length:Int):=by omega
   simp only[b,bF,aU];rw[wb (by omega)];rfl
theorem CH(a b c f:Int)(S nd:aa)(ds:ao)(op:bt)(tr:Bool)(x:aa)(d:x.length<=2000000)(g:nd.length+eh ds+x.length<=1000000000)(e:ds.length<=1000000000):
  vy (S,a,b,ds,c,f,nd,op,tr) x=some (S,a,b,(cQ nd ds x).2,c,f,(cQ nd ds x).1,op,tr):=by
 unfold vy a8;dsimp only;have h0:(0:Int)=((0:Nat):Int):=rfl;rw[h0,alC d bC 0 nd ds (by grind[gg]) (by omega) (by omega) e];simp
theorem tA:∀(l:ao),l.length<=eh l
 |[]=>by simp
 |a::b=>by have:=tA b;simp[eh,lE] at this⊢;omega
def nZ(e:ca)(r0:aa)(nd:aa)(ds:ao)(st:ah):Prop:=st.2.2.2.2.1=1/\st.2.2.2.2.2.2.1=nd/\st.2.2.2.1=ds/\nY e r0 st/\(e.S.length:Int)<=st.2.1
theorem nZ.s{q:Bool}{e:ca}{r0:aa}{nd:aa}{ds:ao}{st:ah}(h:nZ e r0 nd ds st):iI q e r0 nd ds st:= .inl h
theorem nZ.mono{e:ca}{r0 r1:aa}{nd:aa}{ds:ao}{st:ah}(h:nZ e r0 nd ds st)(ad:r0<:+r1):nZ e r1 nd ds st:=⟨h.1,h.2.1,h.2.2.1,h.2.2.2.1.mono ad,h.2.2.2.2⟩
theorem Fo{e:ca}{pd:ao}{tr:Bool}{x:aa}(h:cB e [] pd)(b:x.length<=100):∃a,g7 (e.st [] pd tr) x=some a/\nZ e [] (cQ [] pd x).1 (cQ [] pd x).2 a:=by
 have aB:=h.jM;have c:=h.bZ;have hl:=As x [] pd;simp only[AR] at hl aB;have d:=tA pd;refine⟨(e.S,ax e.S [],e.ne,(cQ [] pd x).2,1,0,(cQ [] pd x).1,[],tr),?_,rfl,rfl,rfl,⟨rfl,uU (ax e.S []),?_,?_,?_⟩,?_⟩
 ·unfold g7 a8 ca.st;simp only[bw,aJ];rw[CH _ _ _ _ _ _ _ _ _ _ (by omega) (by grind) (by omega),aQ rfl]
 ·grind[ax,ir]
 ·grind
 ·simp
 simp[ax,ir,uU]
theorem xe{e:ca}{r1 r0 nd:aa}{ds:ao}{st:ah}{nm x:aa}(h:nZ e r1 nd ds st)(ad:r1<:+r0)(h0:r0<:+e.S)(y:nm=[]\/r1.length<r0.length)(z:nd.length+eh ds+x.length<=100*e.S.length+1000)(dg:e.S.length<=1000000)(A:x.length<=1000):
  ∃k,gv st nm x=some k/\nZ e r0 (cQ nd ds x).1 (cQ nd ds x).2 k:=by
 obtain⟨a,b,c,d,SG,f,g,op,tr⟩:=st;obtain⟨l,m,n,r,i⟩:=h;simp only at l m n i;subst l m n;have hl:=As x g d;have o:=ad.length_le;have s:=h0.length_le;have B:ax e.S r0<=ax e.S r1:=by grind[ax]
 have C:=tA d;obtain⟨p,t,u,v,w⟩:=r;simp only at p t u v w;subst p
 have q:∀j,vy (e.S,b,c,d,1,f,g,j,tr) x=some (e.S,b,c,(cQ g d x).2,1,f,(cQ g d x).1,j,tr):=λj=>CH _ _ _ _ _ _ _ _ _ _ (by omega) (by omega) (by omega)
 unfold gv a8;simp only[bw,aJ];by_cases aw:nm=[]
 ·subst aw;simp only[bw,g9,aU];rw[q,aQ rfl];exact⟨_,rfl,rfl,rfl,rfl,⟨rfl,by grind,by grind,by grind,by grind⟩,i⟩
 ·have D:r1.length<r0.length:=by grind
  simp only[aw,bF,e2,aJ];rw[bS (by grind),q,aQ rfl];exact⟨_,rfl,rfl,rfl,rfl,⟨rfl,by grind,by grind,by grind,by grind⟩,i⟩
theorem pI{st:ah}{nm x:aa}(h:st.2.2.2.2.1≠1):gv st nm x=some st:=by simp_all[gv,bF,aU]
theorem SH:∀(x nd:aa)(ds:ao),(10:UInt8)∉x->cQ nd ds x=(nd++x,ds)
 |[],nd,ds,_=>by simp[cQ]
 |b::x,nd,ds,h=>by have a:b≠10:=λc=>h (by grind);simp_all[cQ,aO,SH]
theorem SI{q:Bool}{e:ca}{r0 r:aa}{pd:ao}{tr:Bool}{o:Option aa}{nm x:aa}(h:cB e r pd)(h0:r<:+r0)(b:∀q,o=some q->q<:+r)(c:(10:UInt8)∉x)(i:x.length<=r.length+100)(j:r0≠[])(d:∀q,o=some q->q=[]->tr=false):
  bL q e r0 (match o with|some r'=>dD.ok () r' pd|none=> .more [nm] x pd) (λst=>st) (λ_ _ _=>True) (sj (e.st r pd tr) (kU e.S o) nm x):=by
 cases o with
 |some q=>
  have a:=b q rfl;have ad:¬ax e.S q<0:=by have:=eG (a.trans h.sfx);grind[ax]
  refine⟨e.st q pd tr,?_,a.trans h0,h.mono a,⟨tr,rfl,d q rfl⟩,trivial⟩;unfold sj;simp only[kU,ad,bF,aU];rfl
 |none=>
  have aB:=h.jM;have k:=h.bZ;have l:=tA pd;have m:=eG h.sfx;have hm:g7 (e.st [] pd tr) x=some (e.S,ax e.S [],e.ne,pd,1,0,x,[],tr):=by unfold g7 a8 ca.st;simp only[bw,aJ];rw[CH _ _ _ _ _ _ _ _ _ _ (by omega) (by grind) (by omega),aQ rfl,SH _ _ _ c];rfl
  refine⟨(e.S,ax e.S [],e.ne,pd,1,0,x,[nm],tr),?_,?_⟩
  ·unfold sj;simp only[kU,show((-1:Int)<0) from by decide,decide_true,cond_true];have f:((e.st r pd tr).1,((e.st r pd tr).1.length:Int),(e.st r pd tr).2.2.1,(e.st r pd tr).2.2.2.1,(e.st r pd tr).2.2.2.2.1,(e.st r pd tr).2.2.2.2.2.1,(e.st r pd tr).2.2.2.2.2.2.1,(e.st r pd tr).2.2.2.2.2.2.2.1,(e.st r pd tr).2.2.2.2.2.2.2.2)=e.st [] pd tr:=by rfl
   rw[f,hm,aQ rfl];exact bS (by simp)
  ·have g:ax e.S r0<=ax e.S []:=by grind[ax,List.length_nil]
   refine .inl ⟨rfl,rfl,rfl,⟨rfl,g,?_,?_,?_⟩,?_⟩
   ·grind[ax,ir]
   ·grind
   ·simp
   simp[ax,ir,uU]
theorem Zu{q:Bool}{e:ca}{r0 r:aa}{pd:ao}{tr:Bool}{o:Option aa}{x:UInt8}(h:cB e r pd)(h0:r<:+r0)(a:∀q,o=some q->q<:+r)(d:x≠10)(b:r0≠[])(c:∀q,o=some q->q=[]->tr=false):
  bL q e r0 (match o with|some r'=>dD.ok () r' pd|none=> .more [[x]] [x] pd) (λst=>st) (λ_ _ _=>True) (sj (e.st r pd tr) (kU e.S o) [x] [x]):=
 SI h h0 a (by grind) (by simp) b c
theorem alD{x0:ah}{i0:Nat}{j:aa->Option ah}(c:i0<=x0.2.2.2.1.length)(h:x0.2.2.2.1.length<=1000000000):∀(n i:Nat)(x:aa),(x0.2.2.2.1.length-i0)-i<n->i<=x0.2.2.2.1.length-i0->x.length+eh ((x0.2.2.2.1.drop i0).drop i)<=1000000000->
  fixF (HD x0 (i0:Int) j) n ((i:Int),x)=j (x++lE ((x0.2.2.2.1.drop i0).drop i)):=by
 have d:cg x0.2.2.2.1 (i0:Int) (x0.2.2.2.1.length:Int)=x0.2.2.2.1.drop i0:=by simp[cg,Js,Jz]
 have e:(x0.2.2.2.1.drop i0).length=x0.2.2.2.1.length-i0:=F9;intro n;induction n with
 |zero=>omega
 |succ n b=>
  intro i x aw bf l;rw[e7];generalize fixF (HD x0 (i0:Int) j) n=k at b;unfold HD;dsimp only;rw[d];generalize x0.2.2.2.1.drop i0=ds at*;by_cases f:i<ds.length
  ·have a:(i:Int)<(ds.length:Int):=by omega
   have aG:=MA f;have hl:eh (ds.drop i)=(at' ds (i:Int)).1.length+1+eh (ds.drop (i+1)):=by grind[eh,lE]
   simp only[a,bw,aJ];rw[bS ⟨by omega,trivial⟩,bS (by omega),bS (by grind)];have g:W ((i:Int)+1)=((i+1:Nat):Int):=by grind[dV]
   rw[g,b (i+1) _ (by omega) (by omega) (by grind),aG];simp[lE]
  ·have a:¬(i:Int)<(ds.length:Int):=by omega
   simp only[a,decide_false,cond_false];grind[List.drop_eq_nil_of_le,lE]
theorem alE{e:ca}{r0:aa}{pd:ao}{tr:Bool}{j:Int->Option ah}(dg:e.S.length<=1000000)(p:eh pd<=100000000):∀(n i:Nat)(q:aa),pd.length-i<n->i<=pd.length->q<:+e.S->
  match l3 (pd.drop i) q with
  | .inl r'=>fixF (BW (e.st r0 pd tr) j) n ((i:Int),ax e.S q)=j (ax e.S r')
  | .inr nd=>fixF (BW (e.st r0 pd tr) j) n ((i:Int),ax e.S q)=some (e.S,(e.S.length:Int),e.ne,[],1,0,nd,[[60,60]],false):=by
 have r:=tA pd;intro n;induction n with
 |zero=>omega
 |succ n d=>
  intro i q aw bf c;rw[e7];generalize fixF (BW (e.st r0 pd tr) j) n=k at d;unfold BW a8;dsimp only;have f:(e.st r0 pd tr).1=e.S:=rfl;have g:(e.st r0 pd tr).2.2.2.1=pd:=rfl;rw[f,g];by_cases l:i<pd.length
  ·have a:(i:Int)<(pd.length:Int):=by omega
   have aG:=MA l;rw[aG];simp only[a,bw,aJ];rw[bS (show 0<=(i:Int)/\True from⟨by omega,trivial⟩),alv dg c,aQ rfl,dV (x:=(i:Int)+1) (by omega) (by omega)];unfold l3;cases m:nq (at' pd (i:Int)).1 (at' pd (i:Int)).2 q with
   |none=>
    simp only[show((-1:Int)<0) from by decide,bw,aJ];rw[bS (by omega)]
    have:=alD (x0:=e.st r0 pd tr) (i0:=i) (j:=λo=>some (e.S,(e.S.length:Int),(e.st r0 pd tr).2.2.1,[],1,(e.st r0 pd tr).2.2.2.2.2.1,o,([([60,60]:aa)]:bt),false)) bf (by grind) bC 0 [] (by grind[gg]) (by omega) (by
     show 0+eh ((pd.drop i).drop 0)<=_;rw[xy];have:eh (pd.drop i)<=eh pd:=by have h:=Zo (pd.take i) (pd.drop i);grind[List.take_append_drop]
     omega)
    have h0:(e.st r0 pd tr).2.2.2.2.2.2.1=[]:=rfl;rw[h0];refine Eq.trans this ?_;show some (e.S,(e.S.length:Int),e.ne,([]:ao),(1:Int),(0:Int),[]++lE ((pd.drop i).drop 0),[[60,60]],false)=_;grind
   |some b=>
    have s:b<:+e.S:=((Ri _ _ _ q [] b (cV _) m).1).trans c;have h0:¬ax e.S b<0:=by grind[eG,ax]
    grind
  ·have a:¬(i:Int)<(pd.length:Int):=by omega
   rw[wb (by omega)];simp only[a,bF,aU];rfl
theorem Zv{q:Bool}{e:ca}{t:aa}{pd:ao}{tr:Bool}(h:cB e (10::t) pd):bL q e (10::t) (iV (10::t) pd) (λst=>st) (λ_ _ _=>True) (zX (e.st (10::t) pd tr)):=by
 have aB:=h.jM;have l:=h.bZ;have c:t<:+e.S:=dY h.sfx;have m:=eG c;have a:=alE (e:=e) (r0:=10::t) (pd:=pd) (tr:=tr) (j:=λd=>some (e.S,d,e.ne,[],0,0,[],[],false)) h.bZ (by omega) bC 0 t (by grind[tA,gg]) (by omega) c;rw[xy] at a;have i:W (ax e.S (10::t)+1)=ax e.S t:=iP h.bZ h.sfx;have g:zX (e.st (10::t) pd tr)=fixF (BW (e.st (10::t) pd tr) λd=>some (e.S,d,e.ne,[],0,0,[],[],false)) bC ((0:Nat),ax e.S t):=by unfold zX a8;show fixF _ bC ((0:Int),W (ax e.S (10::t)+1))=_;rw[i];rfl
 unfold iV;simp only;cases b:l3 pd t with
 |inl r'=>rw[b] at a;simp only at a⊢;have f:=(vE pd t [] r' b).1;have hl:=f.length_le;refine⟨e.st r' [] false,?_,f.trans (eb 10 t),⟨h.bZ,h.nl,h.IP,f.trans c,by grind[eh,lE]⟩,⟨false,rfl,λ_=>rfl⟩,trivial⟩;rw[g];exact a
 |inr nd=>
  rw[b] at a;simp only at a⊢;have k:=Sx pd t nd b;refine⟨_,g.trans a,.inl ⟨rfl,rfl,rfl,⟨rfl,?_,?_,?_,?_⟩,?_⟩⟩
  ·grind[ax,oQ]
  ·grind
  ·grind[eh,lE]
  ·simp
  simp
theorem SJ{t:aa}{pd:ao}{a:Unit}{r1:aa}{b:ao}(h:iV (10::t) pd= .ok a r1 b):r1<:+t/\b=[]:=by
 unfold iV at h;simp only at h;cases c:l3 pd t with
 |inl r'=>rw[c] at h;cases h;exact⟨(vE pd t [] _ c).1,rfl⟩
 |inr nd=>grind
theorem Fp{e:ca}{r:aa}{pd:ao}{st:ah}(h:cB e r pd)(C:fY e r pd st):bL true e r (cS r pd) (λst=>st) (λ_ r' _=>bp r'=some r'/\ar r'≠ .line) (oc st):=by
 unfold oc a8;have D:st.2.2.2.1=pd/\st.2.2.2.2.2.2.2.1=[]:=by obtain⟨tr,rfl,_⟩:=C;exact⟨rfl,rfl⟩
 rw[D.1,D.2]
 have J:∀(N:Nat)(b:Bool)(r:aa)(pd:ao)(st:ah),r.length+1<N->cB e r pd->fY e r pd st->bp r=some r->∀r0:aa,r<:+r0->(ar r= .line->r.length<=r0.length)->bL true e r0 (cK gE r0 (if ar r= .line then ae iV (λ_=>aX (.inl true)) r pd else .ok (.inr b) r pd)) (λst=>st) (λ_ r' _=>bp r'=some r'/\ar r'≠ .line) (fixF (yj λx=>some x) N st):=by
  intro N;induction N with
  |zero=>omega
  |succ N E=>
   intro b r pd st Y s K L r0 F _;rw[e7]
   obtain⟨M,O⟩:∃M,N=M+1:=⟨N-1,by omega⟩
   have v:∀x:ah,(x.2.2.2.2.1≠0\/∃ds,x=e.tt ds)->fixF (yj λx=>some x) N x=some x:=by
    intro x G;rw[O,e7];unfold yj;dsimp only;rcases G with G|⟨ds,rfl⟩
    ·simp_all[bF,cP,eB,cn,aU]
    ·have m:ie (e.tt ds)=some 0:=by rw[xc];exact vS (e:=e) (r:=[]) ov _ _ _ _ _ _ _
     have h0:(e.tt ds).2.2.2.2.1=0:=rfl;rw[show ie ((e.tt ds).1,(e.tt ds).2.1,(e.tt ds).2.2.1,(e.tt ds).2.2.2.1,(e.tt ds).2.2.2.2.1,(e.tt ds).2.2.2.2.2.1,(e.tt ds).2.2.2.2.2.2.1,(e.tt ds).2.2.2.2.2.2.2.1,(e.tt ds).2.2.2.2.2.2.2.2)=some 0 from m];rw[fX,h0];rfl
   generalize Z:fixF (yj λx=>some x) N=k at E v;obtain⟨tr,rfl,P⟩:=K;unfold yj a8;dsimp only;have m:ie ((e.st r pd tr).1,(e.st r pd tr).2.1,(e.st r pd tr).2.2.1,(e.st r pd tr).2.2.2.1,(e.st r pd tr).2.2.2.2.1,(e.st r pd tr).2.2.2.2.2.1,(e.st r pd tr).2.2.2.2.2.2.1,(e.st r pd tr).2.2.2.2.2.2.2.1,(e.st r pd tr).2.2.2.2.2.2.2.2)=some (r.headD 0):=vS s.sfx _ _ _ _ _ _ _;rw[m,fX];have h0:(e.st r pd tr).2.2.2.2.1=0:=rfl;rw[h0];simp only[bw,cE,aJ,pF];by_cases hl:ar r= .line
   ·rw[bh hl];obtain⟨t,rfl⟩:=vJ hl;simp only[y9,bw,aJ];refine bL.iH c3.k ((Zv (q:=false) s).mono F) (λ_ r1 d c Q s1 R w _=>?_) (λop nd ds c mm H=>?_) (λc p=>?_)
    ·have S:c.2.2.2.2.1=0:=by obtain⟨T,rfl,_⟩:=w;rfl
     have I:c.2.2.2.1=d/\c.2.2.2.2.2.2.2.1=[]:=by obtain⟨T,rfl,_⟩:=w;exact⟨rfl,rfl⟩
     rw[S,I.1,I.2];simp only[bw,aJ];have SL:r1.length<(10::t).length:=by have:=(SJ Q).1.length_le;grind
     have U:r1.length<r0.length:=by grind
     show bL true e r0 (cK gE r0 (.ok (.inl true) r1 d)) _ _ _;refine bL.inl U ?_;rw[cm];rcases xd R w with⟨f,a,g,i,o,y,j,z⟩|⟨g,i⟩
     ·have A:gE true r1 d=(if ar f= .line then ae iV (λ_=>aX (.inl true)) f d else .ok (.inr true) f d):=by
       by_cases l:ar f= .line
       ·obtain⟨u,rfl⟩:=vJ l;simp_all[bh,tk]
       simp_all[aO,qZ]
      rw[A,i,aQ rfl];have B:a=(a.1,a.2.1,a.2.2.1,d,a.2.2.2.2.1,a.2.2.2.2.2.1,a.2.2.2.2.2.2.1,([]:bt),a.2.2.2.2.2.2.2.2):=by obtain⟨V,rfl,_⟩:=o;rfl
      rw[<-B];exact(E true f d a (by grind) y o z r1 j (λ_=>j.length_le)).mono s1
     ·rw[i,aQ rfl];have:gE true r1 d= .more [] (cQ [] d []).1 (cQ [] d []).2:=de (iG g);rw[this];refine⟨e.tt d,?_,.inr ⟨rfl,rfl,rfl⟩⟩;exact v (e.tt d) (.inr ⟨d,rfl⟩)
    ·have ad:=H.z.1;refine⟨c,?_,H.up⟩;grind
    ·refine⟨c,?_,p⟩;rw[p.1];simp only[show¬((2:Int)=0) by decide,bF,aU];have:=v c (.inl (by rw[p.1];decide));have W:c=(c.1,c.2.1,c.2.2.1,c.2.2.2.1,2,c.2.2.2.2.2.1,c.2.2.2.2.2.2.1,c.2.2.2.2.2.2.2.1,c.2.2.2.2.2.2.2.2):=by rw[<-p.1]
     grind
   ·rw[aO hl];have X:decide (r.headD 0=10)=false:=by
     cases r with
     |nil=>rfl
     |cons b t=>
      have:b≠10:=by rintro rfl;grind[ar]
      grind
    rw[X];simp only[aU];exact⟨_,rfl,F,s,⟨tr,rfl,P⟩,L,hl⟩
 rw[qk,cm];rcases xd h C with⟨f,a,g,i,o,y,j,z⟩|⟨g,i⟩
 ·rw[i,aQ rfl];have B:a=(a.1,a.2.1,a.2.2.1,pd,a.2.2.2.2.1,a.2.2.2.2.2.1,a.2.2.2.2.2.2.1,([]:bt),a.2.2.2.2.2.2.2.2):=by obtain⟨V,rfl,_⟩:=o;rfl
  rw[<-B];have A:gE false r pd=(if ar f= .line then ae iV (λ_=>aX (.inl true)) f pd else .ok (.inr false) f pd):=by
   by_cases l:ar f= .line
   ·obtain⟨u,rfl⟩:=vJ l;rw[bh l,tk g]
   ·rw[aO l,qZ g l]
  rw[A];exact J bC false f pd a (by have:=j.length_le;have:=h.bZ;have:=eG h.sfx;grind[gg]) y o z r j (λ_=>j.length_le)
 ·rw[i,aQ rfl];have:gE false r pd= .more [] (cQ [] pd []).1 (cQ [] pd []).2:=de (iG g);rw[this];refine⟨e.tt pd,?_,.inr ⟨rfl,rfl,rfl⟩⟩
  obtain⟨n,aw⟩:∃n,bC=n+1:=⟨bC-1,by rw[gg]⟩
  dsimp only;rw[aw,e7];unfold yj;dsimp only;have m:ie ((e.tt pd).1,(e.tt pd).2.1,(e.tt pd).2.2.1,pd,(e.tt pd).2.2.2.2.1,(e.tt pd).2.2.2.2.2.1,(e.tt pd).2.2.2.2.2.2.1,[],(e.tt pd).2.2.2.2.2.2.2.2)=some 0:=by have:=vS (e:=e) (r:=[]) ov e.ne 0 0 pd [] [] true;rw[ir] at this;exact this
  rw[m,fX];rfl
def gp(b:UInt8):Bool:=(decide (97<=b)&&decide (b<=122))||decide (b=123)||decide (b=125)||decide (b=33)
def i_(r:aa):aa:=if r.dropWhile gp≠[]/\cT (r.dropWhile gp)=true then r.takeWhile gp else []
theorem alG(b:UInt8):((b.toNat:Int)=33)↔b=33:=q3 (c:=33)
theorem Zw(b:UInt8):((b.toNat:Int)=125)↔b=125:=q3 (c:=125)
theorem alH{e:ca}{x0:ah}{j:Int->Option aa}(d:x0.1=e.S)(dg:e.S.length<=1000000):∀(n:Nat)(r:aa),r.length<n->r<:+e.S->fixF (HF x0 j) n (ax e.S r)=j (ax e.S (r.dropWhile gp)):=by
 intro n;induction n with
 |zero=>omega
 |succ n f=>
  intro r aw c;rw[e7];generalize fixF (HF x0 j) n=k at f;unfold HF;rw[d];cases r with
  |nil=>simp[ir,aZ]
  |cons b t=>
   have g:0<=ax e.S (b::t)/\ax e.S (b::t)<(e.S.length:Int):=hX c;have a:∀p:Prop,(p->0<=ax e.S (b::t)/\ax e.S (b::t)<(e.S.length:Int)):=λp _=>g
   rw[bS (a _),bS (λ_=>a _),bS (λ_=>a _),bS (λ_=>a _),bS (λ_=>a _)];simp only[m9 c,bw,aJ,jz c,iP dg c,Sm,Sn,Cw,Zw,alG];have aF:(bif(bif(bif(bif decide (97<=b) then decide (b<=122) else false) then true else decide (b=123)) then true else decide (b=125)) then true else decide (b=33))=gp b:=by simp[gp,decide]
   grind[gp,List.dropWhile_cons_of_pos,List.length_cons,dY,List.dropWhile_cons_of_neg]
theorem vV{e:ca}{r:aa}{pd:ao}{tr:Bool}(h:cB e r pd):lD (e.st r pd tr)=some (i_ r):=by
 unfold lD a8;have s:(e.st r pd tr).1=e.S:=rfl;have u:(e.st r pd tr).2.1=ax e.S r:=rfl;have hl:=alH (e:=e) (x0:=e.st r pd tr) (j:=λc=>(aZ (((decide (c<(e.S.length:Int)))=true)->0<=c/\c<(e.S.length:Int))<|(cP ((decide (c<(e.S.length:Int)))=true) (zV (at' e.S c)) false λ(f:Bool)=>(aZ ((f=false)->((decide (c<(e.S.length:Int)))=true)->0<=c/\c<(e.S.length:Int))<|(cP ((bif f then true else(decide (((at' e.S c).toNat:Int)=(10:Int))))=false/\(decide (c<(e.S.length:Int)))=true) (yg e.S c) [] λ(m:aa)=>(bif(bif(decide (c<(e.S.length:Int))) then(bif(bif f then true else(decide (((at' e.S c).toNat:Int)=(10:Int)))) then true else(!(decide (m=[])))) else false) then(aZ (0<=ax e.S r/\ax e.S r<=c/\c<=(e.S.length:Int))<|some (cg e.S (ax e.S r) c)) else some ([]))))))) rfl h.bZ bC r (lI (lK (eG h.sfx) h.bZ)) h.sfx;refine Eq.trans hl ?_;have i:r.dropWhile gp<:+r:=List.dropWhile_suffix _;have d:=i.trans h.sfx;have k:0<=ax e.S r/\ax e.S r<=ax e.S (r.dropWhile gp)/\ax e.S (r.dropWhile gp)<=(e.S.length:Int):=by have:=i.length_le;have:=eG h.sfx;grind[ax]
 have n:cg e.S (ax e.S r) (ax e.S (r.dropWhile gp))=r.takeWhile gp:=by rw[Iy h.sfx i];have o:=T8 (p:=gp) (l:=r);generalize r.takeWhile gp=a at*;generalize r.dropWhile gp=b at*;rw[<-o];simp
 unfold i_;cases q:r.dropWhile gp with
 |nil=>simp[ir,aZ,cP]
 |cons b t=>
  rw[q] at d k n;have g:=hX d;rw[bS (λ_=>g)];simp only[m9 d,bw,jz d,SE,fX,cE];refine Eq.trans (bS (λ_ _=>⟨g.1,trivial⟩)) ?_;simp only[SD h.bZ d,fX,pF,and_true,aJ];have v:cT (b::t)=(gb b||decide (b=10)|| !decide (bs (b::t)=[])):=by show(gb b||(b==10)||(bs (b::t)!=[]))=_;grind
  grind[gb,aZ,bs]
theorem MC{b:UInt8}(h:gp b=true):gb b=false/\b≠10/\b≠92/\b≠39/\b≠34/\b≠96/\b≠36/\b≠35/\oM b=false:=by
 have ad:(97<=b.toNat/\b.toNat<=122)\/b.toNat=123\/b.toNat=125\/b.toNat=33:=by
  unfold gp at h;simp only[AO,hL,T_,Da] at h;have a:(97:UInt8).toNat=97:=rfl;have c:(122:UInt8).toNat=122:=rfl;rw[a,c] at h;rcases h with((h|h)|h)|h
  ·omega
  ·simp_all
  ·simp_all
  simp_all
 have d:b=UInt8.ofNat b.toNat:=by simp
 generalize b.toNat=n at*;subst d;have:n=97\/n=98\/n=99\/n=100\/n=101\/n=102\/n=103\/n=104\/n=105\/n=106\/n=107\/n=108\/n=109\/n=110\/n=111\/n=112\/n=113\/n=114\/n=115\/n=116\/n=117\/n=118\/n=119\/n=120\/n=121\/n=122\/n=123\/n=125\/n=33:=by omega
 rcases this with rfl|rfl|rfl|rfl|rfl|rfl|rfl|rfl|rfl|rfl|rfl|rfl|rfl|rfl|rfl|rfl|rfl|rfl|rfl|rfl|rfl|rfl|rfl|rfl|rfl|rfl|rfl|rfl|rfl<;>decide
theorem Zx{b:UInt8}{t:aa}(h:gp b=true):cT (b::t)=false:=by obtain⟨ad,a,_,_,_,_,_,_,c⟩:=MC h;show(gb b||b==10||bs (b::t)!=[])=false;grind[nx]
theorem alJ{b:UInt8}{t:aa}(h:gp b=true):fJ (b::t)=false:=by simp_all[MC,sx]
theorem Zy:∀(r:aa),cT (r.dropWhile gp)=true->c5 r=(r.takeWhile gp,true)
 |[],_=>by decide
 |b::t,h=>by
  cases a:gp b with
  |true=>rw[T4 a] at h;obtain⟨ad,c,d,e,f,g,i,j,k⟩:=MC a;unfold c5;simp_all[Zx,aO,alJ,Zy,List.takeWhile_cons_of_pos]
  |false=>simp_all[Jw,c5,bh,T9]
theorem CI(b:UInt8)(t:aa):ar (b::t)=if b=10 then Tok.line else if bs (b::t)≠[] then .op (bs (b::t)) else .word (c5 (b::t)).1 (c5 (b::t)).2:=rfl
theorem rJ{r w:aa}(e:dr r)(i:w≠[])(f:w.all gp=true):i_ r=w↔ar r= .word w true:=by
 unfold i_;constructor
 ·intro h;split at h
  ·rename_i aF;have aB:=Zy r aF.2;cases r with
   |nil=>simp_all
   |cons b t=>
    have j:gp b=true:=by grind[gp,List.takeWhile_cons_of_neg,absurd]
    simp_all[MC,CI,aO,nx]
  grind
 ·intro h;cases r with
  |nil=>grind[ar]
  |cons b t=>
   have aB:c5 (b::t)=(w,true):=by grind[CI,Prod.ext]
   obtain⟨v,a⟩:=(ER _ _ aB).1;have he:=Se _ _ aB;rw[<-a,o0] at he;have g:v≠[]:=by
    rintro rfl;rw[rP] at a;rcases e with h0|⟨s,h0⟩
    ·cases h0
    grind[gp,List.all_eq_true,absurd]
   have aG:v.dropWhile gp=v/\v.takeWhile gp=[]:=by
    cases v with
    |nil=>simp
    |cons c u=>grind[gp,Zx,List.dropWhile_cons_of_neg,List.takeWhile_cons_of_neg]
   have d:∀x∈w,gp x=true:=oZ.1 f
   rw[<-a,List.dropWhile_append_of_pos d,aG.1,bh ⟨g,he⟩,List.takeWhile_append_of_pos d,aG.2,rP]
theorem IU{r w:aa}(a:dr r)(b:w≠[])(c:w.all gp=true):decide (i_ r=w)=cA (ar r) w:=by have:=rJ a b c;grind[cA,i_,decide_eq_true,decide_eq_false,ar]
theorem Zz{r:aa}{L:bt}(a:dr r)(bk:∀w∈L,w≠[]/\w.all gp=true):L.contains (i_ r)=(match ar r with| .word w true=>L.contains w|_=>false):=by
 rw[Bool.eq_iff_iff];constructor
 ·intro h;have hm:=List.contains_iff_mem.1 h;obtain⟨ad,b⟩:=bk _ hm;have:=(rJ a ad b).1 rfl;grind
 grind[ar,List.contains_iff_mem,rJ]
theorem alK{r:aa}(a:dr r):qb (i_ r)=(match ar r with| .word w true=>qb w|_=>false):=by unfold qb;exact Zz a (by decide)
theorem alL{r:aa}(a:dr r):rA (i_ r)=(match ar r with| .word w true=>rA w|_=>false):=by unfold rA;exact Zz a (by decide)
theorem mN{r o:aa}(a:o≠[]):ar r= .op o↔bs r=o:=by
 constructor
 ·intro h;exact(il h).1.symm
 ·intro h;cases r with
  |nil=>simp_all[bs,lg,xz,List.isPrefixOf,absurd]
  |cons b t=>
   have c:b≠10:=by rintro rfl;rw[nx (by decide)] at h;grind
   simp_all[CI,aO,bh]
theorem ZA{r:aa}(a:dr r):(decide (bs r=[40])||qb (i_ r))=hv (ar r):=by rw[alK a];grind[hv,bs,mN,ar,decide_eq_false]
theorem alM{e:ca}{x0:ah}{j:Int->Option Bool}(c:x0.1=e.S)(dg:e.S.length<=1000000):∀(n:Nat)(r:aa),r.length<n->r<:+e.S->fixF (HH x0 j) n (ax e.S r)=j (ax e.S (r.dropWhile b_)):=by
 intro n;induction n with
 |zero=>omega
 |succ n d=>
  intro r aw a;rw[e7];generalize fixF (HH x0 j) n=k at d;unfold HH;rw[c];cases r with
  |nil=>simp[ir,aZ]
  |cons b t=>
   have g:=hX a;rw[bS (λ_=>g),bS (λ_=>g)];simp only[m9 a,bw,aJ,jz a,iP dg a,So,Sp];have aF:(bif decide (48<=b) then decide (b<=57) else false)=b_ b:=by simp[b_,decide]
   grind[b_,List.dropWhile_cons_of_pos,List.length_cons,dY,List.dropWhile_cons_of_neg]
theorem SM{e:ca}{r:aa}{pd:ao}{tr:Bool}(h:cB e r pd):zZ (e.st r pd tr)=some (decide (r.dropWhile b_≠r)&&eV (bs (r.dropWhile b_))):=by
 unfold zZ a8;have b:r.dropWhile b_<:+r:=List.dropWhile_suffix _;have hl:=alM (e:=e) (x0:=e.st r pd tr) (j:=λa=>cP ((decide (ax e.S r<a))=true) (yg e.S a) [] λ(c:aa)=>(cP ((decide (ax e.S r<a))=true) (vA c) false λ(d:Bool)=>some (bif(decide (ax e.S r<a)) then d else false))) rfl h.bZ bC r (lI (lK (eG h.sfx) h.bZ)) h.sfx;refine Eq.trans hl ?_;rw[SD h.bZ (b.trans h.sfx),fX];have g:decide (ax e.S r<ax e.S (r.dropWhile b_))=decide (r.dropWhile b_≠r):=by
  by_cases f:r.dropWhile b_=r
  ·grind
  ·have:(r.dropWhile b_).length<r.length:=by
    rcases NI (r.dropWhile b_).length r.length with ad|ad
    ·exact ad
    ·exact absurd (b.eq_of_length (Nat.le_antisymm b.length_le ad)) f
   grind[ax,b_]
 grind[Fl,fX,decide,b_]
theorem MD(r:aa):(eV (bs r)||(decide (r.dropWhile b_≠r)&&eV (bs (r.dropWhile b_))))=eV (bs (r.dropWhile b_)):=by
 by_cases h:r.dropWhile b_=r
 ·grind
 ·have h0:bs r=[]:=by
   cases r with
   |nil=>simp_all
   |cons b t=>
    cases a:b_ b with
    |true=>simp_all[nx,Am]
    |false=>simp_all
  simp_all[eV]
theorem SN{e:ca}{r:aa}{pd:ao}{tr:Bool}(h:cB e r pd)(k:Nat)(hk:k<=1000):tc (e.st r pd tr) k=some ((r.drop k).headD 0):=by
 unfold tc;have hl:=eG h.sfx;have g:=h.bZ;have ad:(e.st r pd tr).2.1=ax e.S r:=rfl;have c:(e.st r pd tr).1=e.S:=rfl;have aB:0<=ax e.S r/\ax e.S r<=(e.S.length:Int):=by grind[ax]
 have d:W (ax e.S r+(k:Int))=ax e.S r+k:=dV (by omega) (by omega);rw[ad,c,d];by_cases i:k<r.length
 ·have a:r.drop k<:+e.S:=(lJ k r).trans h.sfx;have f:ax e.S r+(k:Int)=ax e.S (r.drop k):=by grind[ax,List.length_drop]
  rw[f];cases aG:r.drop k with
  |nil=>grind
  |cons b t=>rw[aG] at a;simp only[m9 a,bw,aJ];simp_all[bS,hX,trivial,trans,jz]
 grind[ax,List.drop_eq_nil_of_le]
theorem sC{α β b:Type}{m:Option α}{f:α->Option β}{g:β->Option b}:au (au m f) g=au m (λa=>au (f a) g):=by cases m<;>rfl
theorem SO{α β:Type}{b:Bool}{x y:Option α}{g:α->Option β}:au (bif b then x else y) g=bif b then au x g else au y g:=by grind
theorem n0{α β:Type}{a:α}{g:α->Option β}:au (some a) g=g a:=rfl
theorem ZB{R:bg}{a b:aa}:∀(n:Nat)(x:ah),fixF (wS R λst=>au (gv st a b) λy=>some y) n x=au (fixF (wS R λst=>some st) n x) λst=>gv st a b
 |0,x=>rfl
 |n+1,x=>by
  rw[e7,e7];have c:=ZB (R:=R) (a:=a) (b:=b) n;generalize fixF (wS R λst=>au (gv st a b) λy=>some y) n=o at c;generalize fixF (wS R λst=>some st) n=p at c;obtain⟨e,f,g,i,d,j,k,l,m⟩:=x;unfold wS a8;dsimp only;by_cases h:d=0
  ·subst h;simp only[bw,aJ,sC,SO,c,n0];rfl
  ·simp only[h,bF,aU,n0];cases gv (e,f,g,i,d,j,k,l,m) a b<;>rfl
theorem ZC{R:bg}{a b:aa}:∀(n:Nat)(x:ah),fixF (wX R λst=>au (gv st a b) λy=>some y) n x=au (fixF (wX R λst=>some st) n x) λst=>gv st a b
 |0,x=>rfl
 |n+1,x=>by
  rw[e7,e7];have c:=ZC (R:=R) (a:=a) (b:=b) n;generalize fixF (wX R λst=>au (gv st a b) λy=>some y) n=o at c;generalize fixF (wX R λst=>some st) n=p at c;obtain⟨e,f,g,i,d,j,k,l,m⟩:=x;unfold wX a8;dsimp only;by_cases h:d=0
  ·subst h;simp only[bw,aJ,sC,SO,c,n0];rfl
  ·simp only[h,bF,aU,n0];cases gv (e,f,g,i,d,j,k,l,m) a b<;>rfl
theorem cB.yM{e:ca}{b:UInt8}{t:aa}{pd:ao}(h:cB e (b::t) pd)(a:b≠10):t≠[]:=by
 rintro rfl;have:=h.nl.h7 h.sfx;rcases this with ad|⟨s,ad⟩
 ·cases ad
 ·have:=mq List.getLast? ad;grind
theorem dr.last{t:aa}(h:dr t)(a:t≠[]){x:aa}{b:UInt8}(he:t=x++[b]):b=10:=by
 rcases h with ad|⟨s,ad⟩
 ·grind
 simp_all
theorem alN:∀(n:Nat)(r q:aa),r.length<=n->gZ r=some q->∃x,r=x++96::q:=by
 intro n;induction n with
 |zero=>simp_all[n1,Nat.le_zero,gZ]
 |succ n d=>
  intro r q aw h;cases r with
  |nil=>grind
  |cons b t=>
   unfold gZ at h;split at h
   ·simp_all
   ·split at h
    ·cases t with
     |nil=>cases h
     |cons c u=>obtain⟨x,a⟩:=d u q (by simp only[mo] at aw;omega) h;exact⟨b::c::x,by rw[a];rfl⟩
    ·obtain⟨x,a⟩:=d t q (by simp only[mo] at aw;omega) h;exact⟨b::x,by rw[a];rfl⟩
theorem ZD:∀(r q:aa),gd r=some q->∃x,r=x++39::q
 |[],q,h=>by grind[gd]
 |b::t,q,h=>by
  unfold gd at h;split at h
  ·rename_i a;cases h;subst a;exact⟨[],rfl⟩
  ·obtain⟨x,c⟩:=ZD t q h;exact⟨b::x,by rw[c];rfl⟩
theorem SP{t x q:aa}{c:UInt8}(aF:c≠10)(h:dr t)(he:t=x++c::q):q≠[]:=by rintro rfl;exact aF (h.last (by simp_all) he)
structure kt(R:bg)(n:Nat):Prop where
 im:∀(e:ca),e.ne=30- (n:Int)->∀(t:aa)(pd:ao)(tr:Bool),cB e (36::t) pd->bL false e (36::t) (a7 true n (36::t) pd) (λst=>st) (λ_ _ _=>True) (R.ve (e.st (36::t) pd tr))
theorem Fq{e:ca}{r0 r:aa}{pd:ao}{f:Unit->ak (Unit⊕Unit)}{part:ak Unit}{y:Option ah}{β:Type}{pr:β->ah}{cv:Unit->aa->β->Prop}{k:ah->Option β}
  (hm:bL false e r0 (part r pd) (λst=>st) (λ_ _ _=>True) y) (hl:∀a r' c,part r pd= .ok a r' c->r'.length<r.length)
  (hk:∀r' c g,r'<:+r0->cB e r' c->r'.length<r.length->fY e r' c g->bL false e r0 (b8 f () r' c) pr cv (k g))
  (h:∀x,x.2.2.2.2.1≠0->∃b,k x=some b/\pr b=x):
  bL false e r0 (cK f r (ae part (λ_=>aX (.inl ())) r pd)) pr cv (au y k):=by
 refine bL.iH c3.k hm (λa r1 i d j s1 l m _=>?_) (λop nd ds d _ n=>?_) (λd o=>?_)
 ·have:=hl a r1 i j;exact bL.inl this (hk r1 i d s1 l this m)
 ·obtain⟨b,p,q⟩:=h d (by rw[n.z.1];decide);grind
 ·obtain⟨b,p,q⟩:=h d (by rw[o.1];decide);grind
theorem SQ{e:ca}{t:aa}{pd:ao}{tr:Bool}(h:cB e (92::t) pd):wR (e.st (92::t) pd tr)=some (e.st (t.drop 1) pd tr):=by
 have b:=h.yM (by decide);cases t with
 |nil=>grind
 |cons c u=>
  have a:W (ax e.S (92::c::u)+2)=ax e.S u:=ks (w:=[92,c]) h.bZ h.sfx;unfold wR;have ad:(e.st (92::c::u) pd tr).2.1=ax e.S (92::c::u):=rfl;rw[ad,a];have:¬((e.st (92::c::u) pd tr).1.length:Int)<ax e.S u:=by have:= @oQ u e.S;show¬(e.S.length:Int)<ax e.S u;omega
  simp only[this,bF,aU];rfl
theorem SR{e:ca}{t r0:aa}{pd:ao}{tr:Bool}(h:cB e (96::t) pd)(h0:96::t<:+r0):bL false e r0 (js gZ [96] t pd) (λst=>st) (λ_ _ _=>True) (au (z1 e.S (W (ax e.S (96::t)+1))) λy=>sj (e.st (96::t) pd tr) y [96] [96]):=by rw[iP h.bZ h.sfx,alq h.bZ (dY h.sfx),aQ rfl];unfold js;have b:=(h.nl.h7 h.sfx).tail;refine Zu h h0 (λq a=>(EY _ _ q (cV _) a).trans (eb _ _)) (by decide) (by grind) λq a c=>?_;obtain⟨x,d⟩:=alN _ _ _ (cV _) a;grind[absurd,SP]
theorem ZE{e:ca}{t r0:aa}{pd:ao}{tr:Bool}(h:cB e (39::t) pd)(h0:39::t<:+r0):bL false e r0 (js gd [39] t pd) (λst=>st) (λ_ _ _=>True) (au (BZ e.S (W (ax e.S (39::t)+1))) λy=>sj (e.st (39::t) pd tr) y [39] [39]):=by rw[iP h.bZ h.sfx,alo h.bZ (dY h.sfx),aQ rfl];unfold js;have b:=(h.nl.h7 h.sfx).tail;refine Zu h h0 (λq a=>(Ag _ q a).trans (eb _ _)) (by decide) (by grind) λq a c=>?_;grind[ZD,absurd,SP]
theorem IV(fr:Bool)(n:Nat){t:aa}{pd:ao}(h:fJ (36::t)=false):a7 fr n (36::t) pd= .ok () t pd:=by rw[Fi];unfold dd;rw[sx] at h;grind
theorem SS(fr:Bool)(n:Nat){t:aa}{pd:ao}{a:Unit}{r':aa}{b:ao}(h:a7 fr n (36::t) pd= .ok a r' b):r'.length<(36::t).length:=by
 cases c:fJ (36::t) with
 |true=>exact(l8 fr n).lt c h
 |false=>grind[IV]
theorem CJ(fr:Bool)(n:Nat)(dq:Option (ak Unit))(t:aa)(pd:ao):cw (a7 fr n) dq (36::t) pd=a7 fr n (36::t) pd:=by
 unfold cw;simp only;rw[aO (by decide),aO (by decide)];cases a:fJ (36::t) with
 |true=>simp
 |false=>grind[IV]
theorem Fs{D:ak Unit}{dq:Option (ak Unit)}{b:UInt8}{t:aa}{pd:ao}(a:b≠92)(c:b≠96)(d:b≠36)(e:dq=none\/(b≠39/\b≠34)):cw D dq (b::t) pd= .ok () t pd:=by
 unfold cw;simp only;have f:fJ (b::t)=false:=by grind[sx]
 grind
section
variable{R:bg}{n:Nat}(hD:kt R n){e:ca}(bc:e.ne=30- (n:Int))
include hD bc
theorem alO{r:aa}{pd:ao}{tr:Bool}(h:cB e r pd):bL false e r (iO 34 (cw (a7 true n) none) r pd) (λst=>st) (λ_ _ _=>True) (fixF (wS R λst=>some st) bC (e.st r pd tr)):=by
 unfold iO;refine bL.rep (en:=λ_ r pd x=>∃tr,x=e.st r pd tr) (λk s r pd x c l L hk=>?_) bC () r pd _ (vU h) h ⟨tr,rfl⟩;obtain⟨tr,rfl⟩:=l
 have E:∀x:ah,x.2.2.2.2.1≠0->k x=some x:=by intro x l;obtain⟨k',ad⟩:=L x;simp_all[wS]
 have F:∀x:ah,x.2.2.2.2.1≠0->∃b,k x=some b/\b=x:=λx l=>⟨x,E x l,rfl⟩
 have G:∀r' d m,r'<:+r->cB e r' d->r'.length<r.length->fY e r' d m->bL false e r (b8 (λ_ r pd=>match r with
  |[]=>b5 [] r pd
  |b::t=>if b=34 then .ok (.inr ()) t pd else(ae (cw (a7 true n) none) λ_=>aX (.inl ())) r pd) () r' d) (λst=>st) (λ_ _ _=>True) (k m):=λr' d m M a2 a3 N=>hk () r' d m M a2 a3 (by obtain⟨tr,ad,_⟩:=N;grind)
 unfold wS a8 ca.st;dsimp only;simp only[bw,aJ];rw[vR,aQ rfl];cases r with
 |nil=>
  simp only[bw,aJ];obtain⟨o,O,H⟩:=Fo (tr:=tr) (x:=[]) c (by simp);have P:g7 (e.S,ax e.S [],e.ne,pd,0,0,[],[],tr) []=some o:=O;rw[P,aQ rfl];refine⟨o,?_,?_⟩
  ·exact E o (by rw[H.1];decide)
  ·exact H.s
 |cons b t=>
  have j:t<:+b::t:=eb b t;have I:=iP c.bZ c.sfx;simp only[reduceCtorEq,bF,aU];have Q:∀p u v w y z A,ie (e.S,ax e.S (b::t),p,w,u,v,y,z,A)=some b:=λp u v w y z A=>vS c.sfx p u v w y z A
  rw[Q];simp only[n0,nV,mI,nU,qo,I];by_cases J:b=34
  ·subst J;simp only[bw,aJ,cE];exact⟨_,rfl,j,c.mono j,⟨tr,rfl,λS=>absurd S (c.yM (by decide))⟩,trivial⟩
  simp only[J,bF,aU,cn];by_cases B:b=92
  ·subst B;simp only[bw,aJ];have aB:wR (e.S,ax e.S (92::t),e.ne,pd,0,0,[],[],tr)=some (e.st (t.drop 1) pd tr):=SQ c;rw[aB,aQ rfl];have aG:t.drop 1<:+92::t:=(lJ 1 t).trans j;have hl:(t.drop 1).length<(92::t).length:=by grind
   have i:ae (cw (a7 true n) none) (λ_=>(aX (.inl ()):ak (Unit⊕Unit))) (92::t) pd= .ok (.inl ()) (t.drop 1) pd:=by rfl
   rw[i];exact bL.inl hl (hk () _ pd _ aG (c.mono aG) hl ⟨tr,rfl⟩)
  simp only[B,bF,aU];by_cases C:b=96
  ·subst C;simp only[bw,aJ];have i:cw (a7 true n) none (96::t) pd=js gZ [96] t pd:=by rfl
   have:=Fq (f:=λ_ r pd=>match r with
    |[]=>b5 [] r pd
    |b::t=>if b=34 then .ok (.inr ()) t pd else(ae (cw (a7 true n) none) λ_=>aX (.inl ())) r pd) (part:=cw (a7 true n) none) (r:=96::t) (pd:=pd) (pr:=λst=>st) (cv:=λ_ _ _=>True) (k:=k) (by rw[i];exact SR (tr:=tr) c fM) (λa r' d g=>by
     rw[i] at g;unfold js at g;cases K:gZ t with
     |none=>grind
     |some q=>rw[K] at g;cases g;have:=(EY _ _ _ (cV _) K).length_le;grind) G F
   rw[I,sC] at this;exact this
  simp only[C,bF,aU];by_cases D:b=36
  ·subst D;simp only[bw,aJ];exact Fq (part:=cw (a7 true n) none) (by rw[CJ];exact hD.im e bc t pd tr c) (λa r' d g=>by rw[CJ] at g;exact SS true n g) G F
  ·simp only[D,bF,aU];have i:ae (cw (a7 true n) none) (λ_=>(aX (.inl ()):ak (Unit⊕Unit))) (b::t) pd= .ok (.inl ()) t pd:=by unfold ae;rw[Fs B C D (.inl rfl)];rfl
   rw[i];exact bL.inl (by simp) (hk () _ pd _ j (c.mono j) (by simp) ⟨tr,rfl⟩)
theorem ZF{t r0:aa}{pd:ao}{tr:Bool}(h:cB e (34::t) pd)(h0:34::t<:+r0)(j:r0<:+e.S):bL false e r0 (ey (a7 true n) t pd) (λst=>st) (λ_ _ _=>True) (Ek R (e.st (34::t) pd tr)):=by
 have k:=iP h.bZ h.sfx;have d:t<:+34::t:=eb 34 t;have g:=h.mono d;unfold Ek a8;have l:((e.st (34::t) pd tr).1,W ((e.st (34::t) pd tr).2.1+1),(e.st (34::t) pd tr).2.2.1,(e.st (34::t) pd tr).2.2.2.1,(e.st (34::t) pd tr).2.2.2.2.1,(e.st (34::t) pd tr).2.2.2.2.2.1,(e.st (34::t) pd tr).2.2.2.2.2.2.1,(e.st (34::t) pd tr).2.2.2.2.2.2.2.1,(e.st (34::t) pd tr).2.2.2.2.2.2.2.2)=e.st t pd tr:=by show(e.S,W (ax e.S (34::t)+1),e.ne,pd,(0:Int),(0:Int),([]:aa),([]:bt),tr)=_;rw[k];rfl
 rw[l];have m:=ZB (R:=R) (a:=[34]) (b:=[34]) bC (e.st t pd tr);refine bL.dU ?_ m;obtain⟨f,o,c⟩:=alO hD bc (tr:=tr) g;rw[o,aQ rfl];unfold ey ak.named ak.aK;have i:=aH.Cs (n:=11) (aH.part (w8 true n▸(tz true n).dl) (dq:=none) (λq h=>by cases h)) 34 t pd;cases hm:iO 34 (cw (a7 true n) none) t pd with
 |ok a r1 v=>rw[hm] at c;obtain⟨p,a2,a3,_⟩:=c;refine⟨f,pI ?_,p.trans (d.trans h0),a2,a3,trivial⟩;obtain⟨w,rfl,_⟩:=a3;show(0:Int)≠1;decide
 |more op nd ds=>rw[hm] at c i;simp only[dZ] at i;have aB:=g.jM;obtain⟨r,s,u⟩:=xe (nm:=[34]) (x:=[34]) (r0:=r0) (r1:=t) c.z (d.trans h0) j (.inr (by grind)) (by grind) h.bZ (by simp);exact⟨r,s,u.s⟩
 |bad q=>rw[hm] at c;exact⟨f,pI (by rw[c.1];decide),iQ.mono c (d.trans h0)⟩
 |deep q=>rw[hm] at c;exact⟨f,pI (by rw[c.1];decide),iQ.mono c (d.trans h0)⟩
theorem alP{r:aa}{pd:ao}{tr:Bool}(h:cB e r pd):bL false e r (iO 125 (cw (a7 true n) (some (ey (a7 true n)))) r pd) (λst=>st) (λ_ _ _=>True) (fixF (wX R λst=>some st) bC (e.st r pd tr)):=by
 unfold iO;refine bL.rep (en:=λ_ r pd x=>∃tr,x=e.st r pd tr) (λk s r pd x d m N hk=>?_) bC () r pd _ (vU h) h ⟨tr,rfl⟩;obtain⟨tr,rfl⟩:=m
 have K:∀x:ah,x.2.2.2.2.1≠0->k x=some x:=by intro x m;obtain⟨k',ad⟩:=N x;rw[ad];unfold wX;grind
 have o:∀x:ah,x.2.2.2.2.1≠0->∃b,k x=some b/\b=x:=λx m=>⟨x,K x m,rfl⟩
 have p:∀r' i u,r'<:+r->cB e r' i->r'.length<r.length->fY e r' i u->bL false e r (b8 (λ_ r pd=>match r with
  |[]=>b5 [] r pd
  |b::t=>if b=125 then .ok (.inr ()) t pd else(ae (cw (a7 true n) (some (ey (a7 true n)))) λ_=>aX (.inl ())) r pd) () r' i) (λst=>st) (λ_ _ _=>True) (k u):=λr' i u O a2 a3 P=>hk () r' i u O a2 a3 (by obtain⟨tr,ad,_⟩:=P;grind)
 unfold wX a8 ca.st;dsimp only;simp only[bw,aJ];rw[vR,aQ rfl];cases r with
 |nil=>
  simp only[bw,aJ];obtain⟨v,Q,L⟩:=Fo (tr:=tr) (x:=[]) d (by simp);have S:g7 (e.S,ax e.S [],e.ne,pd,0,0,[],[],tr) []=some v:=Q;rw[S,aQ rfl];refine⟨v,?_,?_⟩
  ·exact K v (by rw[L.1];decide)
  ·exact L.s
 |cons b t=>
  have j:t<:+b::t:=eb b t;have w:=iP d.bZ d.sfx;simp only[reduceCtorEq,bF,aU];have T:∀y z A B C D E,ie (e.S,ax e.S (b::t),y,B,z,A,C,D,E)=some b:=λy z A B C D E=>vS d.sfx y z A B C D E
  rw[T];simp only[n0,nV,mI,nU,qo,q2,Zw,w];by_cases M:b=125
  ·subst M;simp only[bw,aJ,cE];exact⟨_,rfl,j,d.mono j,⟨tr,rfl,λU=>absurd U (d.yM (by decide))⟩,trivial⟩
  simp only[M,bF,aU,cn];by_cases F:b=92
  ·subst F;simp only[bw,aJ];have aB:wR (e.S,ax e.S (92::t),e.ne,pd,0,0,[],[],tr)=some (e.st (t.drop 1) pd tr):=SQ d;rw[aB,aQ rfl];have aG:t.drop 1<:+92::t:=(lJ 1 t).trans j;have hl:(t.drop 1).length<(92::t).length:=by grind
   have g:ae (cw (a7 true n) (some (ey (a7 true n)))) (λ_=>(aX (.inl ()):ak (Unit⊕Unit))) (92::t) pd= .ok (.inl ()) (t.drop 1) pd:=by rfl
   rw[g];exact bL.inl hl (hk () _ pd _ aG (d.mono aG) hl ⟨tr,rfl⟩)
  simp only[F,bF,aU];by_cases G:b=39
  ·subst G;simp only[bw,aJ];have g:cw (a7 true n) (some (ey (a7 true n))) (39::t) pd=js gd [39] t pd:=by rfl
   have:=Fq (f:=λ_ r pd=>match r with
    |[]=>b5 [] r pd
    |b::t=>if b=125 then .ok (.inr ()) t pd else(ae (cw (a7 true n) (some (ey (a7 true n)))) λ_=>aX (.inl ())) r pd) (part:=cw (a7 true n) (some (ey (a7 true n)))) (r:=39::t) (pd:=pd) (pr:=λst=>st) (cv:=λ_ _ _=>True) (k:=k) (by rw[g];exact ZE (tr:=tr) d fM) (λa r' i c=>by
     rw[g] at c;unfold js at c;cases l:gd t with
     |none=>grind
     |some q=>rw[l] at c;cases c;have:=(Ag _ _ l).length_le;grind) p o
   rw[w,sC] at this;exact this
  simp only[G,bF,aU];by_cases H:b=34
  ·subst H;simp only[bw,aJ];have g:cw (a7 true n) (some (ey (a7 true n))) (34::t) pd=ey (a7 true n) t pd:=by rfl
   refine Fq (part:=cw (a7 true n) (some (ey (a7 true n)))) (by rw[g];exact ZF hD bc d fM d.sfx) (λa r' i c=>?_) p o;rw[g] at c;have:=((aq.double (l8 true n)).sfx c).length_le;grind
  simp only[H,bF,aU];by_cases I:b=96
  ·subst I;simp only[bw,aJ];have g:cw (a7 true n) (some (ey (a7 true n))) (96::t) pd=js gZ [96] t pd:=by rfl
   have:=Fq (f:=λ_ r pd=>match r with
    |[]=>b5 [] r pd
    |b::t=>if b=125 then .ok (.inr ()) t pd else(ae (cw (a7 true n) (some (ey (a7 true n)))) λ_=>aX (.inl ())) r pd) (part:=cw (a7 true n) (some (ey (a7 true n)))) (r:=96::t) (pd:=pd) (pr:=λst=>st) (cv:=λ_ _ _=>True) (k:=k) (by rw[g];exact SR (tr:=tr) d fM) (λa r' i c=>by
     rw[g] at c;unfold js at c;cases l:gZ t with
     |none=>grind
     |some q=>rw[l] at c;cases c;have:=(EY _ _ _ (cV _) l).length_le;grind) p o
   rw[w,sC] at this;exact this
  simp only[I,bF,aU];by_cases J:b=36
  ·subst J;simp only[bw,aJ];exact Fq (part:=cw (a7 true n) (some (ey (a7 true n)))) (by rw[CJ];exact hD.im e bc t pd tr d) (λa r' i c=>by rw[CJ] at c;exact SS true n c) p o
  ·simp only[J,bF,aU];have g:ae (cw (a7 true n) (some (ey (a7 true n)))) (λ_=>(aX (.inl ()):ak (Unit⊕Unit))) (b::t) pd= .ok (.inl ()) t pd:=by unfold ae;rw[Fs F I J (.inr ⟨G,H⟩)];rfl
   rw[g];exact bL.inl (by simp) (hk () _ pd _ j (d.mono j) (by simp) ⟨tr,rfl⟩)
end
def ju:Ctx->aa
 | .text=>[]| .paren=>[41]| .item=>[59,59]|_=>[119]
def oR:Ctx->bt
 | .qU=>[[125]]| .rB=>[iE]| .qc=>[ig,hS,eU]| .kj=>[eU]| .pB=>[gD]| .done=>[ih]|_=>[]
def xf:Ctx->Bool->Bool
 | .text,_=>false
 | .paren,_=>true
 | .item,no=>no
 |_,no=> !no
structure oo(R:bg)(n:Nat):Prop where
 im:∀(e:ca)(c:Ctx)(no:Bool),xf c no=true->e.ne=30- (n:Int)->∀(r:aa)(pd:ao)(st:ah),cB e r pd->fY e r pd st->bL false e r ((aR true n).ls c no r pd) (λb=>b.2) (λa _ b=>b.1=(a:Int)) (R.nI st (ju c) (oR c) (!no))
def ca.up(e:ca):ca:=⟨e.S,e.ne+1⟩
theorem nY.tC{e:ca}{r:aa}{st:ah}(h:nY e.up r st):nY e r st:=⟨h.s,h.lo,h.bf,h.nd,h.op⟩
theorem cB.xg{e:ca}{r:aa}{pd:ao}(h:cB e r pd):cB e.up r pd:=⟨h.bZ,h.nl,h.IP,h.sfx,h.jM⟩
theorem cB.tC{e:ca}{r:aa}{pd:ao}(h:cB e.up r pd):cB e r pd:=⟨h.bZ,h.nl,h.IP,h.sfx,h.jM⟩
theorem pK{e:ca}{r r0:aa}{pd:ao}{tr:Bool}(p:Int)(h:cB e r pd)(h0:r<:+r0):∃st,hr (e.st r pd tr) p=some st/\iQ e r0 st:=by
 refine⟨_,rfl,rfl,rfl,?_,?_,?_,?_⟩
 ·show ax e.S r0<=ax e.S r;grind[ax]
 ·show ax e.S r<=_;have:= @oQ r e.S;omega
 ·show([]:aa).length+eh pd<=_;have:=h.jM;grind
 ·show([]:bt).length<=_;simp
theorem alQ{j:aa->Option ah}{a:(Int×aa)->Option ah}(x:aa):EC j a (0,x)=j x:=rfl
theorem alR{j:aa->Option ah}{a:(Int×aa)->Option ah}(k:Nat)(x:aa)(c:x.length+k<=100000000):EC j a (((k+1:Nat):Int),x)=a ((k:Int),x++[41]):=by
 unfold EC;dsimp only;have h0:(0:Int)<((k+1:Nat):Int):=by omega
 have b:W (((k+1:Nat):Int)-1)=(k:Int):=by grind[dV]
 rw[decide_eq_true h0,aJ,bS (by grind),b]
theorem ZH{j:aa->Option ah}:∀(n k:Nat)(x:aa),k<n->x.length+k<=100000000->fixF (EC j) n ((k:Int),x)=j (x++List.replicate k 41):=by
 intro n;induction n with
 |zero=>omega
 |succ n a=>
  intro k x h b;rw[e7];cases k with
  |zero=>simp[alQ,trans,List.replicate_zero,List.append_nil]
  |succ k=>grind[alR,List.length_append,List.length_singleton,List.append_assoc]
def yN(st:ah):ah:=(st.1,W (st.2.1+1),W (st.2.2.1-1),st.2.2.2.1,st.2.2.2.2.1,st.2.2.2.2.2.1,st.2.2.2.2.2.2.1,st.2.2.2.2.2.2.2.1,st.2.2.2.2.2.2.2.2)
def sD(st:ah):ah:=(st.1,st.2.1,W (st.2.2.1-1),st.2.2.2.1,st.2.2.2.2.1,st.2.2.2.2.2.1,st.2.2.2.2.2.2.1,st.2.2.2.2.2.2.2.1,st.2.2.2.2.2.2.2.2)
theorem nY.yN{e:ca}{r1 r0:aa}{st:ah}(h:nY e r1 st)(ad:r1<:+r0)(h0:r0<:+e.S)(hl:r1.length<r0.length)(f:e.S.length<=1000000):nY e r0 (yN st):=by
 have a:=h.lo;have b:=h.bf;have g:=eG h0;have i:0<=ax e.S r1:=by grind[ax]
 have c:ax e.S r0<=ax e.S r1:=by grind[ax]
 have d:W (st.2.1+1)=st.2.1+1:=dV (by omega) (by omega);refine⟨h.s,?_,?_,h.nd,?_⟩
 ·show _<=W (st.2.1+1);omega
 ·show W (st.2.1+1)<=_;omega
 ·have:=h.op;show st.2.2.2.2.2.2.2.1.length<=_;omega
theorem alU{e:ca}{r1:aa}{st:ah}(h:nY e r1 st)(a:r1<:+e.S)(d:e.S.length<=1000000)(hl:(e.S.length:Int)<=st.2.1):(e.S.length:Int)<=(yN st).2.1:=by have b:=h.bf;have f:=eG a;have c:W (st.2.1+1)=st.2.1+1:=dV (by omega) (by omega);show _<=W (st.2.1+1);omega
theorem nY.sD{e:ca}{r0:aa}{st:ah}(h:nY e r0 st):nY e r0 (sD st):=⟨h.s,h.lo,h.bf,h.nd,h.op⟩
theorem SU{α:Type}{m:ak α}{x n r:aa}{pd:ao}{a:α}{r1:aa}{b:ao}(h:m r pd= .ok a r1 b):((m.aK x).named n) r pd= .ok a r1 b:=by grind[ak.named,ak.aK]
theorem SV{α:Type}{m:ak α}{x n r:aa}{pd:ao}{op:bt}{nd:aa}{ds:ao}(h:m r pd= .more op nd ds):((m.aK x).named n) r pd= .more (n::op) (cQ nd ds x).1 (cQ nd ds x).2:=by grind[ak.named,ak.aK]
theorem ZJ{α:Type}{m:ak α}{x n r q:aa}{pd:ao}(h:m r pd= .bad q):((m.aK x).named n) r pd= .bad q:=by grind[ak.named,ak.aK]
theorem ZK{α:Type}{m:ak α}{x n r q:aa}{pd:ao}(h:m r pd= .deep q):((m.aK x).named n) r pd= .deep q:=by grind[ak.named,ak.aK]
theorem jP{α β:Type}{m:ak α}{k:α->ak β}{r q:aa}{pd:ao}(h:m r pd= .deep q):ae m k r pd= .deep q:=by grind[ae]
section
variable{R:bg}{n:Nat}(gL:∀m,n=m+1->kt R m/\oo R m)(aw:n<=30){e:ca}(bc:e.ne=30- (n:Int))
include gL aw bc
theorem alV{t:aa}{pd:ao}{tr:Bool}(h:cB e (36::t) pd):bL false e (36::t) (a7 true n (36::t) pd) (λst=>st) (λ_ _ _=>True) (HZ R (e.st (36::t) pd tr)):=by
 have D:t<:+36::t:=eb 36 t;have bT:=iP h.bZ h.sfx;have tq:=h.yM (by decide);have MB:tc (e.st (36::t) pd tr) 1=some (t.headD 0):=SN h 1 (by decide);have I:tc (e.st (36::t) pd tr) 2=some ((t.drop 1).headD 0):=SN h 2 (by decide);unfold HZ;rw[MB];simp only[n0,Cv,Cw];rw[I,fX];cases t with
 |nil=>grind
 |cons c u=>
  simp only[y9,F8,xy];have MF:c::u<:+e.S:=dY h.sfx;have z:u<:+36::c::u:=(eb c u).trans D;by_cases aF:c=40
  ·subst aF;simp only[bw,cE,aJ];have k4:u≠[]:=(h.mono D).yM (by decide);cases u with
   |nil=>grind
   |cons d v=>
    simp only[y9];by_cases aG:d=40
    ·
     subst aG;simp only[bw,aJ];have mu:W (ax e.S (36::40::40::v)+3)=ax e.S v:=ks (w:=[36,40,40]) h.bZ h.sfx;have l:v<:+36::40::40::v:=gS [36,40,40] v;have aB:a7 true n (36::40::40::v) pd=ns v pd:=by rw[Fi];rfl
     rw[aB];have ad:(e.st (36::40::40::v) pd tr).1=e.S:=rfl;have af:(e.st (36::40::40::v) pd tr).2.1=ax e.S (36::40::40::v):=rfl;rw[ad,af,mu,alu h.bZ (l.trans h.sfx),aQ rfl];unfold ns a8;cases ag:hR 0 v with
     |bad q=>simp only[qp,show(decide ((-2:Int)= -2))=true from rfl,aJ];obtain⟨st,g,f⟩:=pK (tr:=tr) (ax e.S q) h fM;rw[g,aQ rfl];exact⟨_,rfl,f.1,f.2.s,f.2.lo,f.2.bf,by have:=f.2.nd;have i:=h.jM;cases g;omega,by cases g;exact f.2.op⟩
     |ok q=>
      have E:=Ae 0 v q ag;have hl:=eG (E.trans (l.trans h.sfx));have h0:¬ax e.S q= -2:=by grind[ax]
      simp only[qp,h0,bF,aU];have iZ:(0:Int)=((0:Nat):Int):=rfl;rw[iZ,ZH bC 0 [] (by simp[gg]) (by simp)]
      have:=SI (q:=false) (tr:=tr) (o:=some q) (nm:=[36,40,40]) (x:=[]) h fM (λJ F=>by grind) (by simp) (by simp) (by simp) (λJ F lH=>by
       cases F;exfalso;have dv:=(h.nl.h7 h.sfx).h7 l
       have:∃x,v=x++41::q:=by
        have:∀(r:aa)(d:Nat)(q:aa),hR d r= .ok q->∃x,r=x++41::q:=by
         intro r;induction r with
         |nil=>simp[hR]
         |cons b t a4=>
          intro d q i;unfold hR at i;split at i
          ·cases i
          ·split at i
           ·grind
           ·split at i
            ·split at i
             ·grind
             ·split at i
              ·cases i
              ·split at i
               ·rename_i ar3 _ K;cases i;subst K;exact⟨[b],rfl⟩
               grind
            grind
        grind
       grind[SP])
      simp only[kU] at this;obtain⟨st,g,f⟩:=this;simp only[List.replicate_zero,rP];rw[g,aQ rfl];exact⟨st,rfl,f⟩
     |more k=>have hk:=aH.Sz v 0 k ag;have hl:=eG (l.trans h.sfx);have hb:=h.bZ;simp only[qp,show(decide ((-1:Int)= -2))=false from rfl,aU];rw[ZH bC k [] (by grind[gg]) (by grind)];have:=SI (q:=false) (tr:=tr) (o:=none) (nm:=[36,40,40]) (x:=List.replicate k 41) h List.suffix_rfl (λJ F=>by grind) (by simp) (by grind) (by simp) (λJ F=>by grind);simp only[kU] at this;obtain⟨st,g,f⟩:=this;simp only[tM];rw[g,aQ rfl];exact⟨st,rfl,f⟩
    ·
     simp only[aG,bF,aU];unfold a8 yk;have G:¬([36,40,40]:aa).isPrefixOf (36::40::d::v)=true:=by grind
     cases n with
     |zero=>
      have p:decide (30<=(e.st (36::40::d::v) pd tr).2.2.1)=true:=by show decide (30<=e.ne)=true;grind
      rw[p];have aB:a7 true 0 (36::40::d::v) pd= .deep (36::40::d::v):=by rw[Fi];unfold dd;rw[aO G,bh (by simp)];rfl
      rw[aB];obtain⟨st,g,f⟩:=pK (tr:=tr) ((e.st (36::40::d::v) pd tr).2.1) h fM;simp only[aJ,sC];rw[g,aQ rfl,aQ rfl];exact⟨_,rfl,by cases g;exact f⟩
     |succ m=>
      obtain⟨MG,tw⟩:=gL m rfl;have p:decide (30<=(e.st (36::40::d::v) pd tr).2.2.1)=false:=by show decide (30<=e.ne)=false;grind
      rw[p];simp only[aU,n0,aJ];have L:e.ne=(e.st (36::40::d::v) pd tr).2.2.1:=rfl;rw[<-L];have M:W (e.ne+1)=e.ne+1:=dV (by omega) (by omega);have N:W ((e.st (36::40::d::v) pd tr).2.1+2)=ax e.S (d::v):=ks (w:=[36,40]) h.bZ h.sfx;rw[M,N];have l:d::v<:+36::40::d::v:=z;have A:=(h.mono l).xg;have O:d::v≠[]:=by simp
      have hl:=tw.im e.up .paren true rfl (by show e.ne+1=_;omega) (d::v) pd (e.up.st (d::v) pd tr) A ⟨tr,rfl,λi=>absurd i O⟩;have aB:a7 true (m+1) (36::40::d::v) pd=sq (aR true m) (d::v) pd:=by rw[Fi];unfold dd jt;rw[aO G,bh (by simp)];rfl
      rw[aB];have P:((e.st (36::40::d::v) pd tr).1,ax e.S (d::v),e.ne+1,(e.st (36::40::d::v) pd tr).2.2.2.1,(e.st (36::40::d::v) pd tr).2.2.2.2.1,(e.st (36::40::d::v) pd tr).2.2.2.2.2.1,(e.st (36::40::d::v) pd tr).2.2.2.2.2.2.1,(e.st (36::40::d::v) pd tr).2.2.2.2.2.2.2.1,(e.st (36::40::d::v) pd tr).2.2.2.2.2.2.2.2)=e.up.st (d::v) pd tr:=rfl;rw[P];obtain⟨b,g,f⟩:=hl;have vX:R.nI (e.up.st (d::v) pd tr) [41] [] false=some b:=g;rw[vX,aQ rfl];unfold sq;have B:=(tz true m).ls .paren true (d::v) pd;have j7:(d::v).length<(40::d::v).length:=by simp
      have hC:(40::d::v).length<(36::40::d::v).length:=by simp
      cases hk:(aR true m).ls .paren true (d::v) pd with
      |ok a r1 C=>
       rw[hk] at f;obtain⟨Q,a2,⟨s,a3,bO⟩,eY⟩:=f;dsimp only at a3;rw[aM (SU hk)];obtain⟨c2,e1⟩:=Ap true m;rw[e1] at hk;obtain⟨ho,ly⟩:=yF (by simp) hk;have gw:ar r1= .op [41]:=by grind[dG]
       rw[E_ ho gw];obtain⟨q,rfl⟩:=(il gw).2.1;rw[o0];have j:gv b.2 [36,40] [41]=some b.2:=pI (by rw[a3];show(0:Int)≠1;decide);rw[j,aQ rfl,a3];have E:q<:+[41]++q:=gS [41] q;have kE:W (ax e.S ([41]++q)+1)=ax e.S q:=ks (w:=[41]) h.bZ a2.sfx;have lH:q≠[]:=a2.yM (by decide);have rU:=(a2.tC.mono E);refine⟨e.st q C s,?_,E.trans (Q.trans l),rU,⟨s,rfl,λi=>absurd i lH⟩,trivial⟩;show some (e.S,W (ax e.S ([41]++q)+1),W (e.ne+1-1),C,(0:Int),(0:Int),([]:aa),([]:bt),s)=_;rw[kE,dV (by omega) (by omega)];have:e.ne+1-1=e.ne:=by omega
       rw[this];rfl
      |more op nd ds=>rw[hk] at f B;simp only[dZ] at B;have S:=A.jM;have T:e.up.S=e.S:=rfl;rw[T] at S;obtain⟨U,V,X,Y,Z⟩:=f.z;obtain⟨aP,al,bd⟩:=xe (e:=e) (nm:=[36,40]) (x:=[41]) (r1:=d::v) (r0:=40::d::v) (nd:=nd) (ds:=ds) ⟨U,V,X,Y.tC,Z⟩ (eb _ _) MF (.inr j7) (by grind) h.bZ (by simp);rw[al,aQ rfl,de (SV hk)];obtain⟨q7,gi,cX,H,lS⟩:=bd;exact⟨yN aP,rfl,.inl ⟨q7,gi,cX,H.yN (eb _ _) h.sfx hC h.bZ,alU H MF h.bZ lS⟩⟩
      |bad q=>rw[hk] at f;have j:gv b.2 [36,40] [41]=some b.2:=pI (by rw[f.1];decide);rw[j,aQ rfl,g1 (ZJ hk)];exact⟨yN b.2,rfl,f.1,f.2.tC.yN l h.sfx (by simp) h.bZ⟩
      |deep q=>rw[hk] at f;have j:gv b.2 [36,40] [41]=some b.2:=pI (by rw[f.1];decide);rw[j,aQ rfl,jP (ZK hk)];exact⟨yN b.2,rfl,f.1,f.2.tC.yN l h.sfx (by simp) h.bZ⟩
  ·simp only[aF,bF,aU,eB,cn];by_cases xQ:c=123
   ·
    subst xQ;simp only[bw,aJ];unfold a8 yk;have G:¬([36,40,40]:aa).isPrefixOf (36::123::u)=true:=by simp
    have alZ:¬([36,40]:aa).isPrefixOf (36::123::u)=true:=by simp
    cases n with
    |zero=>
     have p:decide (30<=(e.st (36::123::u) pd tr).2.2.1)=true:=by show decide (30<=e.ne)=true;grind
     rw[p];have aB:a7 true 0 (36::123::u) pd= .deep (36::123::u):=by rfl
     rw[aB];obtain⟨st,g,f⟩:=pK (tr:=tr) ((e.st (36::123::u) pd tr).2.1) h fM;simp only[aJ,sC];rw[g,aQ rfl,aQ rfl];exact⟨_,rfl,by cases g;exact f⟩
    |succ m=>
     obtain⟨MG,tw⟩:=gL m rfl;have p:decide (30<=(e.st (36::123::u) pd tr).2.2.1)=false:=by show decide (30<=e.ne)=false;grind
     rw[p];simp only[aU,n0,aJ];have L:e.ne=(e.st (36::123::u) pd tr).2.2.1:=rfl;rw[<-L];have M:W (e.ne+1)=e.ne+1:=dV (by omega) (by omega);rw[M];have P:((e.st (36::123::u) pd tr).1,(e.st (36::123::u) pd tr).2.1,e.ne+1,(e.st (36::123::u) pd tr).2.2.2.1,(e.st (36::123::u) pd tr).2.2.2.2.1,(e.st (36::123::u) pd tr).2.2.2.2.2.1,(e.st (36::123::u) pd tr).2.2.2.2.2.2.1,(e.st (36::123::u) pd tr).2.2.2.2.2.2.2.1,(e.st (36::123::u) pd tr).2.2.2.2.2.2.2.2)=e.up.st (36::123::u) pd tr:=rfl;rw[P];have aB:a7 true (m+1) (36::123::u) pd=((qT (a7 true m)).named [36,123]) u pd:=by rw[Fi];unfold dd jt;rw[aO G,aO alZ,bh (by simp)];show((aR true m).pm.named [36,123]) u pd=_;rw[Yt]
     rw[aB];unfold LD a8;have N:W ((e.up.st (36::123::u) pd tr).2.1+2)=ax e.S u:=ks (w:=[36,123]) h.bZ h.sfx;have IF:((e.up.st (36::123::u) pd tr).1,W ((e.up.st (36::123::u) pd tr).2.1+2),(e.up.st (36::123::u) pd tr).2.2.1,(e.up.st (36::123::u) pd tr).2.2.2.1,(e.up.st (36::123::u) pd tr).2.2.2.2.1,(e.up.st (36::123::u) pd tr).2.2.2.2.2.1,(e.up.st (36::123::u) pd tr).2.2.2.2.2.2.1,(e.up.st (36::123::u) pd tr).2.2.2.2.2.2.2.1,(e.up.st (36::123::u) pd tr).2.2.2.2.2.2.2.2)=e.up.st u pd tr:=by rw[N];rfl
     rw[IF];have ME:=ZC (R:=R) (a:=[36,123]) (b:=[125]) bC (e.up.st u pd tr);have A:=(h.mono z).xg;obtain⟨b,g,f⟩:=alP MG (e:=e.up) (by show e.ne+1=_;omega) (tr:=tr) A;rw[g,aQ rfl] at ME;refine bL.dU ?_ (mq (λy=>au y _) ME);unfold qT;have B:=aH.Cs (n:=11) (aH.yB (w8 true m▸(tz true m).dl)) 125 u pd;have j7:u.length<(123::u).length:=by simp
     have hC:(123::u).length<(36::123::u).length:=by simp
     cases hk:iO 125 (cw (a7 true m) (some (ey (a7 true m)))) u pd with
     |ok a r1 C=>
      rw[hk] at f;obtain⟨Q,a2,⟨s,a3,bO⟩,eY⟩:=f;dsimp only at a3;rw[SU hk];have j:gv b [36,123] [125]=some b:=pI (by rw[a3];show(0:Int)≠1;decide);rw[j,aQ rfl,a3];refine⟨e.st r1 C s,?_,Q.trans z,a2.tC,⟨s,rfl,bO⟩,trivial⟩;show some (e.S,ax e.S r1,W (e.ne+1-1),C,(0:Int),(0:Int),([]:aa),([]:bt),s)=_;rw[dV (by omega) (by omega)];have:e.ne+1-1=e.ne:=by omega
      rw[this];rfl
     |more op nd ds=>rw[hk] at f B;simp only[dZ] at B;have S:=A.jM;have T:e.up.S=e.S:=rfl;rw[T] at S;obtain⟨U,V,X,Y,Z⟩:=f.z;obtain⟨aP,al,bd⟩:=xe (e:=e) (nm:=[36,123]) (x:=[125]) (r1:=u) (r0:=36::123::u) (nd:=nd) (ds:=ds) ⟨U,V,X,Y.tC,Z⟩ z h.sfx (.inr (by omega)) (by grind) h.bZ (by simp);rw[al,aQ rfl,SV hk];obtain⟨q7,gi,cX,H,lS⟩:=bd;exact⟨sD aP,rfl,.inl ⟨q7,gi,cX,H.sD,lS⟩⟩
     |bad q=>rw[hk] at f;have j:gv b [36,123] [125]=some b:=pI (by rw[f.1];decide);rw[j,aQ rfl,ZJ hk];exact⟨sD b,rfl,f.1,(f.2.tC.mono z).sD⟩
     |deep q=>rw[hk] at f;have j:gv b [36,123] [125]=some b:=pI (by rw[f.1];decide);rw[j,aQ rfl,ZK hk];exact⟨sD b,rfl,f.1,(f.2.tC.mono z).sD⟩
   ·
    simp only[xQ,bF,aU];have aS:fJ (36::c::u)=false:=by grind[sx]
    rw[IV true n aS];refine⟨e.st (c::u) pd tr,?_,D,h.mono D,⟨tr,rfl,λi=>absurd i (by simp)⟩,trivial⟩;show some (e.S,W (ax e.S (36::c::u)+1),e.ne,pd,(0:Int),(0:Int),([]:aa),([]:bt),tr)=_;rw[bT];rfl
end
structure tD(r0:aa)(f:Bool)(r1:aa):Prop where
 sfx:r1<:+r0
 t:f=true->(c5 r0).2=(c5 r1).2/\((c5 r1).2=true->(c5 r0).1=r0.take (r0.length-r1.length)++(c5 r1).1)
 f:f=false->(c5 r0).2=false
theorem tD.start(r:aa):tD r true r:=⟨fM,λ_=>⟨rfl,λ_=>by simp⟩,λh=>by cases h⟩
theorem SW{b:UInt8}{t:aa}(a:cT (b::t)=false)(h:b=92\/b=39\/b=34\/b=96\/fJ (b::t)=true):c5 (b::t)=([],false):=by simp_all[c5]
theorem al0{b:UInt8}{t:aa}(a:cT (b::t)=false)(h:¬(b=92\/b=39\/b=34\/b=96\/fJ (b::t)=true)):(c5 (b::t)).2=(c5 t).2/\((c5 t).2=true->(c5 (b::t)).1=b::(c5 t).1):=by
 have h0:c5 (b::t)=(match c5 t with|(w,true)=>(b::w,true)|(_,false)=>([],false)):=by rw[c5,a,aO (by simp),aO h];grind
 grind
theorem tD.al1{r0:aa}{f:Bool}{b:UInt8}{t r':aa}(bf:tD r0 f (b::t))(a:cT (b::t)=false)(h:b=92\/b=39\/b=34\/b=96\/fJ (b::t)=true)(c:r'<:+r0):tD r0 false r':=by
 refine⟨c,(λd=>by cases d),λ_=>?_⟩;cases f with
 |true=>rw[(bf.t rfl).1,SW a h]
 |false=>exact bf.f rfl
theorem tD.byte{r0:aa}{f:Bool}{b:UInt8}{t:aa}(bf:tD r0 f (b::t))(c:cT (b::t)=false)(h:¬(b=92\/b=39\/b=34\/b=96\/fJ (b::t)=true)):tD r0 f t:=by
 have a:=bf.sfx;refine⟨(eb b t).trans a,λhf=>?_,bf.f⟩;obtain⟨ad,d⟩:=bf.t hf;obtain⟨g,e⟩:=al0 c h;refine⟨by grind,λaB=>?_⟩;rw[d (by grind),e aB];obtain⟨u,rfl⟩:=a;have i:(u++b::t).length- (b::t).length=u.length:=by simp
 have j:(u++b::t).length-t.length=(u++[b]).length:=by grind
 grind
theorem ZL{α β b:Type}{g:Prop}[Decidable g]{m:Option α}{d:α}{k:α->Option β}{G:β->Option b}:au (cP g m d k) G=cP g m d (λa=>au (k a) G):=by grind[cP,sC]
theorem ZM{R:bg}{j:Bool×ah->Option (aa×Bool×ah)}:∀(n:Nat)(x:Bool×ah),fixF (wT R j) n x=au (fixF (wT R λx=>some ([],x.1,x.2)) n x) λy=>j (y.2.1,y.2.2)
 |0,x=>rfl
 |n+1,x=>by
  rw[e7,e7];have a:=ZM (R:=R) (j:=j) n;generalize fixF (wT R j) n=c at a;generalize fixF (wT R λx=>some ([],x.1,x.2)) n=d at a;obtain⟨f,e,g,i,k,b,l,m,o,p⟩:=x;unfold wT a8;dsimp only;by_cases h:b=0
  ·subst h;simp only[bw,aJ,sC,SO,ZL,a,n0]
  simp_all[n0]
theorem SX{R:bg}{e:ca}{r0:aa}{pd:ao}{tr:Bool}{b:aa×Bool×ah}(h:cB e r0 pd)(j:b.2.2.1=e.S)(d:p_ R (e.st r0 pd tr)=some b):b.1.length<=e.S.length/\((e.S.length:Int)<=b.2.2.2.1->b.1=r0):=by
 unfold p_ a8 at d;dsimp only at d;rw[ZM] at d;cases l:fixF (wT R λx=>some ([],x.1,x.2)) bC (true,(e.st r0 pd tr).1,(e.st r0 pd tr).2.1,(e.st r0 pd tr).2.2.1,(e.st r0 pd tr).2.2.2.1,(e.st r0 pd tr).2.2.2.2.1,(e.st r0 pd tr).2.2.2.2.2.1,(e.st r0 pd tr).2.2.2.2.2.2.1,(e.st r0 pd tr).2.2.2.2.2.2.2.1,(e.st r0 pd tr).2.2.2.2.2.2.2.2) with
 |none=>rw[l] at d;cases d
 |some y=>
  rw[l,aQ rfl] at d;obtain⟨v,f,g,k,m,n,o,p,q,r,s⟩:=y;dsimp only at d
  have t:∀(i:Int),aZ (0<=(e.st r0 pd tr).2.1/\(e.st r0 pd tr).2.1<=i/\i<=(g.length:Int)) (some (cg g (e.st r0 pd tr).2.1 i,f,(g,k,m,n,o,p,q,r,s)))=some b->b=(cg g (ax e.S r0) i,f,(g,k,m,n,o,p,q,r,s)):=by
   intro i bq;unfold aZ at bq;split at bq
   ·cases bq;rfl
   grind
  have u:∀(a c:Int),(cg g a c).length<=g.length:=by intro a c;unfold cg;grind
  by_cases aF:(g.length:Int)<k
  ·simp only[aF,bw,aJ] at d;have:=t _ d;subst this;dsimp only at j⊢;subst j;exact⟨u _ _,λ_=>L8 h.sfx⟩
  ·simp only[aF,bF,aU] at d;have:=t _ d;subst this;dsimp only at j⊢;subst j;refine⟨u _ _,λhle=>?_⟩;have:k=(e.S.length:Int):=by omega
   rw[this];exact L8 h.sfx
section
variable{R:bg}{n:Nat}(hD:kt R n){e:ca}(bc:e.ne=30- (n:Int))
include hD bc
theorem Fv{r0:aa}{J:ao}{tr0:Bool}(h:cB e r0 J):bL false e r0 (cG (a7 true n) r0 J) (λb=>b.2.2) (λ_ r' b=>b.1=r0.take (r0.length-r'.length)/\b.2.1=(c5 r0).2/\(b.2.1=true->b.1=(c5 r0).1)) (p_ R (e.st r0 J tr0)):=by
 unfold p_ a8 cG;have al2:=eG h.sfx;have na:=h.bZ;have ZI:0<=ax e.S r0:=by grind[ax]
 refine bL.rep (en:=λ_ r pd (x:Bool×ah)=>∃tr,x.2=e.st r pd tr/\tD r0 x.1 r) (λk s r pd x c D mK hk=>?_) bC () r0 J _ (vU h) h ⟨tr0,rfl,tD.start r0⟩;obtain⟨f,x⟩:=x;obtain⟨tr,D,bf⟩:=D;dsimp only at D bf;subst D;have ZR:=bf.sfx;have N:ax e.S r0<=ax e.S r:=by grind[ax]
 have j5:∀(g:Bool)(st:ah),st.1=e.S->ax e.S r0<=st.2.1->∃w,(bif decide ((st.1.length:Int)<st.2.1) then aZ (0<=ax e.S r0/\ax e.S r0<=(st.1.length:Int)/\(st.1.length:Int)<=(st.1.length:Int)) (some (cg st.1 (ax e.S r0) (st.1.length:Int),g,st))
   else aZ (0<=ax e.S r0/\ax e.S r0<=st.2.1/\st.2.1<=(st.1.length:Int)) (some (cg st.1 (ax e.S r0) st.2.1,g,st)))=some (w,g,st):=by
  intro g st ad F;by_cases aF:(st.1.length:Int)<st.2.1
  ·simp_all[bS,oQ]
  ·simp only[aF,bF,aU];simp_all[bS]
 have fu:∀(x:Bool×ah),x.2.2.2.2.2.1≠0->x.2.1=e.S->ax e.S r0<=x.2.2.1->∃w,k x=some (w,x.1,x.2):=by intro x D ad F;obtain⟨k',jn⟩:=mK x;rw[jn];unfold wT;dsimp only;simp only[D,bF,aU];exact j5 x.1 x.2 ad F
 unfold wT a8 ca.st;dsimp only;simp only[bw,aJ];rw[vR,aQ rfl];cases r with
 |nil=>simp only[bw,aJ];obtain⟨E,a1,O⟩:=Fo (tr:=tr) (x:=[]) c (by simp);have tB:g7 (e.S,ax e.S [],e.ne,pd,0,0,[],[],tr) []=some E:=a1;rw[tB,aQ rfl];obtain⟨w,l⟩:=j5 f E O.2.2.2.1.s (by have:=O.2.2.2.1.lo;omega);exact⟨_,l,O.s⟩
 |cons b t=>
  have m:t<:+b::t:=eb b t;have bT:=iP c.bZ c.sfx;simp only[reduceCtorEq,bF,aU];have nE:∀o p u v z A B,ie (e.S,ax e.S (b::t),o,v,p,u,z,A,B)=some b:=λo p u v z A B=>vS c.sfx o p u v z A B
  have P:∀o p u v z A B,hH (e.S,ax e.S (b::t),o,v,p,u,z,A,B)=some (bs (b::t)):=λo p u v z A B=>IQ c.bZ c.sfx o p u v z A B
  rw[nE];simp only[n0,SE,pF];rw[P,fX];have og:(bif(bif gb b then true else decide (b=10)) then true else(!decide ((if(bif gb b then true else decide (b=10))=false then bs (b::t) else [])=[])))=cT (b::t):=by show _=(gb b||(b==10)||(bs (b::t)!=[]));grind
  rw[og];by_cases l:cT (b::t)=true
  ·rw[bh l,l];simp only[aJ];have Q:¬(e.S.length:Int)<ax e.S (b::t):=by simp[oQ]
   simp only[Q,bF,aU];rw[bS ⟨ZI,N,oQ⟩];have g5:=Iy h.sfx ZR;refine⟨_,rfl,fM,c,⟨tr,rfl,λhh=>by cases hh⟩,g5,?_,?_⟩
   ·cases f with
    |true=>rw[(bf.t rfl).1];unfold c5;grind
    |false=>exact(bf.f rfl).symm
   ·intro hf;have Gz:f=true:=hf;have:=(bf.t Gz).2 (by unfold c5;grind);rw[this];show cg e.S (ax e.S r0) (ax e.S (b::t))=_;rw[g5];have aB:(c5 (b::t)).1=[]:=by unfold c5;grind
    grind
  have L:cT (b::t)=false:=by grind
  rw[aO l,L];simp only[aU,nV,mI,nU,qo,q2];have tW:∀(g:Bool),(∀r',r'<:+t->tD r0 g r')->∀r' d E,r'<:+t->cB e r' d->fY e r' d E->bL false e (b::t) (b8 (λ_ r pd=>match r with
    |[]=>b5 [] r pd
    |_::_=>if cT r then .ok (.inr ()) r pd else(ae (cw (a7 true n) (some (ey (a7 true n)))) λ_=>aX (.inl ())) r pd) () r' d) (λb=>b.2.2) (λ_ r' b=>b.1=r0.take (r0.length-r'.length)/\b.2.1=(c5 r0).2/\(b.2.1=true->b.1=(c5 r0).1)) (k (g,E)):=by
   intro g bq r' d E S a2 a3;obtain⟨vT,rfl,_⟩:=a3;exact hk () r' d (g,e.st r' d vT) (S.trans m) a2 (by grind) ⟨vT,rfl,bq r' S⟩
  have M:∀(g:Bool)(y:Option ah)(K:ah->Option (aa×Bool×ah)),(∀r',r'<:+t->tD r0 g r')->bL false e (b::t) (cw (a7 true n) (some (ey (a7 true n))) (b::t) pd) (λst=>st) (λ_ _ _=>True) y->(∀a r' d,cw (a7 true n) (some (ey (a7 true n))) (b::t) pd= .ok a r' d->r'<:+t)->(∀st,K st=k (g,st))->
    bL false e (b::t) (cK (λ_ r pd=>match r with|[]=>b5 [] r pd|_::_=>if cT r then .ok (.inr ()) r pd else(ae (cw (a7 true n) (some (ey (a7 true n)))) λ_=>aX (.inl ())) r pd) (b::t) (ae (cw (a7 true n) (some (ey (a7 true n)))) (λ_=>aX (.inl ())) (b::t) pd)) (λb=>b.2.2) (λ_ r' b=>b.1=r0.take (r0.length-r'.length)/\b.2.1=(c5 r0).2/\(b.2.1=true->b.1=(c5 r0).1)) (au y K):=by
   intro g y K bq T g8 l_
   have ZS:∀st:ah,st.2.2.2.2.1≠0->nY e (b::t) st->∃w,K st=some (w,g,st):=by intro st ad F;rw[l_];exact fu (g,st) ad F.s (by have:=F.lo;grind)
   refine bL.iH c3.k T (λa r1 aD C i s1 v1 gR _=>?_) (λop nd ds C _ ga=>?_) (λC dE=>?_)
   ·have G:=g8 a r1 aD i;rw[l_];exact bL.inl (by grind) (tW g bq r1 aD C G v1 gR)
   ·obtain⟨w,l⟩:=ZS C (by rw[ga.z.1];decide) ga.z.2.2.2.1;grind
   ·obtain⟨w,l⟩:=ZS C (by rw[dE.1];decide) dE.2;grind
  have H:(b=92\/b=39\/b=34\/b=96\/fJ (b::t)=true)->∀r',r'<:+t->tD r0 false r':=λG r' w_=>bf.al1 L G (w_.trans (m.trans ZR))
  by_cases U:b=92
  ·subst U;simp only[bw,aJ];have aB:wR (e.S,ax e.S (92::t),e.ne,pd,0,0,[],[],tr)=some (e.st (t.drop 1) pd tr):=SQ c;rw[aB,aQ rfl];have aG:t.drop 1<:+t:=lJ 1 t;have hl:(t.drop 1).length<(92::t).length:=by grind
   have j:ae (cw (a7 true n) (some (ey (a7 true n)))) (λ_=>(aX (.inl ()):ak (Unit⊕Unit))) (92::t) pd= .ok (.inl ()) (t.drop 1) pd:=by rfl
   rw[j];exact bL.inl hl (hk () _ pd (false,e.st (t.drop 1) pd tr) (aG.trans m) (c.mono (aG.trans m)) hl ⟨tr,rfl,H (.inl rfl) _ aG⟩)
  simp only[U,bF,aU];by_cases V:b=39
  ·subst V;simp only[bw,aJ];have j:cw (a7 true n) (some (ey (a7 true n))) (39::t) pd=js gd [39] t pd:=by rfl
   have:=M false _ (λst=>k (false,st)) (H (.inr (.inl rfl))) (by rw[j];exact ZE (tr:=tr) c fM) (λa r' d i=>by grind[js,Ag]) (λ_=>rfl)
   rw[sC] at this;exact this
  simp only[V,bF,aU];by_cases W:b=34
  ·subst W;simp only[bw,aJ];have j:cw (a7 true n) (some (ey (a7 true n))) (34::t) pd=ey (a7 true n) t pd:=by rfl
   exact M false _ (λst=>k (false,st)) (H (.inr (.inr (.inl rfl)))) (by rw[j];exact ZF hD bc (tr:=tr) c fM c.sfx) (λa r' d i=>by rw[j] at i;exact(aq.double (l8 true n)).sfx i) (λ_=>rfl)
  simp only[W,bF,aU];by_cases X:b=96
  ·subst X;simp only[bw,aJ];have j:cw (a7 true n) (some (ey (a7 true n))) (96::t) pd=js gZ [96] t pd:=by rfl
   have:=M false _ (λst=>k (false,st)) (H (.inr (.inr (.inr (.inl rfl))))) (by rw[j];exact SR (tr:=tr) c fM) (λa r' d i=>by
    rw[j] at i;unfold js at i;cases aE:gZ t with
    |none=>grind
    |some q=>rw[aE] at i;cases i;exact EY _ _ _ (cV _) aE) (λ_=>rfl)
   rw[sC] at this;exact this
  simp only[X,bF,aU];by_cases Y:b=36
  ·subst Y;simp only[bw,aJ];have MB:tc (e.S,ax e.S (36::t),e.ne,pd,0,0,[],[],tr) 1=some (t.headD 0):=SN c 1 (by decide);rw[MB];simp only[n0,fX,Cv,Cw];have aS:fJ (36::t)=(decide (t.headD 0=40)||decide (t.headD 0=123)):=by grind[sx]
   have Ic:∀a r' d,cw (a7 true n) (some (ey (a7 true n))) (36::t) pd= .ok a r' d->r'<:+t:=by
    intro a r' d i;rw[CJ] at i;have G:=((l8 true n).ex.sfx i);have hl:=SS true n i;rcases List.suffix_cons_iff.1 G with ad|ad
    ·grind
    omega
   have mi:=λg bq=>M g (R.ve (e.S,ax e.S (36::t),e.ne,pd,0,0,[],[],tr)) (λst=>k (g,st)) bq (by rw[CJ];exact hD.im e bc t pd tr c) Ic (λ_=>rfl);cases I:fJ (36::t) with
   |true=>
    rw[I] at aS;have aF:(bif decide (t.headD 0=40) then true else decide ((if decide (t.headD 0=40)=false then t.headD 0 else 0)=123))=true:=by grind
    rw[aF];exact mi false (H (.inr (.inr (.inr (.inr I)))))
   |false=>
    rw[I] at aS;have fQ:decide (t.headD 0=40)=false/\decide (t.headD 0=123)=false:=by grind
    have aF:(bif decide (t.headD 0=40) then true else decide ((if decide (t.headD 0=40)=false then t.headD 0 else 0)=123))=false:=by grind
    rw[aF];simp only[aU];have Z:¬((36:UInt8)=92\/(36:UInt8)=39\/(36:UInt8)=34\/(36:UInt8)=96\/fJ (36::t)=true):=by grind
    have jD:=bf.byte L Z;have T:=hD.im e bc t pd tr c;obtain⟨C,bD,aY⟩:=T;have vX:R.ve (e.S,ax e.S (36::t),e.ne,pd,0,0,[],[],tr)=some C:=bD;rw[vX,aQ rfl];rw[IV true n I] at aY;obtain⟨S,a2,⟨om,rfl,bO⟩,_⟩:=aY;have j:ae (cw (a7 true n) (some (ey (a7 true n)))) (λ_=>(aX (.inl ()):ak (Unit⊕Unit))) (36::t) pd= .ok (.inl ()) t pd:=by unfold ae;rw[CJ,IV true n I];rfl
    rw[j];exact bL.inl (by simp) (hk () _ pd (f,e.st t pd om) m a2 (by simp) ⟨om,rfl,jD⟩)
  ·simp only[Y,bF,aU,bT];have j:ae (cw (a7 true n) (some (ey (a7 true n)))) (λ_=>(aX (.inl ()):ak (Unit⊕Unit))) (b::t) pd= .ok (.inl ()) t pd:=by unfold ae;rw[Fs U X Y (.inr ⟨V,W⟩)];rfl
   have fp:fJ (b::t)=false:=by grind[sx]
   rw[j];exact bL.inl (by simp) (hk () _ pd (f,e.st t pd tr) m (c.mono m) (by simp) ⟨tr,rfl,bf.byte L (by grind)⟩)
end
theorem al7{t:aa}(h:gd t=none):dl (t++[39]) 39=some t:=by
 have:=IE (t++[39]);have c:gd (t++[39])=some []:=by
  induction t with
  |nil=>decide
  |cons b t e=>
   unfold gd at h;by_cases a:b=39
   ·grind
   ·rw[aO a] at h;show(if b=39 then some (t++[39]) else gd (t++[39]))=some [];rw[aO a];grind[IE]
 rw[c] at this;obtain⟨d,ad,f,g⟩:=this;have i:d=t:=by grind
 grind[Fa]
theorem al8:∀(n:Nat)(t:aa),t.length<=n->dr t->t≠[]->ez t= .part->∃x c y,t=x++c::y/\(c=36\/c=96)/\(∀v,dl (x++c::v) 34=none)/\
  ∀(D:ak Unit),hT D->∀pd a q g,iO 34 (cw D none) t pd= .ok a q g->q<:+y:=by
 intro n;induction n with
 |zero=>simp
 |succ n w=>
  intro t aw k bc f;cases t with
  |nil=>grind
  |cons b t=>
   have A:t.length<=n:=by grind
   by_cases h:b=34
   ·grind[Mj]
   by_cases aB:b=36\/b=96
   ·refine⟨[],b,t,rfl,aB,λv=>Mi 34 (.inr rfl) b aB v,λD hD pd a q g e=>?_⟩;unfold iO at e;rw[cm] at e;simp only[aO h] at e;have l:aq (iO 34 (cw D none)):=aq.Ad 34 (aq.part hD (by simp)) (mF.part hD (by simp));cases hm:cw D none (b::t) pd with
    |ok G r1 H=>
     have hl:=(mF.part hD (dq:=none) (by simp)) (by simp) hm;have B:=(aq.part hD (dq:=none) (by simp)).sfx hm;have C:r1<:+t:=by
      rcases List.suffix_cons_iff.1 B with ad|ad
      ·grind
      omega
     rw[aM hm] at e;unfold aX cK at e;simp only at e;rw[bh hl] at e;exact(l.sfx e).trans C
    |more op nd ds=>rw[de hm] at e;cases e
    |bad _=>rw[g1 hm] at e;cases e
    |deep _=>rw[jP hm] at e;cases e
   have i:b≠36/\b≠96:=by grind
   by_cases j:b=92
   ·subst j;have I:t≠[]:=by
     rintro rfl;rcases k with ad|⟨s,ad⟩
     ·cases ad
     ·have:=mq List.getLast? ad;grind
    cases t with
    |nil=>grind
    |cons c u=>
     rw[Mk] at f;have m:ez u= .part:=by cases hu:ez u<;>rw[hu] at f<;>simp[jh.add] at f⊢
     have o:u≠[]:=by rintro rfl;grind[ez]
     obtain⟨x,d,y,ad,p,z,E⟩:=w u (by grind) k.tail.tail o m;refine⟨92::c::x,d,y,by grind,p,λv=>?_,λD hD pd a q g e=>?_⟩
     ·grind[dl,R9]
     ·have r:cw D none (92::c::u) pd= .ok () u pd:=by rfl
      rw[Ip (by decide) r (by grind)] at e;grind
   ·rw[Ml b h aB j] at f;have m:ez t= .part:=by cases hu:ez t<;>rw[hu] at f<;>simp[jh.add] at f⊢
    have o:t≠[]:=by rintro rfl;grind[ez]
    obtain⟨x,d,y,ad,p,z,E⟩:=w t A k.tail o m;refine⟨b::x,d,y,by grind,p,λv=>?_,λD hD pd a q g e=>?_⟩
    ·show dl (b::(x++d::v)) 34=none;rw[ID 34 (.inr rfl) b j i.1 i.2 h (λF=>absurd F (by decide)),z];rfl
    ·have r:cw D none (b::t) pd= .ok () t pd:=Fs j i.2 i.1 (.inl rfl);rw[Ip h r (by simp)] at e;grind
theorem al9{D:ak Unit}(hD:hT D):∀(n:Nat)(t:aa)(pd:ao),t.length<=n->match ez t with
  | .closed _ r=>iO 34 (cw D none) t pd= .ok () r pd
  | .open_ _=>iO 34 (cw D none) t pd= .more [] [] pd
  | .part=>True:=by
 intro n;induction n with
 |zero=>intro t pd h;have:t=[]:=n1.1 (by omega);subst this;show iO 34 (cw D none) [] pd= .more [] [] pd;unfold iO;rw[cm];rfl
 |succ n f=>
  intro t pd aw;cases t with
  |nil=>simp_all
  |cons b t=>
   have i:t.length<=n:=by grind
   by_cases a:b=34
   ·subst a;simp[Mj,iO,cw,cm,cK]
   by_cases aB:b=36\/b=96
   ·grind[R_]
   have g:b≠36/\b≠96:=by grind
   by_cases d:b=92
   ·subst d;cases t with
    |nil=>simp[Sa]
    |cons c u=>
     rw[Mk];have e:cw D none (92::c::u) pd= .ok () u pd:=by rfl
     have j:=Ip (c:=34) (b:=92) (by decide) e (by grind);have:=f u pd (by grind);grind[ez,jh.add,part]
   ·rw[Ml b a aB d];have e:cw D none (b::t) pd= .ok () t pd:=Fs d g.2 g.1 (.inl rfl);have j:=Ip (c:=34) a e (by simp);have:=f t pd i;grind[ez,jh.add,part]
def MI(m:Option aa):Prop:=m=none\/∃d,m=some d/\d.contains 10=true
theorem MI.map{m:Option aa}(h:MI m)(x:aa):MI (m.map (x++·)):=by
 rcases h with rfl|⟨d,rfl,h⟩
 ·exact .inl rfl
 ·refine .inr ⟨x++d,rfl,?_⟩;grind
def At(r:aa)(pd:ao):dD Unit->Prop
 | .ok _ q a=>∃w,r=w++q/\((dt r=none/\dl w 0=none)\/∃d,dl w 0=some d/\dt r=some (d,q,[])/\a=pd)
 | .more _ nd ds=>(dt r=none/\MI (dl (r++nd) 0))\/∃d,dt r=some (d,[],nd)/\dl (r++nd) 0=some d/\ds=pd
 | .bad _=>dt r=none
 | .deep _=>dt r=none
theorem At.step{r u p x:aa}{pd:ao}{m:dD Unit}(h:At u pd m)(e:r=p++u)(ad:dt r=(dt u).map λq=>(x++q.1,q.2))(f:∀v,dl (p++v) 0=(dl v 0).map (x++·)):At r pd m:=by
 cases m with
 |ok a q g=>obtain⟨w,i,j⟩:=h;refine⟨p++w,by grind,?_⟩;grind
 |more op nd ds=>
  have c:dl (r++nd) 0=(dl (u++nd) 0).map (x++·):=by grind
  rcases h with⟨b,a2⟩|⟨d,b,a2,a3⟩
  ·left;rw[ad,b,c];exact⟨rfl,a2.map x⟩
  ·right;grind
 |bad q=>show dt r=none;rw[ad,show dt u=none from h];rfl
 |deep q=>show dt r=none;rw[ad,show dt u=none from h];rfl
theorem At.no{r:aa}{pd:ao}{m:dD Unit}(ad:dt r=none)(c:∀a q b,m= .ok a q b->∃w,r=w++q/\dl w 0=none)(d:∀v,dl (r++v) 0=none):At r pd m:=by
 cases m with
 |ok a q b=>obtain⟨w,e,a2⟩:=c a q b rfl;exact⟨w,e,.inl ⟨ad,a2⟩⟩
 |more op nd ds=>exact .inl ⟨ad,.inl (d nd)⟩
 |bad q=>exact ad
 |deep q=>exact ad
theorem al_{D:ak Unit}(hD:hT D):∀(n:Nat)(r:aa)(pd:ao),r.length<=n->dr r->At r pd (cG D r pd):=by
 intro n;induction n with
 |zero=>
  intro r pd h _;have:r=[]:=n1.1 (by omega);subst this;have:cG D [] pd= .more [] [] pd:=by unfold cG;rw[cm];rfl
  rw[this];exact .inr ⟨[],by rw[dt],by simp[Fa],rfl⟩
 |succ n m=>
  intro r pd aw f;cases r with
  |nil=>grind
  |cons b t=>
   have N:t.length<=n:=by grind
   by_cases W:cT (b::t)=true
   ·have O:cG D (b::t) pd= .ok () (b::t) pd:=by unfold cG;grind[cm,cK]
    have g:dt (b::t)=some ([],b::t,[]):=by simp_all[dt.eq_def,bh]
    rw[O];exact⟨[],rfl,.inr ⟨[],Fa,g,rfl⟩⟩
   have i:cT (b::t)=false:=by grind
   have E:∀a q l,cG D (b::t) pd= .ok a q l->∃w,b::t=b::w++q:=by
    intro a q l d;have e:=(aq.word hD).sfx d;have hl:=vF hD (by simp) i d;rcases List.suffix_cons_iff.1 e with ad|⟨w,ad⟩
    ·grind
    grind
   by_cases F:b=92
   ·subst F;have G:t≠[]:=by
     rintro rfl;rcases f with ad|⟨s,ad⟩
     ·cases ad
     ·have:=mq List.getLast? ad;grind
    cases t with
    |nil=>grind
    |cons c u=>
     have j:cw D (some (ey D)) (92::c::u) pd= .ok () u pd:=by rfl
     rw[yA i j (by grind)];refine(m u pd (by grind) f.tail.tail).step (p:=[92,c]) (x:=if c=10 then [] else [c]) rfl (by rw[dt.eq_def];grind) λv=>?_;show dl (92::c::v) 0=_;rw[R7 0 (.inl rfl)];by_cases aF:c=10
     ·simp[aF]
     grind
   by_cases H:b=39
   ·subst H;have j:cw D (some (ey D)) (39::t) pd=js gd [39] t pd:=by rfl
    cases e:gd t with
    |none=>
     have hm:cG D (39::t) pd= .more [[39]] [39] pd:=by
      unfold cG;rw[cm];simp only[i,eB,cn];have:cw D (some (ey D)) (39::t) pd= .more [[39]] [39] pd:=by grind[js]
      rw[de this];rfl
     rw[hm];have g:dt (39::t)=none:=by rw[dt.eq_def];grind
     refine .inl ⟨g,.inr ⟨t,?_,?_⟩⟩
     ·grind[dl,R8,al7]
     ·have G:t≠[]:=by
       rintro rfl;rcases f with ad|⟨s,ad⟩
       ·cases ad
       ·have:=mq List.getLast? ad;grind
      rcases f.tail with ad|⟨s,ad⟩
      ·grind
      grind
    |some k=>
     have K:=IE t;rw[e] at K;obtain⟨A,L,M,P⟩:=K;have Q:=yw t k e;have xb:cw D (some (ey D)) (39::t) pd= .ok () k pd:=by grind[js]
     rw[yA i xb (by grind)];refine(m k pd (by omega) (f.tail.h7 (Ag _ _ e))).step (p:=39::A++[39]) (x:=A) (by grind) ?_ λv=>?_
     ·rw[dt.eq_def];grind
     grind[R8]
   by_cases aB:b=36\/b=96
   ·have g:dt (b::t)=none:=by simp_all[dt.eq_def,aO,bh]
    refine At.no g (λa q l d=>?_) λv=>Mi 0 (.inl rfl) b aB _;obtain⟨w,ad⟩:=E a q l d;exact⟨b::w,ad,Mi 0 (.inl rfl) b aB w⟩
   have B:b≠36/\b≠96:=by grind
   by_cases I:b=34
   ·subst I;have j:cw D (some (ey D)) (34::t) pd=ey D t pd:=by rfl
    have C:=al9 hD t.length t pd (cV _);have J:=YC _ t (cV _);have G:t≠[]:=by
     rintro rfl;rcases f with ad|⟨s,ad⟩
     ·cases ad
     ·have:=mq List.getLast? ad;grind
    cases e:ez t with
    |closed o k=>
     rw[e] at C J;obtain⟨A,L,M⟩:=J;have xb:cw D (some (ey D)) (34::t) pd= .ok () k pd:=by rw[j];exact SU C
     have Q:=EI t o k e;rw[yA i xb (by grind)];refine(m k pd (by omega) (f.tail.h7 (Rm _ _ _ _ (Nat.le_refl _) e))).step (p:=34::A) (x:=o) (by grind) ?_ λv=>?_
     ·rw[dt.eq_def];grind
     grind[dl,CA]
    |open_ o=>
     rw[e] at C J;have xb:cw D (some (ey D)) (34::t) pd= .more [[34]] [34] pd:=by rw[j];exact SV C
     have hm:cG D (34::t) pd= .more [[34]] [34] pd:=by unfold cG;rw[cm];simp only[i,eB,cn];rw[de xb];rfl
     rw[hm];have g:dt (34::t)=some (o,[],[34]):=by rw[dt.eq_def];grind
     refine .inr ⟨o,g,?_,rfl⟩;grind[dl,CA]
    |part=>
     have g:dt (34::t)=none:=by rw[dt.eq_def];grind
     obtain⟨x,c,y,L,M,P,R⟩:=al8 _ t (cV _) f.tail G e;refine At.no g (λa q l d=>?_) λv=>?_
     ·
      have S:q<:+y:=by
       unfold cG at d;rw[cm] at d;simp only[i,eB,cn] at d;cases hm:cw D (some (ey D)) (34::t) pd with
       |ok T r1 U=>
        rw[aM hm] at d;rw[j] at hm;have V:=gK.1 (th.1 hm);have ad:=R D hD pd T r1 U V;unfold aX cK at d;simp only at d;split at d
        ·exact((aq.word hD).sfx d).trans ad
        grind
       |more op nd ds=>rw[de hm] at d;cases d
       |bad _=>rw[g1 hm] at d;cases d
       |deep _=>rw[jP hm] at d;cases d
      obtain⟨z,rfl⟩:=S;grind[CA]
     grind[dl,CA,List.append_assoc]
   ·have j:cw D (some (ey D)) (b::t) pd= .ok () t pd:=Fs F B.2 B.1 (.inr ⟨H,I⟩);rw[yA i j (by simp)];refine(m t pd N f.tail).step (p:=[b]) (x:=[b]) rfl (by rw[dt.eq_def];grind) λv=>?_;show dl (b::v) 0=_;rw[ID 0 (.inl rfl) b F B.1 B.2 I (λ_=>H)];rfl
theorem amb{e:ca}{x0:ah}{j:Int->Option ah}(o:x0.1=e.S)(dg:e.S.length<=1000000):∀(n:Nat)(r:aa),r.length<n->r<:+e.S->fixF (HO x0 j) n (ax e.S r)=j (ax e.S (r.dropWhile b_)):=by
 intro n;induction n with
 |zero=>omega
 |succ n p=>
  intro r aw l;rw[e7];generalize fixF (HO x0 j) n=k at p;unfold HO;rw[o];cases r with
  |nil=>
   have m:∀a c d f g h i,ie (e.S,ax e.S [],a,f,c,d,g,h,i)=some 0:=λa c d f g h i=>vS l a c d f g h i
   rw[m];rfl
  |cons b t=>
   have m:∀a c d f g h i,ie (e.S,ax e.S (b::t),a,f,c,d,g,h,i)=some b:=λa c d f g h i=>vS l a c d f g h i
   rw[m];simp only[n0,fX,So,Sp];have aF:(bif decide (48<=b) then decide ((if decide (48<=b)=true then b else 0)<=57) else false)=b_ b:=by grind[b_]
   rw[aF,iP dg l];grind[List.dropWhile_cons_of_pos,dY,List.dropWhile_cons_of_neg]
theorem MK{e:ca}{r:aa}{pd:ao}{tr:Bool}(h:cB e r pd)(d:r≠[]):vC (e.st r pd tr)=some (match ar r with| .word _ _=>false|_=>true):=by
 unfold vC;have a:ie (e.st r pd tr)=some (r.headD 0):=vS h.sfx _ _ _ _ _ _ _;have c:hH (e.st r pd tr)=some (bs r):=IQ h.bZ h.sfx _ _ _ _ _ _ _;rw[a];simp only[n0,pF];rw[c,fX];cases r with
 |nil=>grind
 |cons b t=>grind[CI]
theorem ZT(pd:ao):cQ [] pd [120]=([120],pd):=SH [120] [] pd (by decide)
theorem ZU{e:ca}{r q:aa}{pd:ao}{tr:Bool}(h:cB e q pd)(a:q<:+r):nY e r (e.st q pd tr):=by
 refine⟨rfl,?_,?_,?_,?_⟩
 ·show ax e.S r<=ax e.S q;grind[ax]
 ·show ax e.S q<=_;have:= @oQ q e.S;omega
 ·show([]:aa).length+eh pd<=_;have:=h.jM;grind
 ·show([]:bt).length<=_;simp
section
variable{R:bg}{n:Nat}(hD:kt R n){e:ca}(bc:e.ne=30- (n:Int))
include hD bc
theorem SZ{r:aa}{pd:ao}{tr:Bool}(h:cB e r pd)(ag:bp r=some r)(iq:eV (bs (r.dropWhile b_))=true):bL false e r (dx (a7 true n) r pd) (λst=>st) (λb _ _=>b=true) (B1 R (e.st r pd tr)):=by
 have CB:r.dropWhile b_<:+r:=Co;have c_:dx (a7 true n) r pd=ae (if bs (r.dropWhile b_)=[60,60] then hs false else if bs (r.dropWhile b_)=[60,60,45] then hs true else jL (a7 true n) [120]) (λ_=>aX true) ((r.dropWhile b_).drop (bs (r.dropWhile b_)).length) pd:=by
  have mJ:fF r pd= .ok (some (bs (r.dropWhile b_))) ((r.dropWhile b_).drop (bs (r.dropWhile b_)).length) pd:=by simp_all[fF]
  unfold dx;grind[aM]
 rw[c_];unfold B1 a8;have ad:(e.st r pd tr).1=e.S:=rfl;have af:(e.st r pd tr).2.1=ax e.S r:=rfl;refine bL.dU ?_ (amb (e:=e) (x0:=e.st r pd tr) rfl h.bZ bC r (lI (lK (eG h.sfx) h.bZ)) h.sfx);have aE:=CB.trans h.sfx;have S0:=h.mono CB;generalize r.dropWhile b_=q at*;have h_:bs q<+:q:=Rk;have l6:=XC (r:=q);have h0:=Sf iq;have fp:hH ((e.st r pd tr).1,ax e.S q,(e.st r pd tr).2.2.1,(e.st r pd tr).2.2.2.1,(e.st r pd tr).2.2.2.2.1,(e.st r pd tr).2.2.2.2.2.1,(e.st r pd tr).2.2.2.2.2.2.1,(e.st r pd tr).2.2.2.2.2.2.2.1,(e.st r pd tr).2.2.2.2.2.2.2.2)=some (bs q):=IQ h.bZ aE _ _ _ _ _ _ _;rw[fp,aQ rfl];generalize aS:bs q=o at*;obtain⟨v,rfl⟩:=h_;rw[o0];have gH:v<:+o++v:=gS o v;have az:=S0.mono gH;have kE:W (ax e.S (o++v)+(o.length:Int))=ax e.S v:=ks h.bZ aE;have sB:v≠[]:=by
  rintro rfl;rw[rP] at aE;rcases h.nl.h7 aE with m|⟨s,m⟩
  ·grind
  grind
 have R5:v.length<r.length:=by grind
 have bT:((e.st r pd tr).1,W (ax e.S (o++v)+(o.length:Int)),(e.st r pd tr).2.2.1,(e.st r pd tr).2.2.2.1,(e.st r pd tr).2.2.2.2.1,(e.st r pd tr).2.2.2.2.2.1,(e.st r pd tr).2.2.2.2.2.2.1,(e.st r pd tr).2.2.2.2.2.2.2.1,(e.st r pd tr).2.2.2.2.2.2.2.2)=e.st v pd tr:=by rw[kE];rfl
 rw[bT];have yQ:v<:+r:=gH.trans CB;have ar4:=az.jM;have ny:=tA pd;have na:=h.bZ;have al2:=eG h.sfx;have ar5:(bif decide (o=[60,60]) then true else decide (o=[60,60,45]))=(decide (o=[60,60])||decide (o=[60,60,45])):=by simp
 rcases xd az ⟨tr,rfl,λC=>absurd C sB⟩ with⟨c,eA,bX,cF,eE,P,dA,ib⟩|⟨bX,cF⟩
 ·rw[cF,aQ rfl];obtain⟨g,rfl,_⟩:=eE;have ZV:c≠[]:=Zt (h.nl.h7 az.sfx) sB bX;have j5:gu ((e.st c pd g).1,(e.st c pd g).2.1,(e.st c pd g).2.2.1,(e.st r pd tr).2.2.2.1,(e.st c pd g).2.2.2.2.1,(e.st c pd g).2.2.2.2.2.1,(e.st c pd g).2.2.2.2.2.2.1,(e.st r pd tr).2.2.2.2.2.2.2.1,(e.st c pd g).2.2.2.2.2.2.2.2)=some (decide (c=[])):=vR e c _ _ _ _ _ _ _;rw[j5,aQ rfl,e3 ZV];simp only[aU];have amc:vC ((e.st c pd g).1,(e.st c pd g).2.1,(e.st c pd g).2.2.1,(e.st r pd tr).2.2.2.1,(e.st c pd g).2.2.2.2.1,(e.st c pd g).2.2.2.2.2.1,(e.st c pd g).2.2.2.2.2.2.1,(e.st r pd tr).2.2.2.2.2.2.2.1,(e.st c pd g).2.2.2.2.2.2.2.2)=some (match ar c with| .word _ _=>false|_=>true):=MK P ZV;rw[amc,aQ rfl];have u:c<:+r:=dA.trans yQ
  have amd:∀t,ar c=t->(∀w p,t≠ .word w p)->(if o=[60,60] then hs false else if o=[60,60,45] then hs true else jL (a7 true n) [120]:ak Unit) v pd= .bad c:=by
   intro t ht ar6
   have ar7:∀tabs,hs tabs v pd= .bad c:=by grind[hs,lG]
   have q8:jL (a7 true n) [120] v pd= .bad c:=by
    unfold jL;rw[aM (ch bX)];cases hk:ar c with
    |eof=>grind[lG]
    |word w p=>grind
    |_=>rfl
   grind
  by_cases S:∃w p,ar c= .word w p
  ·obtain⟨w,p,S⟩:=S;rw[S];simp only[aU];have ei:=Fv hD bc (tr0:=g) P;obtain⟨⟨e5,ho,f⟩,T,i⟩:=ei;have vX:p_ R ((e.st c pd g).1,(e.st c pd g).2.1,(e.st c pd g).2.2.1,(e.st r pd tr).2.2.2.1,(e.st c pd g).2.2.2.2.1,(e.st c pd g).2.2.2.2.2.1,(e.st c pd g).2.2.2.2.2.2.1,(e.st r pd tr).2.2.2.2.2.2.2.1,(e.st c pd g).2.2.2.2.2.2.2.2)=some (e5,ho,f):=T;rw[vX,aQ rfl];simp only;have D:=al_ (l8 true n) _ c pd (cV _) (h.nl.h7 P.sfx);by_cases aG:o=[60,60]\/o=[60,60,45]
   ·have E:(bif decide (o=[60,60]) then true else decide (o=[60,60,45]))=true:=by grind
    rw[E];simp only[g9,aU];have ML:(if o=[60,60] then hs false else if o=[60,60,45] then hs true else jL (a7 true n) [120]:ak Unit)=hs (decide (o=[60,60,45])):=by grind
    generalize decide (o=[60,60,45])=tabs at*;have j:hs tabs v pd=(match dt c with
      |none=> .bad c
      |some (d,q,k)=>if d.contains 10 then .bad c else
       if tabs/\d.head?=some 9 then .bad c else
       if k≠[] then .more [k] k (pd++[(d,tabs)]) else
       if q=[] then .more [] [] (pd++[(d,tabs)]) else .ok () q (pd++[(d,tabs)])):=by
     grind[hs]
    have UN:f.2.2.2.2.2.2.1.length<=100*e.S.length+1000:=by
     cases hm:cG (a7 true n) c pd with
     |ok a I F=>rw[hm] at i;obtain⟨_,_,⟨U,m,_⟩,_⟩:=i;dsimp only at m;rw[m];show([]:aa).length<=_;simp
     |more op nd ds=>rw[hm] at i;have:=i.z.2.2.2.1.nd;grind
     |bad q=>rw[hm] at i;have:=i.2.nd;grind
     |deep q=>rw[hm] at i;have:=i.2.nd;grind
    have ame:cg f.2.2.2.2.2.2.1 ((e.st c pd g).2.2.2.2.2.2.1.length:Int) (f.2.2.2.2.2.2.1.length:Int)=f.2.2.2.2.2.2.1:=by show cg f.2.2.2.2.2.2.1 ((0:Nat):Int) _=_;simp[cg]
    rw[ame];have ZW:f.1=e.S/\nY e r f:=by
     cases hm:cG (a7 true n) c pd with
     |ok a I F=>rw[hm] at i;obtain⟨V,a2,⟨U,m,_⟩,_⟩:=i;dsimp only at m;rw[m];exact⟨rfl,ZU a2 (V.trans u)⟩
     |more op nd ds=>rw[hm] at i;exact⟨i.z.2.2.2.1.s,i.z.2.2.2.1.mono u⟩
     |bad q=>rw[hm] at i;exact⟨i.2.s,i.2.mono u⟩
     |deep q=>rw[hm] at i;exact⟨i.2.s,i.2.mono u⟩
    obtain⟨xa,A0⟩:=SX P ZW.1 T;dsimp only at xa A0;have xh:e5.length<=1000000:=by omega
    refine bL.dU ?_ (bS (show 0<=((e.st c pd g).2.2.2.2.2.2.1.length:Int)/\((e.st c pd g).2.2.2.2.2.2.1.length:Int)<=(f.2.2.2.2.2.2.1.length:Int)/\(f.2.2.2.2.2.2.1.length:Int)<=(f.2.2.2.2.2.2.1.length:Int) from by show(0:Int)<=((0:Nat):Int)/\((0:Nat):Int)<=_/\_;omega))
    refine bL.dU ?_ (bS (by omega));have X:((e5++f.2.2.2.2.2.2.1).length:Int)<=200000000:=by grind
    refine bL.dU ?_ (aQ (akt _ X));have z:=ZW.2;have amf:∀(l:aa)(J:Bool),(aZ (((bif tabs then(decide (0<(l.length:Int))) else false)=true)->((bif(decide (f.2.2.2.2.1=2)) then true else(!J))=false)->0<=(0:Int)/\0<(l.length:Int))<|
      (bif(bif(bif(decide (f.2.2.2.2.1=2)) then true else(!J)) then true else(bif(bif tabs then(decide (0<(l.length:Int))) else false) then(decide (((at' l 0).toNat:Int)=(9:Int))) else false)) then
      (au (hr f (e.st c pd g).2.1) λ(G:ah)=>
      some (G.1,G.2.1,G.2.2.1,f.2.2.2.1,G.2.2.2.2.1,G.2.2.2.2.2.1,G.2.2.2.2.2.2.1,f.2.2.2.2.2.2.2.1,G.2.2.2.2.2.2.2.2))
      else
      (aZ (f.2.2.2.1.length+([(l,tabs)]:ao).length<=536870912)<|
      some (f.1,f.2.1,f.2.2.1,(f.2.2.2.1++([(l,tabs)]:ao)),f.2.2.2.2.1,f.2.2.2.2.2.1,f.2.2.2.2.2.2.1,f.2.2.2.2.2.2.2.1,f.2.2.2.2.2.2.2.2))))=
      if(f.2.2.2.2.1=2\/J=false\/(tabs=true/\l.head?=some 9)) then some (f.1,f.2.1,f.2.2.1,f.2.2.2.1,2,(e.st c pd g).2.1,f.2.2.2.2.2.2.1,f.2.2.2.2.2.2.2.1,f.2.2.2.2.2.2.2.2)
      else some (f.1,f.2.1,f.2.2.1,(f.2.2.2.1++([(l,tabs)]:ao)),f.2.2.2.2.1,f.2.2.2.2.2.1,f.2.2.2.2.2.2.1,f.2.2.2.2.2.2.2.1,f.2.2.2.2.2.2.2.2):=by
     intro l J
     rw[bS (by grind)]
     have Sd:(bif bif tabs then decide (0<(l.length:Int)) else false then decide (((at' l 0).toNat:Int)=9) else false)=decide (tabs=true/\l.head?=some 9):=by
      cases tabs with
      |false=>simp
      |true=>
       cases l with
       |nil=>simp
       |cons x y=>simp[at',Iw]
     rw[Sd];have amg:f.2.2.2.1.length+[(l,tabs)].length<=536870912:=by have m:=tA f.2.2.2.1;have aW:=z.nd;grind
     rw[bS amg];by_cases e4:f.2.2.2.2.1=2
     ·simp only[e4,bw,aJ,true_or,cE];rfl
     ·by_cases dM:J=false
      ·subst dM;simp only[e4,bF,aU,e2,aJ,false_or,true_or,cE];rfl
      ·have amh:J=true:=by grind
       subst amh;by_cases kv:tabs=true/\l.head?=some 9
       ·rw[bh (.inr (.inr kv)),decide_eq_true kv];simp only[e4,bF,aU,g9,aJ];rfl
       grind
    refine bL.dU ?_ (amf _ _);rw[ML];have q9:bL false e r (.bad c:dD Bool) (λst=>st) (λb _ _=>b=true) (some (f.1,f.2.1,f.2.2.1,f.2.2.2.1,(2:Int),(e.st c pd g).2.1,f.2.2.2.2.2.2.1,f.2.2.2.2.2.2.2.1,f.2.2.2.2.2.2.2.2)):=
     ⟨_,rfl,rfl,z.s,z.lo,z.bf,z.nd,z.op⟩
    have H:=aH.ss (tabs:=tabs) (r0:=o++v) (v:=v) (pd:=pd) (by grind);have ami:=S0.jM;cases hm:cG (a7 true n) c pd with
    |bad q=>
     rw[hm] at i D;rw[bh (.inl i.1)];have:hs tabs v pd= .bad c:=by rw[j,show dt c=none from D]
     grind[g1]
    |deep q=>
     rw[hm] at i D;rw[bh (.inl i.1)];have:hs tabs v pd= .bad c:=by rw[j,show dt c=none from D]
     grind[g1]
    |ok a I F=>
     rw[hm] at i D;obtain⟨V,a2,⟨U,m,_⟩,bO,_⟩:=i;dsimp only at m bO;subst m;have amj:(e.st I F U).2.2.2.2.2.2.1=[]:=rfl;rw[amj,rP];obtain⟨w,Mu,sE⟩:=D;have S1:e5=w:=by simp_all
     subst S1;have amk:¬((e.st I F U).2.2.2.2.1=2):=by show¬((0:Int)=2);decide
     rcases sE with⟨Y,A⟩|⟨d,Y,A,rfl⟩
     ·rw[A];rw[bh (.inr (.inl rfl))];grind[g1]
     ·rw[Y];rw[A] at j;simp only at j;unfold Al;simp only;by_cases K:d.contains 10=true
      ·rw[bh K] at j;rw[bh (.inr (.inl (by grind))),g1 j];grind
      ·rw[aO K] at j;by_cases H9:tabs=true/\d.head?=some 9
       ·rw[bh H9] at j;rw[bh (.inr (.inr (by grind))),g1 j];grind
       ·rw[aO H9] at j;have ZX:I≠[]:=by
         rintro rfl;have hex:cG (a7 true n) c F= .ok a [] F:=hm
         have:∀(N:Nat)(r:aa)(pd:ao)(a:Unit)(q:aa)(aC:ao),r.length<=N->cG (a7 true n) r pd= .ok a q aC->q≠[]:=by
          intro N r pd a q aC nS C;unfold cG at C;refine Yv (Q:=λq=>q≠[]) (λs r pd a q aC MM=>?_) N _ _ _ _ _ _ nS C;cases r with
          |nil=>cases MM
          |cons b t=>
           simp only at MM;split at MM
           ·grind
           ·obtain⟨_,_,_,_,aml⟩:=b1 MM;cases aml
         grind
        rw[aO (by simp),aO ZX] at j;rw[aO (by grind),aM j,if_neg K];rw[j] at H;simp only[dZ] at H;exact⟨_,rfl,V.trans u,⟨h.bZ,h.nl,h.IP,a2.sfx,by omega⟩,⟨U,rfl,λC=>absurd C ZX⟩,rfl⟩
    |more op nd ds=>
     rw[hm] at i D;obtain⟨Z,L,M,Fu,O⟩:=i.z;dsimp only at Z L M Fu O;have S1:=A0 O;rw[S1,L];have amk:¬(f.2.2.2.2.1=2):=by omega
     rcases D with⟨Y,A⟩|⟨d,Y,A,rfl⟩
     ·have yH:(Al (dl (c++nd) 0)).2=false:=by
       rcases A with A|⟨d,A,iY⟩
       ·rw[A];rfl
       simp_all[Al]
      simp_all[g1]
     ·rw[A];rw[Y] at j;simp only at j;unfold Al;simp only;by_cases K:d.contains 10=true
      ·simp_all[g1]
      ·rw[aO K] at j;by_cases H9:tabs=true/\d.head?=some 9
       ·simp_all[g1]
       ·rw[aO H9] at j;rw[aO (by grind),if_neg K]
        have lp:∃lh,hs tabs v ds= .more lh nd (ds++[(d,tabs)]):=by grind
        obtain⟨lh,lp⟩:=lp;rw[de lp];rw[lp] at H;simp only[dZ] at H;rw[M];exact⟨_,rfl,.inl ⟨Z,rfl,rfl,⟨z.s,z.lo,z.bf,by grind,z.op⟩,O⟩⟩
   ·have E:(bif decide (o=[60,60]) then true else decide (o=[60,60,45]))=false:=by grind
    rw[E];simp only[e2,aJ];simp only[Gb] at aG;have B:(if o=[60,60] then hs false else if o=[60,60,45] then hs true else jL (a7 true n) [120]:ak Unit) v pd=cG (a7 true n) c pd:=by rw[aO aG.1,aO aG.2];unfold jL;rw[aM (ch bX),S]
    cases hm:cG (a7 true n) c pd with
    |ok a I F=>rw[hm] at i B;rw[aM B];obtain⟨V,a2,a3,_⟩:=i;exact⟨f,rfl,V.trans u,a2,a3,rfl⟩
    |more op nd ds=>rw[hm] at i B;rw[de B];exact⟨f,rfl,iI.mono i u⟩
    |bad q=>rw[hm] at i B;rw[g1 B];exact⟨f,rfl,iQ.mono i u⟩
    |deep q=>rw[hm] at i B;rw[jP B];exact⟨f,rfl,iQ.mono i u⟩
  ·have amm:(match ar c with| .word _ _=>false|_=>true)=true:=by grind
   rw[amm];simp only[aJ];rw[g1 (amd _ rfl (λw p C=>S ⟨w,p,C⟩))];obtain⟨st,T,i⟩:=pK (tr:=g) ((e.st c pd g).2.1) P u;have vX:hr ((e.st c pd g).1,(e.st c pd g).2.1,(e.st c pd g).2.2.1,(e.st r pd tr).2.2.2.1,(e.st c pd g).2.2.2.2.1,(e.st c pd g).2.2.2.2.2.1,(e.st c pd g).2.2.2.2.2.2.1,(e.st r pd tr).2.2.2.2.2.2.2.1,(e.st c pd g).2.2.2.2.2.2.2.2) (e.st c pd g).2.1=some st:=T;rw[vX,aQ rfl];exact⟨_,rfl,by cases T;exact i⟩
 ·
  rw[cF,aQ rfl];have j5:gu ((e.tt pd).1,(e.tt pd).2.1,(e.tt pd).2.2.1,(e.st r pd tr).2.2.2.1,(e.tt pd).2.2.2.2.1,(e.tt pd).2.2.2.2.2.1,(e.tt pd).2.2.2.2.2.2.1,(e.st r pd tr).2.2.2.2.2.2.2.1,(e.tt pd).2.2.2.2.2.2.2.2)=some true:=by have:=vR e [] e.ne 0 0 pd [] [] true;rw[ir] at this;exact this
  rw[j5,aQ rfl];simp only[aJ];have amn:cB e [] pd:=az.mono ov;obtain⟨aP,a1,bl⟩:=Fo (tr:=true) (x:=[120]) amn (by simp);rw[ZT] at bl;have tB:g7 ((e.tt pd).1,(e.tt pd).2.1,(e.tt pd).2.2.1,(e.st r pd tr).2.2.2.1,(e.tt pd).2.2.2.2.1,(e.tt pd).2.2.2.2.2.1,(e.tt pd).2.2.2.2.2.2.1,(e.st r pd tr).2.2.2.2.2.2.2.1,(e.tt pd).2.2.2.2.2.2.2.2) [120]=some aP:=by rw[<-a1,<-xc];rfl
  rw[tB,aQ rfl];obtain⟨Z,L,M,Fu,O⟩:=bl;dsimp only at L M;have mJ:([]:aa)<:+r:=ov;have ej:=Fu.mono mJ;by_cases aG:o=[60,60]\/o=[60,60,45]
  ·have E:(bif decide (o=[60,60]) then true else decide (o=[60,60,45]))=true:=by grind
   rw[E];simp only[aJ];have ML:(if o=[60,60] then hs false else if o=[60,60,45] then hs true else jL (a7 true n) [120]:ak Unit) v pd=hs (decide (o=[60,60,45])) v pd:=by grind
   have hm:hs (decide (o=[60,60,45])) v pd= .more [] [120] (pd++[([120],decide (o=[60,60,45]))]):=by grind[hs]
   rw[hm] at ML;rw[de ML];have H:=aH.ss (tabs:=decide (o=[60,60,45])) (r0:=o++v) (v:=v) (pd:=pd) (by grind);rw[hm] at H;simp only[dZ] at H;have ami:=S0.jM;have ar8:aP.2.2.2.1.length<=100000000:=by grind
   refine bL.dU ?_ (bS (by grind));rw[M];exact⟨_,rfl,.inl ⟨Z,L,rfl,⟨ej.s,ej.lo,ej.bf,by grind,ej.op⟩,O⟩⟩
  ·have E:(bif decide (o=[60,60]) then true else decide (o=[60,60,45]))=false:=by grind
   rw[E];simp only[aU];simp only[Gb] at aG;have B:(if o=[60,60] then hs false else if o=[60,60,45] then hs true else jL (a7 true n) [120]:ak Unit) v pd= .more [] [120] pd:=by rw[aO aG.1,aO aG.2];unfold jL;grind[de,iG,b5,ZT]
   rw[de B];exact⟨_,rfl,.inl ⟨Z,L,M,ej,O⟩⟩
end
theorem qt(e:ca)(r:aa)(pd:ao)(tr:Bool):gu (e.st r pd tr)=some (decide (r=[])):=vR e r _ _ _ _ _ _ _
theorem oS(e:ca)(pd:ao):gu (e.tt pd)=some true:=by simp[xc,qt]
theorem rK{e:ca}{r:aa}{pd:ao}{tr:Bool}(h:cB e r pd):hH (e.st r pd tr)=some (bs r):=IQ h.bZ h.sfx _ _ _ _ _ _ _
theorem Fy{e:ca}{r:aa}{pd:ao}{tr:Bool}(h:cB e r pd):ie (e.st r pd tr)=some (r.headD 0):=vS h.sfx _ _ _ _ _ _ _
theorem amo:bs []=[]:=by decide
theorem Fz{e:ca}(pd:ao)(h:e.S.length<=1000000):hH (e.tt pd)=some []:=by have:=IQ (e:=e) (r:=[]) h ov e.ne 0 0 pd [] [] true;rw[amo] at this;rw[xc];exact this
theorem amp(e:ca)(pd:ao):ie (e.tt pd)=some 0:=by rw[xc];exact vS (e:=e) (r:=[]) ov _ _ _ _ _ _ _
theorem cB.Au{e:ca}{r:aa}{pd:ao}(h:cB e r pd):cB e [] pd:=h.mono ov
theorem amq{e:ca}{pd:ao}(h:cB e [] pd):lD (e.tt pd)=some []:=by rw[xc,vV h];rfl
theorem CM{e:ca}{pd:ao}{x:aa}(h:cB e [] pd)(b:x.length<=100):∃a,g7 (e.tt pd) x=some a/\nZ e [] (cQ [] pd x).1 (cQ [] pd x).2 a:=by rw[xc];exact Fo h b
theorem uM{e:ca}{pd:ao}{tr:Bool}{x:aa}(h:cB e [] pd)(b:x.length<=100):∃a,g7 (e.st [] pd tr) x=some a/\nZ e [] (cQ [] pd x).1 (cQ [] pd x).2 a:=Fo h b
theorem ZY{e:ca}(pd:ao):oc (e.tt pd)=some (e.tt pd):=by
 unfold oc;rw[CG,aQ rfl];unfold a8
 obtain⟨n,aw⟩:∃n,bC=n+1:=⟨bC-1,by rw[gg]⟩
 dsimp only;rw[aw,e7];unfold yj;dsimp only;have a:ie ((e.tt pd).1,(e.tt pd).2.1,(e.tt pd).2.2.1,(e.tt pd).2.2.2.1,(e.tt pd).2.2.2.2.1,(e.tt pd).2.2.2.2.2.1,(e.tt pd).2.2.2.2.2.2.1,(e.tt pd).2.2.2.2.2.2.2.1,(e.tt pd).2.2.2.2.2.2.2.2)=some 0:=amp e pd;simp_all[fX]
theorem iI.tt{e:ca}{r:aa}(pd:ao):iI true e r [] pd (e.tt pd):= .inr ⟨rfl,rfl,rfl⟩
theorem fY.eta{e:ca}{r:aa}{pd:ao}{st:ah}(h:fY e r pd st):st.1=e.S/\st.2.1=ax e.S r/\st.2.2.1=e.ne/\st.2.2.2.1=pd/\st.2.2.2.2.1=0/\st.2.2.2.2.2.1=0/\st.2.2.2.2.2.2.1=[]/\st.2.2.2.2.2.2.2.1=[]:=by obtain⟨tr,rfl,_⟩:=h;exact⟨rfl,rfl,rfl,rfl,rfl,rfl,rfl,rfl⟩
section
variable{R:bg}{n:Nat}(hD:kt R n){e:ca}(bc:e.ne=30- (n:Int))
include hD bc
theorem ZZ{r:aa}{pd:ao}{st:ah}(h:cB e r pd)(D:fY e r pd st):bL true e r (gJ (a7 true n) r pd) (λst=>st) (λ_ _ _=>True) (B_ R st):=by
 have L:∀(N:Nat)(r:aa)(pd:ao)(st:ah),r.length+1<N->cB e r pd->fY e r pd st->bp r=some r->bL true e r (gJ (a7 true n) r pd) (λst=>st) (λ_ _ _=>True) (fixF (z_ R λx=>some x) N st):=by
  intro N;induction N with
  |zero=>omega
  |succ N E=>
   intro r pd st nS j O F;rw[e7]
   obtain⟨M,P⟩:∃M,N=M+1:=⟨N-1,by omega⟩
   have w:∀x:ah,(x.2.2.2.2.1≠0\/∃ds,x=e.tt ds)->fixF (z_ R λx=>some x) N x=some x:=by
    intro x y;rw[P,e7];unfold z_;dsimp only;rcases y with y|⟨ds,rfl⟩
    ·simp only[y,bF,cP,eB,cn,aU,and_false]
    ·rw[show gu ((e.tt ds).1,(e.tt ds).2.1,(e.tt ds).2.2.1,(e.tt ds).2.2.2.1,(e.tt ds).2.2.2.2.1,(e.tt ds).2.2.2.2.2.1,(e.tt ds).2.2.2.2.2.2.1,(e.tt ds).2.2.2.2.2.2.2.1,(e.tt ds).2.2.2.2.2.2.2.2)=some true from oS e ds];rfl
   generalize tW:fixF (z_ R λx=>some x) N=k at E w;obtain⟨tr,rfl,G⟩:=O;unfold z_ a8;dsimp only;have Q:gu ((e.st r pd tr).1,(e.st r pd tr).2.1,(e.st r pd tr).2.2.1,(e.st r pd tr).2.2.2.1,(e.st r pd tr).2.2.2.2.1,(e.st r pd tr).2.2.2.2.2.1,(e.st r pd tr).2.2.2.2.2.2.1,(e.st r pd tr).2.2.2.2.2.2.2.1,(e.st r pd tr).2.2.2.2.2.2.2.2)=some (decide (r=[])):=qt e r pd tr;have S:hH ((e.st r pd tr).1,(e.st r pd tr).2.1,(e.st r pd tr).2.2.1,(e.st r pd tr).2.2.2.1,(e.st r pd tr).2.2.2.2.1,(e.st r pd tr).2.2.2.2.2.1,(e.st r pd tr).2.2.2.2.2.2.1,(e.st r pd tr).2.2.2.2.2.2.2.1,(e.st r pd tr).2.2.2.2.2.2.2.2)=some (bs r):=rK j;have z:zZ ((e.st r pd tr).1,(e.st r pd tr).2.1,(e.st r pd tr).2.2.1,(e.st r pd tr).2.2.2.1,(e.st r pd tr).2.2.2.2.1,(e.st r pd tr).2.2.2.2.2.1,(e.st r pd tr).2.2.2.2.2.2.1,(e.st r pd tr).2.2.2.2.2.2.2.1,(e.st r pd tr).2.2.2.2.2.2.2.2)=some (decide (r.dropWhile b_≠r)&&eV (bs (r.dropWhile b_))):=SM j;have h0:(e.st r pd tr).2.2.2.2.1=0:=rfl;rw[Q,fX,S,fX,Fl,fX,z,fX,h0];simp only[bw,cE];by_cases T:r=[]
   ·subst T;have g:gJ (a7 true n) [] pd= .ok () [] pd:=by unfold gJ;rw[cm,aM (uL (r':=[]) l5 (by decide))];rfl
    rw[g];simp only[bw,g9,aU,aJ];exact⟨_,rfl,fM,j,⟨tr,rfl,G⟩,trivial⟩
   ·have U:(bif(bif true then !decide (r=[]) else false) then bif(if(bif true then !decide (r=[]) else false)=true then eV (if(bif true then !decide (r=[]) else false)=true then bs r else []) else false) then true else(if((if(bif true then !decide (r=[]) else false)=true then eV (if(bif true then !decide (r=[]) else false)=true then bs r else []) else false)=false/\(bif true then !decide (r=[]) else false)=true) then(decide (r.dropWhile b_≠r)&&eV (bs (r.dropWhile b_))) else false) else false)=eV (bs (r.dropWhile b_)):=by
     conv=>rhs;rw[<-MD r]
     grind
    refine bL.dU ?_ (show(bif(bif(bif true then !decide (r=[]) else false) then bif(if(bif true then !decide (r=[]) else false)=true then eV (if(bif true then !decide (r=[]) else false)=true then bs r else []) else false) then true else(if((if(bif true then !decide (r=[]) else false)=true then eV (if(bif true then !decide (r=[]) else false)=true then bs r else []) else false)=false/\(bif true then !decide (r=[]) else false)=true) then(decide (r.dropWhile b_≠r)&&eV (bs (r.dropWhile b_))) else false) else false) then _ else _)=_ from by rw[U]);cases H:eV (bs (r.dropWhile b_)) with
    |false=>
     have g:gJ (a7 true n) r pd= .ok () r pd:=by unfold gJ;rw[cm,aM (uL F H)];rfl
     rw[g];exact⟨_,rfl,fM,j,⟨tr,rfl,G⟩,trivial⟩
    |true=>
     simp only[aJ];unfold gJ;rw[cm];refine bL.iH c3.k (SZ hD bc (tr:=tr) j F H) (λb r1 c d V s1 W I X=>?_) (λop nd ds d _ J=>?_) (λd u=>?_)
     ·subst X;have hl:=su (l8 true n) V;have l:=I.eta;rw[l.2.2.2.2.1];simp only[bw,aJ];show bL true e r (cK _ r (.ok (.inl ()) r1 c)) _ _ _;refine bL.inl hl ?_;rcases xd W I with⟨f,a,o,i,p,v,s,A⟩|⟨o,i⟩
      ·rw[i,aQ rfl];have af:=p.eta;rw[l.2.2.2.1,l.2.2.2.2.2.2.2];have B:a=(a.1,a.2.1,a.2.2.1,c,a.2.2.2.2.1,a.2.2.2.2.2.1,a.2.2.2.2.2.2.1,([]:bt),a.2.2.2.2.2.2.2.2):=by grind
       rw[<-B];have g:gJ (a7 true n) r1 c=gJ (a7 true n) f c:=by
        unfold gJ;rw[cm,cm];have Y:dx (a7 true n) r1 c=dx (a7 true n) f c:=by unfold dx;grind[fF,ae]
        have C:ae (dx (a7 true n)) (λb=>(aX (if b=true then .inl () else .inr ()):ak (Unit⊕Unit))) r1 c=ae (dx (a7 true n)) (λb=>aX (if b=true then .inl () else .inr ())) f c:=by grind[ae]
        rw[C];cases hm:dx (a7 true n) f c with
        |ok b t Z=>
         rw[aM hm];cases b with
         |true=>have oT:=su (l8 true n) hm;have nz:=s.length_le;show(if t.length<r1.length then _ else _)=(if t.length<f.length then _ else _);grind
         |false=>rfl
        |more op nd ds=>rw[de hm];rfl
        |bad q=>rw[g1 hm];rfl
        |deep q=>rw[jP hm];rfl
       have:=(E f c a (by grind) v p A).mono (s.trans s1);unfold gJ at g this;grind
      ·rw[i,aQ rfl,l.2.2.2.1,l.2.2.2.2.2.2.2];have g:b8 (λ_=>ae (dx (a7 true n)) λb=>aX (if b=true then .inl () else .inr ())) () r1 c=(.more [] [] c:dD Unit):=by
        rw[cm];have:dx (a7 true n) r1 c= .more [] [] c:=by unfold dx;exact de (by unfold fF;rw[o];rfl)
        rw[de this];rfl
       rw[g];exact⟨e.tt c,w (e.tt c) (.inr ⟨c,rfl⟩),iI.tt c⟩
     ·have ad:=J.z.1;refine⟨d,?_,J.up⟩;grind
     ·refine⟨d,?_,u⟩;rw[u.1];simp only[show¬((2:Int)=0) by decide,bF,aU];have:=w d (.inl (by rw[u.1];decide));have alF:d=(d.1,d.2.1,d.2.2.1,d.2.2.2.1,2,d.2.2.2.2.2.1,d.2.2.2.2.2.2.1,d.2.2.2.2.2.2.2.1,d.2.2.2.2.2.2.2.2):=by rw[<-u.1]
      grind
 unfold B_ a8;have K:=D.eta;rw[K.2.2.2.1,K.2.2.2.2.2.2.2];rcases xd h D with⟨f,a,o,i,p,v,s,A⟩|⟨o,i⟩
 ·rw[i,aQ rfl];have B:a=(a.1,a.2.1,a.2.2.1,pd,a.2.2.2.2.1,a.2.2.2.2.2.1,a.2.2.2.2.2.2.1,([]:bt),a.2.2.2.2.2.2.2.2):=by obtain⟨cx,rfl,_⟩:=p;rfl
  rw[<-B];have:=(L bC f pd a (vU v) v p A).mono s;have g:gJ (a7 true n) r pd=gJ (a7 true n) f pd:=by
   unfold gJ;rw[cm,cm];have Y:dx (a7 true n) r pd=dx (a7 true n) f pd:=by unfold dx;grind[fF,ae]
   have C:ae (dx (a7 true n)) (λb=>(aX (if b=true then .inl () else .inr ()):ak (Unit⊕Unit))) r pd=ae (dx (a7 true n)) (λb=>aX (if b=true then .inl () else .inr ())) f pd:=by grind[ae]
   rw[C];cases hm:dx (a7 true n) f pd with
   |ok b t Z=>
    rw[aM hm];cases b with
    |true=>have oT:=su (l8 true n) hm;have nz:=s.length_le;show(if t.length<r.length then _ else _)=(if t.length<f.length then _ else _);grind
    |false=>rfl
   |more op nd ds=>rw[de hm];rfl
   |bad q=>rw[g1 hm];rfl
   |deep q=>rw[jP hm];rfl
  grind
 ·rw[i,aQ rfl];have g:gJ (a7 true n) r pd= .more [] [] pd:=by
   unfold gJ;rw[cm];have:dx (a7 true n) r pd= .more [] [] pd:=by unfold dx;exact de (by unfold fF;rw[o];rfl)
   rw[de this];rfl
  rw[g];refine⟨e.tt pd,?_,iI.tt pd⟩
  obtain⟨m,hm⟩:∃m,bC=m+1:=⟨bC-1,by rw[gg]⟩
  dsimp only;rw[hm,e7];unfold z_;dsimp only;rw[show gu ((e.tt pd).1,(e.tt pd).2.1,(e.tt pd).2.2.1,pd,(e.tt pd).2.2.2.2.1,(e.tt pd).2.2.2.2.2.1,(e.tt pd).2.2.2.2.2.2.1,[],(e.tt pd).2.2.2.2.2.2.2.2)=some true from oS e pd];rfl
end
def sF:ak aa:=λr pd=> .ok (i_ r) (r.drop (i_ r).length) pd
theorem ams(r:aa):i_ r<+:r:=by grind[i_]
theorem S2{r:aa}(h:i_ r≠[]):r.drop (i_ r).length≠[]:=by
 unfold i_ at h⊢;split
 ·grind[List.takeWhile_append_dropWhile]
 grind
theorem FB{v:aa}{pd:ao}{w:aa}(a:bp v=some v)(b:ar v= .word w true):cW w v pd= .ok () (v.drop w.length) pd:=by unfold cW mB;rw[aM (ch a),b];simp[cA,bU]
theorem MN{β:Type}{m:Nat}{c:Ctx}{no:Bool}{kw x:aa}{K:ak β}(aF:c≠ .text)(g:∀t,dG c t=cA t kw)(d:kw≠[]/\kw.all gp=true){r:aa}{pd:ao}(h:dr r):
  ae (((aR true m).ls c no).aK x) (λ_=>ae (cW kw) (λ_=>K)) r pd=ae (ae (((aR true m).ls c no).aK x) (λ_=>sF)) (λ_=>K) r pd:=by
 rw[kr];cases hm:(((aR true m).ls c no).aK x) r pd with
 |ok a r1 e=>
  rw[aM hm,aM hm];have b:=gK.1 hm;have i:=((qY true m).ls c no).sfx b;obtain⟨c2,e1⟩:=Ap true m;rw[e1] at b;obtain⟨j,k⟩:=yF aF b;rw[g] at k;have f:ar r1= .word kw true:=by grind[cA]
  have aB:=(rJ (h.h7 i) d.1 d.2).2 f;rw[aM (FB j f)];have:sF r1 e= .ok kw (r1.drop kw.length) e:=by grind[sF]
  grind[aM]
 |more op nd ds=>grind[de]
 |bad q=>grind[g1]
 |deep q=>grind[jP]
theorem S3{m:Nat}{c:Ctx}{no:Bool}{kw x:aa}(aF:c≠ .text)(a:∀t,dG c t=cA t kw)(b:kw≠[]/\kw.all gp=true){r:aa}{pd:ao}(d:dr r):
  ae (((aR true m).ls c no).aK x) (λ_=>cW kw) r pd=ae (ae (((aR true m).ls c no).aK x) (λ_=>sF)) (λ_=>aX ()) r pd:=by
 have ad:(λ_:Nat=>cW kw)=λ_=>ae (cW kw) (λ_=>aX ()):=by grind[E9]
 simp_all[MN]
section
variable{R:bg}{n:Nat}(bk:oo R n){e:ca}(bc:e.ne=30- (n:Int))
include bk bc
theorem CN{c:Ctx}{x:aa}(aF:ju c=[119])(u:c≠ .text)(v:∀t,dG c t=true->∃w,t= .word w true/\w≠[]/\w.all gp=true)(M:x.length<=100){r:aa}{pd:ao}{st:ah}(h:cB e r pd)(y:fY e r pd st):
  bL false e r (ae (((aR true n).ls c false).aK x) (λ_=>sF) r pd) (λb=>b.2) (λa r' b=>b.1=a/\a≠[]/\dG c (.word a true)=true/\r'≠[]) (py R st (oR c) x):=by
 unfold py;obtain⟨⟨z,A⟩,j,d⟩:=bk.im e c false (by cases c<;>first|rfl|grind[ju]) bc r pd st h y;dsimp only at d;rw[aF] at j;have B:R.nI st [119] (oR c) true=some (z,A):=j;rw[B,aQ rfl];dsimp only;have k:=(tz true n).ls c false r pd;have C:=h.nl.h7 h.sfx;cases hm:(aR true n).ls c false r pd with
 |ok a r1 g=>
  rw[hm] at d;obtain⟨l,a2,a3,_⟩:=d;have f:(((aR true n).ls c false).aK x) r pd= .ok a r1 g:=gK.2 hm;rw[aM f];obtain⟨c2,e1⟩:=Ap true n;rw[e1] at hm;obtain⟨N,D⟩:=yF u hm;obtain⟨w,E,m,F⟩:=v _ D;have aB:=(rJ (C.h7 l) m F).2 E;have h0:=a3.eta.2.2.2.2.1;rw[h0];simp only[bw,g9,aU];obtain⟨tr,G,_⟩:=a3;rw[G,vV a2,aQ rfl,aB];have H:sF r1 g= .ok w (r1.drop w.length) g:=by grind[sF]
  rw[H];have o:=ams r1;rw[aB] at o;have i:=S2 (r:=r1) (by grind);rw[aB] at i;obtain⟨q,rfl⟩:=o;rw[o0] at i⊢;have p:q<:+w++q:=gS w q;have I:W (ax e.S (w++q)+(w.length:Int))=ax e.S q:=ks h.bZ a2.sfx;refine⟨(w,e.st q g tr),?_,p.trans l,a2.mono p,⟨tr,rfl,λJ=>absurd J i⟩,rfl,m,?_,i⟩
  ·show some (w,(e.S,W (ax e.S (w++q)+(w.length:Int)),e.ne,g,(0:Int),(0:Int),([]:aa),([]:bt),tr))=_;rw[I];rfl
  grind
 |more op nd ds=>
  rw[hm] at d k;simp only[dZ] at k;have O:=h.jM;have s:=d.z;have f:(((aR true n).ls c false).aK x) r pd= .more op (cQ nd ds x).1 (cQ nd ds x).2:=by grind[ak.aK]
  rw[de f,s.1];simp only[show¬((1:Int)=0) by decide,bF,e2,aJ];obtain⟨P,K,L⟩:=xe (e:=e) (nm:=[]) (x:=x) (r1:=r) (r0:=r) (nd:=nd) (ds:=ds) s fM h.sfx (.inl rfl) (by omega) h.bZ (by omega);rw[K,aQ rfl];exact⟨_,rfl,L.s⟩
 |bad q=>
  rw[hm] at d;have f:(((aR true n).ls c false).aK x) r pd= .bad q:=by grind[ak.aK]
  rw[g1 f,d.1];simp only[show¬((2:Int)=0) by decide,bF,e2,aJ];rw[pI (by rw[d.1];decide),aQ rfl];exact⟨_,rfl,d⟩
 |deep q=>
  rw[hm] at d;have f:(((aR true n).ls c false).aK x) r pd= .deep q:=by grind[ak.aK]
  rw[jP f,d.1];simp only[show¬((2:Int)=0) by decide,bF,e2,aJ];rw[pI (by rw[d.1];decide),aQ rfl];exact⟨_,rfl,d⟩
end
theorem Z0(t:Tok):dG .rB t=cA t iE:=rfl
theorem Z1(t:Tok):dG .qU t=cA t [125]:=rfl
theorem Z2(t:Tok):dG .kj t=cA t eU:=rfl
theorem Z3(t:Tok):dG .pB t=cA t gD:=rfl
theorem MO(t:Tok):dG .done t=cA t ih:=rfl
theorem FE{t:Tok}{w:aa}(h:cA t w=true):t= .word w true:=by grind[cA]
theorem FF{c:Ctx}{kw:aa}(h:∀t,dG c t=cA t kw)(a:kw≠[]/\kw.all gp=true):∀t,dG c t=true->∃w,t= .word w true/\w≠[]/\w.all gp=true:=by grind[FE]
theorem I0{b:UInt8}{t:aa}:(b=10/\ar (b::t)= .line)\/(b≠10/\bs (b::t)≠[]/\ar (b::t)= .op (bs (b::t)))\/(b≠10/\bs (b::t)=[]/\ar (b::t)= .word (c5 (b::t)).1 (c5 (b::t)).2):=by rw[CI];grind
section
variable{R:bg}{n:Nat}(hD:kt R n){e:ca}(bc:e.ne=30- (n:Int))
include hD bc
theorem amt{r:aa}{pd:ao}{st:ah}(h:cB e r pd)(J:fY e r pd st):bL false e r (pC (a7 true n) r pd) (λst=>st) (λ_ _ _=>True) (Eu R st):=by
 unfold pC Eu a8;refine bL.rep (en:=λ_ r pd x=>fY e r pd x) (λk s r pd x y z K hk=>?_) bC () r pd _ (vU h) h J
 have E:∀x:ah,x.2.2.2.2.1≠0->k x=some x:=by intro x z;obtain⟨k',ad⟩:=K x;simp_all[Lt]
 have he:=z.eta;unfold Lt;dsimp only;rw[he.2.2.2.2.1,he.2.2.2.1,he.2.2.2.2.2.2.2];simp only[bw,aJ];have A:(x.1,x.2.1,x.2.2.1,pd,(0:Int),x.2.2.2.2.2.1,x.2.2.2.2.2.2.1,([]:bt),x.2.2.2.2.2.2.2.2)=x:=by grind
 rw[A];rcases xd y z with⟨d,eA,B,C,L,f,l,M⟩|⟨B,C⟩
 ·rw[C,aQ rfl,aM (ch B)];obtain⟨c,rfl,N⟩:=L;have D:gu ((e.st d pd c).1,(e.st d pd c).2.1,(e.st d pd c).2.2.1,pd,(e.st d pd c).2.2.2.2.1,(e.st d pd c).2.2.2.2.2.1,(e.st d pd c).2.2.2.2.2.2.1,[],(e.st d pd c).2.2.2.2.2.2.2.2)=some (decide (d=[])):=qt e d pd c;have O:ie ((e.st d pd c).1,(e.st d pd c).2.1,(e.st d pd c).2.2.1,pd,(e.st d pd c).2.2.2.2.1,(e.st d pd c).2.2.2.2.2.1,(e.st d pd c).2.2.2.2.2.2.1,[],(e.st d pd c).2.2.2.2.2.2.2.2)=some (d.headD 0):=Fy f;have P:hH ((e.st d pd c).1,(e.st d pd c).2.1,(e.st d pd c).2.2.1,pd,(e.st d pd c).2.2.2.2.1,(e.st d pd c).2.2.2.2.2.1,(e.st d pd c).2.2.2.2.2.2.1,[],(e.st d pd c).2.2.2.2.2.2.2.2)=some (bs d):=rK f;rw[D,aQ rfl];cases d with
  |nil=>simp only[bw,aJ];obtain⟨g,j,m⟩:=uM (tr:=c) (x:=[]) f (by simp);have o:g7 ((e.st [] pd c).1,(e.st [] pd c).2.1,(e.st [] pd c).2.2.1,pd,(e.st [] pd c).2.2.2.2.1,(e.st [] pd c).2.2.2.2.2.1,(e.st [] pd c).2.2.2.2.2.2.1,[],(e.st [] pd c).2.2.2.2.2.2.2.2) []=some g:=j;rw[o,aQ rfl];exact⟨g,rfl,(m.mono l).s⟩
  |cons b t=>
   simp only[reduceCtorEq,bF,aU];rw[O,aQ rfl,P];simp only[y9,pF,n0];rcases I0 (b:=b) (t:=t) with⟨p,u⟩|⟨p,u,w⟩|⟨p,u,w⟩
   ·subst p;rw[u];simp only[bw,aJ];exact⟨_,rfl,l,f,⟨c,rfl,N⟩,trivial⟩
   ·rw[w];simp only[p,bF,aU];by_cases F:bs (b::t)=[59]
    ·simp only[F,bw,aJ,cE];have Q:ar (b::t)= .op [59]:=by grind
     obtain⟨q,aE⟩:=(il Q).2.1;have S:b=59/\t=q:=by grind
     obtain⟨rfl,rfl⟩:=S;have G:t<:+59::t:=eb 59 t;have T:W (ax e.S (59::t)+1)=ax e.S t:=iP y.bZ f.sfx;refine⟨e.st t pd c,?_,G.trans l,f.mono G,⟨c,rfl,λU=>absurd U (f.yM (by decide))⟩,trivial⟩;show some (e.S,W (ax e.S (59::t)+1),e.ne,pd,(0:Int),(0:Int),([]:aa),([]:bt),c)=_;rw[T];rfl
    ·simp only[F,u,bF,e2,aJ,aU,cn];obtain⟨g,j,m⟩:=pK (tr:=c) ((e.st (b::t) pd c).2.1) f l;have o:hr ((e.st (b::t) pd c).1,(e.st (b::t) pd c).2.1,(e.st (b::t) pd c).2.2.1,pd,(e.st (b::t) pd c).2.2.2.2.1,(e.st (b::t) pd c).2.2.2.2.2.1,(e.st (b::t) pd c).2.2.2.2.2.2.1,[],(e.st (b::t) pd c).2.2.2.2.2.2.2.2) (e.st (b::t) pd c).2.1=some g:=j;rw[o,aQ rfl];exact⟨_,rfl,by cases j;exact m⟩
   ·rw[w];simp only[p,u,bF,bw,g9,aU,reduceCtorEq];have V:=Fv hD bc (tr0:=c) f;have X:cT (b::t)=false:=(yJ M w).2;refine bL.iH c3.k (V.mono l) (λa H Y i Z iX eT yR _=>?_) (λop nd ds i _ v=>?_) (λi v=>?_)
    ·have hl:=vF (l8 true n) (by simp) X Z;have I:H.length<r.length:=by grind
     exact bL.inl I (hk () H Y i.2.2 iX eT I yR)
    ·exact⟨i.2.2,E i.2.2 (by rw[v.z.1];decide),v⟩
    ·exact⟨i.2.2,E i.2.2 (by rw[v.1];decide),v⟩
 ·rw[C,aQ rfl,de (op:=[]) (nd:=[]) (ds:=pd) (by rw[iG B];rfl)];have D:gu ((e.tt pd).1,(e.tt pd).2.1,(e.tt pd).2.2.1,pd,(e.tt pd).2.2.2.2.1,(e.tt pd).2.2.2.2.2.1,(e.tt pd).2.2.2.2.2.2.1,[],(e.tt pd).2.2.2.2.2.2.2.2)=some true:=oS e pd;rw[D,aQ rfl];simp only[aJ];obtain⟨g,j,m⟩:=CM (x:=[]) y.Au (by simp);have o:g7 ((e.tt pd).1,(e.tt pd).2.1,(e.tt pd).2.2.1,pd,(e.tt pd).2.2.2.2.1,(e.tt pd).2.2.2.2.2.1,(e.tt pd).2.2.2.2.2.2.1,[],(e.tt pd).2.2.2.2.2.2.2.2) []=some g:=j;rw[o,aQ rfl];exact⟨g,rfl,(m.mono ov).s⟩
end
theorem I1{α β:Type}(a:ak α)(k:α->ak β)(x:aa):(ae a k).aK x=ae (a.aK x) (λv=>(k v).aK x):=by grind[ak.aK,ae]
theorem Z4{α:Type}{p:Prop}[Decidable p](a b:ak α)(x:aa):(if p then a else b).aK x=if p then a.aK x else b.aK x:=by grind
theorem S4{α:Type}(a:α)(x:aa):(aX a).aK x=aX a:=rfl
theorem Z5(k:Nat)(x:aa):(bU k).aK x=bU k:=rfl
theorem I2{α β:Type}(a:α)(k:α->ak β):ae (aX a) k=k a:=rfl
theorem Z6{D:ak Unit}:∀(r w:aa)(pd:ao),c5 r=(w,true)->r.drop w.length≠[]->cG D r pd= .ok () (r.drop w.length) pd
 |[],w,pd,h,aw=>by simp[c5] at h;subst h;exact absurd rfl aw
 |b::t,w,pd,h,aw=>by
  by_cases c:cT (b::t)=true
  ·have:w=[]:=by unfold c5 at h;rw[bh c] at h;cases h;rfl
   subst this;unfold cG;rw[cm];simp[c,cK]
  ·have d:cT (b::t)=false:=by simpa using c
   have a:¬(b=92\/b=39\/b=34\/b=96\/fJ (b::t)=true):=by intro e;rw[SW d e] at h;cases h
   have h0:c5 (b::t)=(match c5 t with|(w,true)=>(b::w,true)|(_,false)=>([],false)):=by
    rw[c5,d,aO (by simp),aO a];cases c5 t with
    |mk w p=>cases p<;>rfl
   rw[h0] at h;cases aB:c5 t with
   |mk f p=>
    rw[aB] at h;cases p with
    |false=>cases h
    |true=>
     simp only at h;cases h;simp only[mo,F8] at aw⊢;simp only[Gb,Bool.not_eq_true] at a;have g:cw D (some (ey D)) (b::t) pd= .ok () t pd:=by unfold cw;simp only;rw[aO a.1,aO a.2.2.2.1,a.2.2.2.2,aO (by simp)];simp[a.2.1,a.2.2.1]
     rw[yA d g (by simp)];exact Z6 t f pd aB aw
noncomputable def Aw(R:bg):ah->Option ah:=λx=>
 (bif(!(decide (x.2.2.2.2.1=0))) then(au (gv x ([]) ([10,100,111,32,120,10,100,111,110,101]:aa)) λ(a:ah)=>some a) else(au (py R (x.1,(W (x.2.1+2)),x.2.2.1,x.2.2.2.1,x.2.2.2.2.1,x.2.2.2.2.2.1,x.2.2.2.2.2.2.1,x.2.2.2.2.2.2.2.1,x.2.2.2.2.2.2.2.2) ([([100,111,110,101]:aa)]:bt) ([10,100,111,110,101]:aa)) λ(c,b)=>some b))
noncomputable def Ax(R:bg):ah->Option ah:=λa=>
 (cP ((decide (a.2.2.2.2.1=0))=true) (gu a) false λ(c:Bool)=>(cP ((bif(decide (a.2.2.2.2.1=0)) then(!c) else false)=true) (lD a) [] λ(d:aa)=>(bif(bif(bif(decide (a.2.2.2.2.1=0)) then(!c) else false) then(!(decide (d=([100,111]:aa)))) else false) then(au (hr a a.2.1) λ(b:ah)=>some (b.1,b.2.1,b.2.2.1,a.2.2.2.1,b.2.2.2.2.1,b.2.2.2.2.2.1,b.2.2.2.2.2.2.1,a.2.2.2.2.2.2.2.1,b.2.2.2.2.2.2.2.2)) else(cP ((decide (a.2.2.2.2.1=0))=true) (gu a) false λ(e:Bool)=>(bif(bif(decide (a.2.2.2.2.1=0)) then e else false) then(au (g7 a ([])) λ(f:ah)=>Aw R f) else Aw R a)))))
noncomputable def xn(R:bg):ah->Option ah:=λx=>
 (bif(!(decide (x.2.2.2.2.1=0))) then(au (gv x ([]) ([10,100,111,32,120,10,100,111,110,101]:aa)) λ(a:ah)=>some a) else(au (oc x) λ(b:ah)=>Ax R b))
theorem MQ:([10,100,111,32,120,10,100,111,110,101]:aa)=eg:=rfl
theorem vY:(gD:aa)≠[]/\gD.all gp=true:=by decide
theorem FG:(ih:aa)≠[]/\ih.all gp=true:=by decide
theorem Ay:(fl:aa)≠[]/\fl.all gp=true:=by decide
section
variable{R:bg}{n:Nat}(bk:oo R n){e:ca}(bc:e.ne=30- (n:Int))
theorem Z7{r:aa}{nd:aa}{ds:ao}{st:ah}{d:ao}(h0:cB e r d)(hm:iI true e r nd ds st)(f:nd.length+eh ds<=100*e.S.length+500):∃a,Ax R st=some a/\iI false e r (cQ nd ds eg).1 (cQ nd ds eg).2 a:=by
 have j:eg.length=10:=rfl;rcases hm with ad|⟨_,rfl,rfl⟩
 ·obtain⟨a,b,c⟩:=xe (e:=e) (nm:=[]) (x:=eg) (r1:=r) (r0:=r) (nd:=nd) (ds:=ds) ad fM h0.sfx (.inl rfl) (by omega) h0.bZ (by omega);unfold Ax;rw[ad.1];simp only[show¬((1:Int)=0) by decide,bF,cP,eB,cn,aU];unfold Aw;rw[ad.1];simp only[show¬((1:Int)=0) by decide,bF,e2,aJ];rw[MQ,b,aQ rfl];exact⟨a,rfl,c.s⟩
 ·simp only[AR,Nat.zero_add] at f;have g:(e.tt ds).2.2.2.2.1=0:=rfl;unfold Ax;rw[g,oS,fX];have k:=tA ds;have h:g7 (e.tt ds) []=some (e.S,(e.S.length:Int),e.ne,ds,1,0,[],[],true):=by unfold g7 a8 ca.tt;simp only[bw,aJ];have:=h0.bZ;rw[CH _ _ _ _ _ _ _ _ _ _ (by simp) (by grind) (by omega),aQ rfl];rfl
  have i:nZ e r [] ds (e.S,(e.S.length:Int),e.ne,ds,1,0,[],[],true):=by
   refine⟨rfl,rfl,rfl,⟨rfl,?_,?_,?_,?_⟩,?_⟩
   ·grind[ax]
   ·grind
   ·grind
   ·simp
   simp
  simp only[bw,cE,g9,aJ,aU,cP,eB,cn,n0];rw[h,aQ rfl];obtain⟨a,b,c⟩:=xe (e:=e) (nm:=[]) (x:=eg) (r1:=r) (r0:=r) (nd:=[]) (ds:=ds) i fM h0.sfx (.inl rfl) (by grind) h0.bZ (by omega);unfold Aw;simp only[show¬((1:Int)=0) by decide,bF,e2,aJ];rw[MQ,b,aQ rfl];exact⟨a,rfl,c.s⟩
theorem S5{r:aa}{nd:aa}{ds:ao}{st:ah}{b:ao}(h0:cB e r b)(hm:iI true e r nd ds st)(c:nd.length+eh ds<=100*e.S.length+500):∃a,xn R st=some a/\iI false e r (cQ nd ds eg).1 (cQ nd ds eg).2 a:=by
 have i:eg.length=10:=rfl;rcases hm with ad|⟨d,rfl,rfl⟩
 ·obtain⟨a,f,g⟩:=xe (e:=e) (nm:=[]) (x:=eg) (r1:=r) (r0:=r) (nd:=nd) (ds:=ds) ad fM h0.sfx (.inl rfl) (by omega) h0.bZ (by omega);unfold xn;rw[ad.1,MQ];simp only[show¬((1:Int)=0) by decide,bF,e2,aJ];rw[f,aQ rfl];exact⟨a,rfl,g.s⟩
 ·have h:(e.tt ds).2.2.2.2.1=0:=rfl;unfold xn;rw[h];simp only[bw,g9,aU];rw[ZY,aQ rfl];exact Z7 h0 (.inr ⟨d,rfl,rfl⟩) c
theorem Z8{r:aa}{st:ah}(hm:iQ e r st):∃a,Ax R st=some a/\iQ e r a:=by unfold Ax;rw[hm.1];simp only[show¬((2:Int)=0) by decide,bF,cP,eB,cn,aU];unfold Aw;rw[hm.1];simp only[show¬((2:Int)=0) by decide,bF,e2,aJ];rw[pI (by rw[hm.1];decide),aQ rfl];grind
theorem S6{r:aa}{st:ah}(hm:iQ e r st):∃a,xn R st=some a/\iQ e r a:=by unfold xn;rw[hm.1];simp only[show¬((2:Int)=0) by decide,bF,e2,aJ];rw[pI (by rw[hm.1];decide),aQ rfl];grind
include bk bc
theorem amv{r r0:aa}{pd:ao}{tr:Bool}(h:cB e r pd)(h0:r<:+r0)(i:bp r=some r)(d:ar r= .word gD true):bL false e r0 (iF (aR true n) eg r pd) (λst=>st) (λ_ _ _=>True) (Aw R (e.st r pd tr)):=by
 unfold iF Aw;have j:(e.st r pd tr).2.2.2.2.1=0:=rfl;rw[j];simp only[bw,g9,aU];rw[aM (gK.2 (FB i d))];obtain⟨q,rfl⟩:=(qj d).1;rw[o0];have f:q<:+gD++q:=gS gD q;have k:W (ax e.S (gD++q)+2)=ax e.S q:=ks (w:=gD) h.bZ h.sfx;have l:q≠[]:=by have:=S2 (r:=gD++q);rw[(rJ (h.nl.h7 h.sfx) vY.1 vY.2).2 d] at this;grind[vY]
 have g:=h.mono f;have m:((e.st (gD++q) pd tr).1,W ((e.st (gD++q) pd tr).2.1+2),(e.st (gD++q) pd tr).2.2.1,(e.st (gD++q) pd tr).2.2.2.1,(0:Int),(e.st (gD++q) pd tr).2.2.2.2.2.1,(e.st (gD++q) pd tr).2.2.2.2.2.2.1,(e.st (gD++q) pd tr).2.2.2.2.2.2.2.1,(e.st (gD++q) pd tr).2.2.2.2.2.2.2.2)=e.st q pd tr:=by show(e.S,W (ax e.S (gD++q)+2),e.ne,pd,(0:Int),(0:Int),([]:aa),([]:bt),tr)=_;rw[k];rfl
 rw[m,S3 (by simp) MO FG (h.nl.h7 g.sfx)];refine bL.iH (C:=λx=>x) c3.id ((CN bk bc (c:= .done) rfl (by simp) (FF MO FG) (by decide) g ⟨tr,rfl,λo=>absurd o l⟩).mono (f.trans h0)) (λa r1 t b u s1 p s _=>?_) (λop nd ds b _ v=>?_) (λb y=>?_)
 ·exact⟨b.2,rfl,s1,p,s,trivial⟩
 ·grind
 grind
theorem amw{r r0:aa}{pd:ao}{st:ah}(h:cB e r pd)(i:fY e r pd st)(h0:r<:+r0)(j:r0<:+e.S)(k:bp r=some r):bL false e r0 (iF (aR true n) eg r pd) (λst=>st) (λ_ _ _=>True) (Ax R st):=by
 obtain⟨tr,rfl,t⟩:=i;unfold Ax;have l:(e.st r pd tr).2.2.2.2.1=0:=rfl;rw[l,qt,fX,vV h,fX];by_cases c:r=[]
 ·subst c;simp only[bw,cE,g9,aJ,aU,cP,eB,cn,n0];obtain⟨m,a,b⟩:=uM (tr:=tr) (x:=[]) h (by simp);rw[a,aQ rfl];have d:iF (aR true n) eg [] pd= .more [] (cQ [] pd eg).1 (cQ [] pd eg).2:=by unfold iF;refine de ?_;unfold ak.aK cW mB;rw[aM (ch l5)];rfl
  rw[d];have u:=tA pd;have aB:=h.jM;simp only[AR] at aB;obtain⟨o,p,q⟩:=xe (e:=e) (nm:=[]) (x:=eg) (r1:=[]) (r0:=r0) (nd:=[]) (ds:=pd) b h0 j (.inl rfl) (by simp only[AR];have:eg.length=10:=rfl;omega) h.bZ (by decide);unfold Aw;rw[b.1];simp only[show¬((1:Int)=0) by decide,bF,e2,aJ];rw[MQ,p,aQ rfl];exact⟨o,rfl,q.s⟩
 ·simp only[c,bF,bw,e2,aJ,cE];have g:=h.nl.h7 h.sfx;by_cases aG:i_ r=[100,111]
  ·have s:=(rJ g vY.1 vY.2).1 aG;simp only[aG,bw,g9,aU];simp_all[fX,amv]
  ·simp only[aG,bF,e2,aJ];have s:ar r≠ .word gD true:=λf=>aG ((rJ g vY.1 vY.2).2 f);have d:iF (aR true n) eg r pd= .bad r:=by unfold iF;refine g1 ?_;unfold ak.aK cW mB;rw[aM (ch k)];have ad:ar r≠ .eof:=λf=>c (lG.1 f);rw[aO ad,aO (by grind[FE])];rfl
   rw[d];obtain⟨m,a,b⟩:=pK (tr:=tr) ((e.st r pd tr).2.1) h h0;rw[a,aQ rfl];exact⟨_,rfl,by cases a;exact b⟩
theorem S7{r r0:aa}{pd:ao}{st:ah}(h:cB e r pd)(j:fY e r pd st)(h0:r<:+r0)(o:r0<:+e.S):bL false e r0 (ae (cS.aK eg) (λ_=>iF (aR true n) eg) r pd) (λst=>st) (λ_ _ _=>True) (xn R st):=by
 unfold xn;rw[j.eta.2.2.2.2.1];simp only[bw,g9,aU];have l:=Fp h j;obtain⟨p,m,b⟩:=l;rw[m,aQ rfl];have k:=aH.lines (c:=0) r pd;have aB:=h.jM;cases hm:cS r pd with
 |ok a r1 s=>grind[aM,gK,amw]
 |more op nd ds=>
  rw[hm] at b k;simp only[dZ] at k;have d:(cS.aK eg) r pd= .more op (cQ nd ds eg).1 (cQ nd ds eg).2:=by grind[ak.aK]
  rw[de d];obtain⟨f,g,i⟩:=Z7 (R:=R) h b (by omega);exact⟨f,g,iI.mono i h0⟩
 |bad q=>
  rw[hm] at b;have d:(cS.aK eg) r pd= .bad q:=by grind[ak.aK]
  rw[g1 d];obtain⟨f,g,i⟩:=Z8 (R:=R) b;exact⟨f,g,i.mono h0⟩
 |deep q=>
  rw[hm] at b;have d:(cS.aK eg) r pd= .deep q:=by grind[ak.aK]
  rw[jP d];obtain⟨f,g,i⟩:=Z8 (R:=R) b;exact⟨f,g,i.mono h0⟩
end
theorem amx(l:dS)(D:ak Unit):pD l D=ae (bM tf) (λt=>match t with
  | .eof=>b5 tf
  | .word w true=>if l4 w then ae (bU w.length) λ_=>ae ((bM []).aK eg) λt=>if t= .op [59] then ae (bU 1) λ_=>ae (cS.aK eg) λ_=>iF l eg else
    ae (cS.aK eg) λ_=>ae ((bM []).aK eg) λt=>if cA t fl then ae (bU 2) λ_=>ae ((pC D).aK eg) λ_=>ae (cS.aK eg) λ_=>iF l eg else iF l eg
   else bJ
  |_=>bJ):=by
 unfold pD;congr 1
 funext t
 cases t with
 |word w p=>
  cases p with
  |true=>
   simp only[I1,kr];congr 1;congr 1
   funext _
   congr 1
   funext t
   rw[Z4,yz];congr 1
   ·simp[I1,kr,Z5,S4,I2]
   ·simp only[I1,kr,S4];congr 1
    funext _
    congr 1
    funext t
    rw[Z4,yz];simp[I1,kr,Z5,S4,I2]
  |false=>rfl
 |_=>rfl
theorem Z9:∀(r w:aa),dr r->r≠[]->c5 r=(w,true)->r.drop w.length≠[]
 |[],w,_,c,_=>absurd rfl c
 |b::t,w,a,_,h=>by
  by_cases i:cT (b::t)=true
  ·simp_all[c5]
  ·have d:cT (b::t)=false:=by grind
   have e:¬(b=92\/b=39\/b=34\/b=96\/fJ (b::t)=true):=by grind[SW]
   have h0:c5 (b::t)=(match c5 t with|(w,true)=>(b::w,true)|(_,false)=>([],false)):=by rw[c5,d,aO (by simp),aO e];grind
   rw[h0] at h;have j:b≠10:=by simp_all[cT]
   have f:t≠[]:=by
    rintro rfl;rcases a with ad|⟨x,ad⟩
    ·cases ad
    ·cases x with
     |nil=>grind
     |cons y ys=>simp_all
   cases aB:c5 t with
   |mk g p=>
    rw[aB] at h;cases p with
    |false=>cases h
    |true=>simp only at h;cases h;simp only[mo,F8];exact Z9 t g (a.h7 (eb b t)) f aB
noncomputable def Az(R:bg):ah->Option ah:=λa=>
 (cP ((decide (a.2.2.2.2.1=0))=true) (lD a) [] λ(b:aa)=>(bif(bif(decide (a.2.2.2.2.1=0)) then(decide (b=([105,110]:aa))) else false) then(au (Eu R (a.1,(W (a.2.1+2)),a.2.2.1,a.2.2.2.1,a.2.2.2.2.1,a.2.2.2.2.2.1,a.2.2.2.2.2.2.1,a.2.2.2.2.2.2.2.1,a.2.2.2.2.2.2.2.2)) λ(c:ah)=>xn R c) else xn R a))
noncomputable def I3(R:bg):ah->Option ah:=λx=>
 (au (hH x) λ(a:aa)=>(bif(decide (a=([59]:aa))) then xn R (x.1,(W (x.2.1+1)),x.2.2.1,x.2.2.2.1,x.2.2.2.2.1,x.2.2.2.2.2.1,x.2.2.2.2.2.2.1,x.2.2.2.2.2.2.2.1,x.2.2.2.2.2.2.2.2) else(au (oc x) λ(b:ah)=>Az R b)))
noncomputable def MR(R:bg)(p:Int):(aa×Bool×ah)->Option ah:=λ(e,d,a)=>
 (cP ((bif(!(decide (a.2.2.2.2.1=0))) then true else(!d))=false) (z6 e) false λ(f:Bool)=>(bif(bif(bif(!(decide (a.2.2.2.2.1=0))) then true else(!d)) then true else(!f)) then(au (hr a p) λ(b:ah)=>some (b.1,b.2.1,b.2.2.1,a.2.2.2.1,b.2.2.2.2.1,b.2.2.2.2.2.1,b.2.2.2.2.2.2.1,a.2.2.2.2.2.2.2.1,b.2.2.2.2.2.2.2.2)) else(au (g6 a) λ(c:ah)=>I3 R (c.1,c.2.1,c.2.2.1,a.2.2.2.1,c.2.2.2.2.1,c.2.2.2.2.2.1,c.2.2.2.2.2.2.1,a.2.2.2.2.2.2.2.1,c.2.2.2.2.2.2.2.2))))
noncomputable def S8(R:bg):ah->Option ah:=λx=>
 (au (gu x) λ(b:Bool)=>(bif b then(au (g7 x ([120,10,100,111,32,120,10,100,111,110,101]:aa)) λ(c:ah)=>some c) else(au (vC x) λ(d:Bool)=>(bif d then(au (hr x x.2.1) λ(a:ah)=>some (a.1,a.2.1,a.2.2.1,x.2.2.2.1,a.2.2.2.2.1,a.2.2.2.2.2.1,a.2.2.2.2.2.2.1,x.2.2.2.2.2.2.2.1,a.2.2.2.2.2.2.2.2)) else(au (p_ R x) λy=>MR R x.2.1 y)))))
theorem amy(R:bg)(x0:ah):Ev R x0=au (g6 x0) λa=>S8 R (a.1,a.2.1,a.2.2.1,x0.2.2.2.1,a.2.2.2.2.1,a.2.2.2.2.2.1,a.2.2.2.2.2.2.1,x0.2.2.2.2.2.2.2.1,a.2.2.2.2.2.2.2.2):=rfl
theorem amz(fr:Bool)(n:Nat):(aR fr n).dl=a7 fr n:=by cases n<;>rfl
def S9(l:dS)(D:ak Unit):ak Unit:=ae ((bM []).aK eg) λt=>if cA t fl then ae (bU 2) λ_=>ae ((pC D).aK eg) λ_=>ae (cS.aK eg) λ_=>iF l eg else iF l eg
def yS(l:dS)(D:ak Unit):ak Unit:=ae ((bM []).aK eg) λt=>if t= .op [59] then ae (bU 1) λ_=>ae (cS.aK eg) λ_=>iF l eg else ae (cS.aK eg) λ_=>S9 l D
theorem amA(l:dS)(D:ak Unit):pD l D=ae (bM tf) (λt=>match t with
 | .eof=>b5 tf
 | .word w true=>if l4 w then ae (bU w.length) λ_=>yS l D else bJ
 |_=>bJ):=amx l D
theorem pL{α:Type}{m:ak α}{x:aa}{r:aa}{pd:ao}{a:α}{r1:aa}{b:ao}(h:m r pd= .ok a r1 b):(m.aK x) r pd= .ok a r1 b:=gK.2 h
theorem sG{α:Type}{m:ak α}{x:aa}{r:aa}{pd:ao}{op:bt}{nd:aa}{ds:ao}(h:m r pd= .more op nd ds):(m.aK x) r pd= .more op (cQ nd ds x).1 (cQ nd ds x).2:=by grind[ak.aK]
theorem uN{α:Type}{m:ak α}{x:aa}{r q:aa}{pd:ao}(h:m r pd= .bad q):(m.aK x) r pd= .bad q:=by grind[ak.aK]
theorem uO{α:Type}{m:ak α}{x:aa}{r q:aa}{pd:ao}(h:m r pd= .deep q):(m.aK x) r pd= .deep q:=by grind[ak.aK]
theorem aH.low{α:Type}{c:Nat}{f:ak α}(aB:aH c f){e:ca}{r:aa}{pd:ao}(h:cB e r pd):∀(op:bt)(nd:aa)(ds:ao)(hm:f r pd= .more op nd ds),nd.length+eh ds<=100*e.S.length+c:=by intro op nd ds hm;have:=aB r pd;rw[hm] at this;simp only[dZ] at this;have:=h.jM;omega
theorem S_{e:ca}{ds a:ao}{r:aa}(h:cB e r a):lD (e.tt ds)=some []:=by
 have ad:lD (e.tt ds)=lD (e.tt a):=by rfl
 rw[ad];exact amq h.Au
theorem Z_{r w:aa}{p:Bool}(h:ar r= .word w p):c5 r=(w,p):=by
 cases r with
 |nil=>grind[lG]
 |cons b t=>grind[I0]
theorem MS{α:Type}{q:Bool}{e:ca}{r0 r1:aa}{st:ah}{cv:α->aa->ah->Prop}(p:Int)(h:nY e r0 st):bL q e r0 (.bad r1:dD α) (λst=>st) cv (hr st p):=⟨_,rfl,rfl,h.s,h.lo,h.bf,h.nd,h.op⟩
theorem Ta{R:bg}{p:Int}{b:aa}{c:Bool}{a:ah}(h:a.2.2.2.2.1≠0):MR R p (b,c,a)=hr a p:=by unfold MR;simp only[h,bF,e2,aJ,cP,tK,cn];rfl
section
variable{R:bg}{n:Nat}(bk:oo R n)(hD:kt R n){e:ca}(bc:e.ne=30- (n:Int))
theorem aaa{r:aa}{nd:aa}{ds:ao}{st:ah}{c:ao}(h0:cB e r c)(hm:iI true e r nd ds st)(a:nd.length+eh ds<=100*e.S.length+500):∃b,Az R st=some b/\iI false e r (cQ nd ds eg).1 (cQ nd ds eg).2 b:=by
 rcases hm with ad|⟨_,rfl,rfl⟩
 ·unfold Az;rw[ad.1];simp only[show¬((1:Int)=0) by decide,bF,cP,eB,cn,aU];exact S5 h0 (.inl ad) a
 ·unfold Az;have d:(e.tt ds).2.2.2.2.1=0:=rfl;rw[d,S_ h0,fX];simp only[bw,cE,reduceCtorEq,bF,aJ,aU];exact S5 h0 (.inr ⟨rfl,rfl,rfl⟩) a
theorem aab{r:aa}{st:ah}(hm:iQ e r st):∃a,Az R st=some a/\iQ e r a:=by unfold Az;rw[hm.1];simp only[show¬((2:Int)=0) by decide,bF,cP,eB,cn,aU];exact S6 hm
include bk hD bc
theorem amB{r r0:aa}{pd:ao}{st:ah}(h:cB e r pd)(k:fY e r pd st)(h0:r<:+r0)(o:r0<:+e.S)(l:bp r=some r)(hl:ar r≠ .line):bL false e r0 (S9 (aR true n) (a7 true n) r pd) (λst=>st) (λ_ _ _=>True) (Az R st):=by
 have m:=h.nl.h7 h.sfx;unfold S9 Az;rw[aM (pL (ch l)),k.eta.2.2.2.2.1];obtain⟨tr,rfl,p⟩:=k;rw[vV h,fX];simp only[bw,cE,aJ];by_cases aG:i_ r=[105,110]
 ·have s:=(rJ m Ay.1 Ay.2).1 aG;have bf:cA (ar r) fl=true:=by grind[cA]
  simp only[aG,bw,aJ];rw[bh bf];obtain⟨q,rfl⟩:=(qj s).1;have t:bU 2 (fl++q) pd= .ok () q pd:=rfl;rw[aM t];have i:q<:+fl++q:=gS fl q;have u:W (ax e.S (fl++q)+2)=ax e.S q:=ks (w:=fl) h.bZ h.sfx;have v:q≠[]:=by grind[S2,fl]
  have j:=h.mono i;have x:((e.st (fl++q) pd tr).1,W ((e.st (fl++q) pd tr).2.1+2),(e.st (fl++q) pd tr).2.2.1,(e.st (fl++q) pd tr).2.2.2.1,(0:Int),(e.st (fl++q) pd tr).2.2.2.2.2.1,(e.st (fl++q) pd tr).2.2.2.2.2.2.1,(e.st (fl++q) pd tr).2.2.2.2.2.2.2.1,(e.st (fl++q) pd tr).2.2.2.2.2.2.2.2)=e.st q pd tr:=by show(e.S,W (ax e.S (fl++q)+2),e.ne,pd,(0:Int),(0:Int),([]:aa),([]:bt),tr)=_;rw[u];rfl
  rw[x];have c:=amt hD bc j ⟨tr,rfl,λy=>absurd y v⟩;obtain⟨b,z,c⟩:=c;rw[z,aQ rfl];have A:=aH.low (aH.words (tz true n)) j;rw[amz] at A;cases hm:pC (a7 true n) q pd with
  |ok a r1 D=>grind[aM,pL,S7]
  |more op nd ds=>rw[hm] at c;rw[de (sG hm)];obtain⟨d,f,g⟩:=S5 (R:=R) j (iI.up c) (by grind);exact⟨d,f,g.mono (i.trans h0)⟩
  |bad B=>rw[hm] at c;rw[g1 (uN hm)];obtain⟨d,f,g⟩:=S6 (R:=R) c;exact⟨d,f,g.mono (i.trans h0)⟩
  |deep B=>rw[hm] at c;rw[jP (uO hm)];obtain⟨d,f,g⟩:=S6 (R:=R) c;exact⟨d,f,g.mono (i.trans h0)⟩
 ·have bf:cA (ar r) fl=false:=by rw[<-IU m Ay.1 Ay.2];exact e3 aG
  simp only[aG,bF,aU];rw[aO (by grind)];have C:ae (cS.aK eg) (λ_=>iF (aR true n) eg) r pd=iF (aR true n) eg r pd:=aM (pL (Mr l hl));rw[<-C];exact S7 bk bc h ⟨tr,rfl,p⟩ h0 o
theorem amC{r r0:aa}{pd:ao}{st:ah}(h:cB e r pd)(j:fY e r pd st)(h0:r<:+r0)(p:r0<:+e.S)(s:bp r=some r):bL false e r0 (yS (aR true n) (a7 true n) r pd) (λst=>st) (λ_ _ _=>True) (I3 R st):=by
 unfold yS I3;rw[aM (pL (ch s))];have he:=j.eta;have u:hH st=some (bs r):=by obtain⟨tr,rfl,v⟩:=j;exact rK h
 rw[u,aQ rfl];by_cases k:bs r=[59]
 ·have l:ar r= .op [59]:=(mN (by simp)).2 k;simp only[k,decide_true,cond_true];rw[if_pos l];obtain⟨q,rfl⟩:=(il l).2.1;have x:bU 1 ([59]++q) pd= .ok () q pd:=rfl;rw[aM x];have o:q<:+[59]++q:=List.suffix_append _ q;have y:=h.mono o;have z:q≠[]:=cB.yM (b:=59) (t:=q) h (by decide);obtain⟨tr,rfl,v⟩:=j;have A:W (ax e.S ([59]++q)+1)=ax e.S q:=ks (w:=[59]) h.bZ h.sfx;have B:((e.st ([59]++q) pd tr).1,W ((e.st ([59]++q) pd tr).2.1+1),(e.st ([59]++q) pd tr).2.2.1,(e.st ([59]++q) pd tr).2.2.2.1,(e.st ([59]++q) pd tr).2.2.2.2.1,(e.st ([59]++q) pd tr).2.2.2.2.2.1,(e.st ([59]++q) pd tr).2.2.2.2.2.2.1,(e.st ([59]++q) pd tr).2.2.2.2.2.2.2.1,(e.st ([59]++q) pd tr).2.2.2.2.2.2.2.2)=e.st q pd tr:=by show(e.S,W (ax e.S ([59]++q)+1),e.ne,pd,(0:Int),(0:Int),([]:aa),([]:bt),tr)=_;rw[A];rfl
  rw[B];exact S7 bk bc y ⟨tr,rfl,λm=>absurd m z⟩ (o.trans h0) p
 ·have l:ar r≠ .op [59]:=λm=>k ((mN (by simp)).1 m);simp only[k,decide_false,cond_false];rw[if_neg l];obtain⟨D,C,d⟩:=Fp h j;rw[C,aQ rfl];have E:=aH.low (aH.lines (c:=0)) h;cases hm:cS r pd with
  |ok a r1 F=>grind[aM,pL,amB]
  |more op nd ds=>rw[hm] at d;rw[de (sG hm)];obtain⟨f,g,i⟩:=aaa (R:=R) h d (by grind);exact⟨f,g,i.mono h0⟩
  |bad q=>rw[hm] at d;rw[g1 (uN hm)];obtain⟨f,g,i⟩:=aab (R:=R) d;exact⟨f,g,i.mono h0⟩
  |deep q=>rw[hm] at d;rw[jP (uO hm)];obtain⟨f,g,i⟩:=aab (R:=R) d;exact⟨f,g,i.mono h0⟩
omit bk hD bc in
theorem amD{r r0:aa}{b pd:ao}(h:cB e r b)(h0:r<:+r0)(f:eh pd<=100*e.S.length+400):∃a,I3 R (e.tt pd)=some a/\iI false e r0 (cQ [] pd eg).1 (cQ [] pd eg).2 a:=by unfold I3;rw[Fz pd h.bZ,aQ rfl];simp only[reduceCtorEq,bF,aU];rw[ZY,aQ rfl];obtain⟨a,c,d⟩:=aaa (R:=R) h (iI.tt (e:=e) (r:=r) pd) (by grind);exact⟨a,c,d.mono h0⟩
theorem amE{r:aa}{pd:ao}{st:ah}(h:cB e r pd)(S:fY e r pd st)(T:r<:+e.S):bL false e r (pD (aR true n) (a7 true n) r pd) (λst=>st) (λ_ _ _=>True) (Ev R st):=by
 rw[amA,amy];obtain⟨tr,rfl,U⟩:=S;rcases xd h ⟨tr,rfl,U⟩ with⟨b,eA,z,A,V,m,s,ib⟩|⟨z,A⟩
 ·rw[A,aQ rfl,aM (ch z)];obtain⟨d,rfl,MP⟩:=V;have B:((e.st b pd d).1,(e.st b pd d).2.1,(e.st b pd d).2.2.1,(e.st r pd tr).2.2.2.1,(e.st b pd d).2.2.2.2.1,(e.st b pd d).2.2.2.2.2.1,(e.st b pd d).2.2.2.2.2.2.1,(e.st r pd tr).2.2.2.2.2.2.2.1,(e.st b pd d).2.2.2.2.2.2.2.2)=e.st b pd d:=rfl;rw[B];unfold S8;rw[qt,aQ rfl];by_cases t:b=[]
  ·subst t;simp only[bw,aJ];obtain⟨g,f,k⟩:=uM (tr:=d) (x:=tf) m (by decide);rw[show([120,10,100,111,32,120,10,100,111,110,101]:aa)=tf from rfl,f,aQ rfl];exact⟨g,rfl,(k.mono s).s⟩
  ·simp only[t,bF,aU];rw[MK m t,aQ rfl];have J:∃g,hr (e.st b pd d) (e.st b pd d).2.1=some g/\iQ e r g:=pK _ m s
   have pH:ar b≠ .eof:=λC=>t (lG.1 C);cases W:ar b with
   |eof=>grind
   |line=>simp only[aJ];obtain⟨g,f,k⟩:=J;rw[f,aQ rfl];exact⟨_,rfl,by cases f;exact k⟩
   |op o=>simp only[aJ];obtain⟨g,f,k⟩:=J;rw[f,aQ rfl];exact⟨_,rfl,by cases f;exact k⟩
   |word w p=>
    simp only[aU];have v:=Z_ W;have X:=h.nl.h7 m.sfx;obtain⟨⟨i,Y,K⟩,L,c⟩:=Fv hD bc (tr0:=d) m;rw[L,aQ rfl];have M:K.1=e.S->i.length<=1000000:=λZ=>lK (SX m Z L).1 h.bZ;unfold MR;dsimp only at c⊢;by_cases N:p=true/\l4 w=true
    ·obtain⟨rfl,rI⟩:=N;dsimp only;have Av:=Z9 b w X t v;have xk:=Z6 (D:=a7 true n) b w pd v Av;rw[xk] at c;obtain⟨E,a2,a3, -,j,l⟩:=c;rw[v] at j l;dsimp only at j l;have F:=l j;subst F j;have G:=(yI i (M a3.eta.1)).2;rw[G,a3.eta.2.2.2.2.1,rI];simp only[bw,g9,aU,cE];rw[fX];simp only[cE,g9,aU];rw[aM (show bU i.length b pd= .ok () (b.drop i.length) pd from rfl)];obtain⟨O,rfl,P⟩:=a3;rcases xd a2 ⟨O,rfl,P⟩ with⟨bY,amF,H,I,tl,ln,xi,Q⟩|⟨H,I⟩
     ·rw[I,aQ rfl];obtain⟨hJ,rfl,MU⟩:=tl;have u:yS (aR true n) (a7 true n) (b.drop i.length) pd=yS (aR true n) (a7 true n) bY pd:=by unfold yS;rw[aM (pL (ch H)),aM (pL (ch Q))]
      rw[u];exact amC bk hD bc ln ⟨hJ,rfl,MU⟩ (xi.trans (E.trans s)) T Q
     ·rw[I,aQ rfl];have u:yS (aR true n) (a7 true n) (b.drop i.length) pd= .more [] (cQ [] pd eg).1 (cQ [] pd eg).2:=by unfold yS;exact de (sG (by rw[iG H];rfl))
      rw[u];have vM:=h.jM;exact amD (R:=R) h fM (by show eh pd<=_;omega)
    ·have u:(match Tok.word w p with| .eof=>b5 tf| .word w true=>if l4 w then ae (bU w.length) λ_=>yS (aR true n) (a7 true n) else bJ|_=>bJ:ak Unit) b pd= .bad b:=by
      cases p with
      |false=>rfl
      |true=>dsimp only;rw[if_neg (λC=>N ⟨rfl,C⟩)];rfl
     refine bL.dU (y:=hr K (e.st b pd d).2.1) ?_ ?_
     ·rw[u];cases hm:cG (a7 true n) b pd with
      |ok a cu b2=>rw[hm] at c;obtain⟨E,a2,⟨O,rfl,P⟩,_⟩:=c;grind[MS,ZU]
      |more op nd ds=>rw[hm] at c;exact MS _ (c.z.2.2.2.1.mono s)
      |bad q=>rw[hm] at c;exact MS _ (c.2.mono s)
      |deep q=>rw[hm] at c;exact MS _ (c.2.mono s)
     ·cases hm:cG (a7 true n) b pd with
      |ok a cu b2=>
       rw[hm] at c;obtain⟨E,a2,a3, -,j,l⟩:=c;rw[v] at j l;dsimp only at j l;subst j;have G:=(yI i (M a3.eta.1)).2;rw[G,a3.eta.2.2.2.2.1];cases Y with
       |false=>rfl
       |true=>
        have F:=l rfl;subst F;have aw:l4 i=false:=by grind
        rw[aw];rfl
      |more op nd ds=>rw[hm] at c;exact Ta (by rw[c.z.1];decide)
      |bad q=>rw[hm] at c;exact Ta (by rw[c.1];decide)
      |deep q=>rw[hm] at c;exact Ta (by rw[c.1];decide)
 ·rw[A,aQ rfl,de (op:=[]) (nd:=(cQ [] pd tf).1) (ds:=(cQ [] pd tf).2) (by rw[iG z];rfl)];have B:((e.tt pd).1,(e.tt pd).2.1,(e.tt pd).2.2.1,(e.st r pd tr).2.2.2.1,(e.tt pd).2.2.2.2.1,(e.tt pd).2.2.2.2.2.1,(e.tt pd).2.2.2.2.2.2.1,(e.st r pd tr).2.2.2.2.2.2.2.1,(e.tt pd).2.2.2.2.2.2.2.2)=e.tt pd:=rfl;rw[B];unfold S8;rw[oS,aQ rfl];simp only[aJ];obtain⟨g,f,k⟩:=CM (x:=tf) h.Au (by decide);rw[show([120,10,100,111,32,120,10,100,111,110,101]:aa)=tf from rfl,f,aQ rfl];exact⟨g,rfl,(k.mono ov).s⟩
end
theorem amG{σ α β:Type}(f:σ->ak (σ⊕α))(K:α->ak β):∀(N:Nat)(s:σ)(r:aa)(pd:ao),r.length<=N->ae (b8 f s) K r pd=b8 (λs=>ae (f s) λx=>match x with| .inl s'=>aX (.inl s')| .inr a=>ae (K a) λb=>aX (.inr b)) s r pd:=by
 intro N;induction N with
 |zero=>
  intro s r pd h;have e:r.length=0:=by omega
  rw[cm];unfold ae;rw[cm];cases ad:f s r pd with
  |ok x r1 c=>
   cases x with
   |inl s'=>grind[cK,aX]
   |inr a=>grind[cK,aX]
  |more op nd ds=>rfl
  |bad q=>rfl
  |deep q=>rfl
 |succ N d=>
  intro s r pd h;rw[cm];unfold ae;rw[cm];cases ad:f s r pd with
  |ok x r1 c=>
   cases x with
   |inl s'=>
    simp only[cK,aX];by_cases hl:r1.length<r.length
    ·rw[bh hl,bh hl];exact d s' r1 c (by omega)
    grind
   |inr a=>grind[cK,aX]
  |more op nd ds=>rfl
  |bad q=>rfl
  |deep q=>rfl
theorem amH{σ α β:Type}(f:σ->ak (σ⊕α))(K:α->ak β)(s:σ):ae (b8 f s) K=b8 (λs=>ae (f s) λx=>match x with| .inl s'=>aX (.inl s')| .inr a=>ae (K a) λb=>aX (.inr b)) s:=by
 funext r pd;exact amG f K r.length s r pd (cV _)
def CQ(e:ca)(r:aa)(pd:ao)(x:ah):Prop:=(∃r' tr,bp r=some r'/\x=e.st r' pd tr/\(r'=[]->tr=false)/\cB e r' pd/\r'<:+r/\bp r'=some r')\/(bp r=none/\x=e.tt pd)
theorem xo{e:ca}{r:aa}{pd:ao}{st:ah}(h:cB e r pd)(d:fY e r pd st):∃x,g6 st=some x/\CQ e r pd x:=by
 rcases xd h d with⟨f,g,a,b,⟨tr,i,c⟩,j,k,l⟩|⟨a,b⟩
 ·exact⟨g,b,.inl ⟨f,tr,a,i,c,j,k,l⟩⟩
 ·exact⟨_,b,.inr ⟨a,rfl⟩⟩
theorem FH{q:Bool}{e:ca}{r r0:aa}{nd:aa}{ds:ao}{st:ah}{b:ao}{x:aa}(h0:cB e r b)(hm:iI false e r nd ds st)(h:r<:+r0)(f:nd.length+eh ds<=100*e.S.length+500)(g:x.length<=100):∃a,gv st [] x=some a/\iI q e r0 (cQ nd ds x).1 (cQ nd ds x).2 a:=by obtain⟨a,c,d⟩:=xe (e:=e) (nm:=[]) (x:=x) (r1:=r) (r0:=r) (nd:=nd) (ds:=ds) hm.z fM h0.sfx (.inl rfl) (by omega) h0.bZ (by omega);exact⟨a,c,(nZ.mono d h).s⟩
theorem rL{e:ca}{r:aa}{st:ah}{nm x:aa}(hm:iQ e r st):gv st nm x=some st:=pI (by rw[hm.1];decide)
theorem sH{e:ca}{w q:aa}{pd:ao}{tr:Bool}(h:cB e (w++q) pd)(k:Nat)(hk:w.length=k):(e.S,W (ax e.S (w++q)+(k:Int)),e.ne,pd,(0:Int),(0:Int),([]:aa),([]:bt),tr)=e.st q pd tr:=by subst hk;have a:W (ax e.S (w++q)+(w.length:Int))=ax e.S q:=ks (w:=w) h.bZ h.sfx;rw[a];rfl
theorem cB.tE{e:ca}{w q:aa}{pd:ao}(h:cB e (w++q) pd)(a:w≠[])(b:(10:UInt8)∉w):q≠[]:=by
 rintro rfl;rw[rP] at h;rcases h.nl.h7 h.sfx with ad|⟨t,ad⟩
 ·grind
 grind
def FI(l:dS):ak Unit:=ae (l.ls .item true) λ_=>ae (bM []) λt=>if t= .op [59,59] then bU 2 else aX ()
def AB(l:dS)(D:ak Unit)(t:Tok):ak Unit:=ae ((if t= .op [40] then bU 1 else aX ())) λ_=>ae (kQ D) λ_=>FI l
def oU(l:dS)(D:ak Unit):Unit->ak (Unit⊕Unit):=λ_=>ae cS λ_=>ae (bM []) λt=>if t= .eof then b5 [] else if cA t eo then ae (bU 4) λ_=>aX (.inr ()) else ae (AB l D t) λ_=>aX (.inl ())
theorem aac(l:dS)(D:ak Unit):(λ(_:Unit)=>ae cS λ_=>ae (bM []) λt=>if t= .eof then b5 [] else if cA t eo then ae (bU 4) λ_=>aX (.inr ()) else
 ae ((if t= .op [40] then bU 1 else aX ())) λ_=>ae (kQ D) λ_=>ae (l.ls .item true) λ_=>ae (bM []) λt=>if t= .op [59,59] then ae (bU 2) λ_=>aX (.inl ()) else aX (.inl ()))=oU l D:=by
 unfold oU
 funext _
 congr 1
 funext _
 congr 1
 funext t
 congr 1;congr 1;unfold AB FI;simp only[kr];congr 1
 funext _
 congr 1
 funext _
 congr 1
 funext _
 congr 1
 funext t
 rw[yz];congr 1
theorem amJ(l:dS)(D:ak Unit):nu l D=b8 (oU l D) ():=by simp[nu,aac]
theorem amK{n:Nat}{s':Unit}{r:aa}{pd:ao}{r':aa}{a:ao}(h:oU (aR true n) (a7 true n) () r pd= .ok (.inl s') r' a):r'.length<r.length:=by rw[<-aac] at h;exact(XE (qY true n) (l8 true n)).lt (s:=()) h
noncomputable def yT(R:bg):ah->Option ah:=λx=>
 (au (R.nI x ([59,59]:aa) ([]:bt) false) λ(c,a)=>(cP ((decide (a.2.2.2.2.1=0))=true) (hH a) [] λ(b:aa)=>(bif(bif(decide (a.2.2.2.2.1=0)) then(decide (b=([59,59]:aa))) else false) then some (a.1,(W (a.2.1+2)),a.2.2.1,a.2.2.2.1,a.2.2.2.2.1,a.2.2.2.2.2.1,a.2.2.2.2.2.2.1,a.2.2.2.2.2.2.2.1,a.2.2.2.2.2.2.2.2) else some a)))
noncomputable def I4(R:bg)(x0 x:ah):Option ah:=fixF (z8 R (yT R)) bC (x.1,x.2.1,x.2.2.1,x0.2.2.2.1,x.2.2.2.2.1,x.2.2.2.2.2.1,x.2.2.2.2.2.2.1,x0.2.2.2.2.2.2.2.1,x.2.2.2.2.2.2.2.2)
theorem amL(R:bg)(x0:ah):Er R x0=(au (hH x0) λ(a:aa)=>
 (bif(decide (a=([40]:aa))) then
 (au (g6 (x0.1,(W (x0.2.1+1)),x0.2.2.1,x0.2.2.2.1,x0.2.2.2.2.1,x0.2.2.2.2.2.1,x0.2.2.2.2.2.2.1,x0.2.2.2.2.2.2.2.1,x0.2.2.2.2.2.2.2.2)) λ(b:ah)=>I4 R x0 b)
 else I4 R x0 x0)):=rfl
end Go.Eng
