/- Part 6 of what FnMore needs. No condition. -/
import Derived.Test.YthnjiffnjaaejaaGreatDoorFnMoreE
set_option linter.all false
namespace Go.Eng
variable{D cX:ab Unit}{F ds:ag}{b:UInt8}{c:Ctx}{α:Type}{cB:j2 α}{dq:Option (ab Unit)}{fr no tabs:Bool}{lo:Option dD}{n:Nat}{r r' t u x:H}
theorem aeo:∀{ds:ag}{t nd:H}(w:H),eB ds->cx t->kg ds t= .inr nd->kg ds (t++(nd++w))= .inl w
 |[],t,nd,w,_,_,h=>by cases h
 |d::ds,t,nd,w,aB,b,h=>by
  rw[kg] at h⊢;have M:=aB d (by simp);have U:eB ds:=λe he=>aB e (by grind);cases a:kf d.1 d.2 t with
  |some r=>rw[a] at h;obtain⟨s1,s2⟩:=Nl d.1 d.2 _ t _ r (cS _) a;rw[s2 b];exact aeo w U (b.sfx s1) h
  |none=>rw[a] at h;cases h;rw[show fl _++w=d.1++10::(fl ds++w) by simp[fl],aen M.1 M.2 _ _ t (cS _) b a];grind[Wa]
theorem aep:∀(t w:H),gw t=none->gw (t++39::w)=some w
 |[],w,_=>by rfl
 |b::t,w,h=>by
  rw[gw] at h;rw[jI,gw];split at h
  ·cases h
  simp_all[aep]
theorem aeq:∀{t q:H},cx t->gw t=some q->q≠[]
 |[],q,_,h=>by grind[gw]
 |b::t,q,a,h=>by
  rw[gw] at h;split at h
  ·next c=>cases h;exact a.ne (by rw[c];decide)
  ·exact aeq a.tail h
theorem Pg(b:UInt8)(t:H):gx (b::t)=(if b=96 then some t else if b=92 then(match t with|[]=>none|_::u=>gx u) else gx t):=by grind[gx.eq_def]
theorem Wb:∀(n:Nat)(t w:H),t.length<=n->cx t->gx t=none->gx (t++96::w)=some w
 |n,[],w,_,_,_=>by rw[ps,Pg,ba rfl]
 |0,b::t,w,af,_,_=>by grind
 |n+1,b::t,w,af,d,h=>by
  simp only[nB] at af;rw[Pg] at h;rw[jI,Pg];split at h
  ·cases h
  ·next e=>
   rw[aM e];split at h
   ·next a=>
    rw[ba a];cases t with
    |nil=>subst a;exact absurd d.head (by decide)
    |cons c u=>exact Wb n u w (by grind) d.tail.tail h
   ·next a=>rw[aM a];exact Wb n t w (by omega) d.tail h
theorem Wc:∀(n:Nat){t q:H},t.length<=n->cx t->gx t=some q->q≠[]
 |n,[],q,_,_,h=>by grind[gx]
 |0,b::t,q,af,_,_=>by grind
 |n+1,b::t,q,af,a,h=>by
  simp only[nB] at af;rw[Pg] at h;split at h
  ·next d=>cases h;exact a.ne (by rw[d];decide)
  ·split at h
   ·cases t with
    |nil=>cases h
    |cons c u=>exact Wc n (by simp at af;omega) a.tail.tail h
   ·exact Wc n (by omega) a.tail h
theorem aer(w:H):∀(d:Nat),ij d (List.replicate (d+2) 41++w)= .ok w
 |0=>by rfl
 |d+1=>by rw[aeU,jI,sv,aM (by simp[fD]),ba rfl];simp[aer]
theorem Ph:∀(t w:H)(d n:Nat),cx t->ij d t= .more n->ij d (t++(List.replicate n 41++w))= .ok w
 |[],w,d,n,_,h=>by grind[ij,aer]
 |b::t,w,d,n,a,h=>by
  rw[sv] at h;have e:=Jj (List.replicate n 41++w) a (by simp);rw[jI] at e⊢;rw[sv,e];split at h
  ·cases h
  ·next M=>
   rw[aM M];split at h
   ·next U=>rw[ba U];exact Ph t w _ n a.tail h
   ·next U=>
    rw[aM U];split at h
    ·next c=>
     rw[ba c];cases d with
     |succ d=>exact Ph t w d n a.tail h
     |zero=>grind
    ·next c=>rw[aM c];exact Ph t w d n a.tail h
theorem Pj:∀(t q:H)(d:Nat),cx t->ij d t= .ok q->q≠[]
 |[],q,d,_,h=>by grind[ij]
 |b::t,q,d,a,h=>by
  rw[sv] at h;split at h
  ·cases h
  ·split at h
   ·exact Pj t q _ a.tail h
   ·split at h
    ·cases d with
     |succ d=>exact Pj t q d a.tail h
     |zero=>
      cases t with
      |nil=>cases h
      |cons c u=>
       simp only at h;split at h
       ·next aq=>cases h;exact a.tail.ne (by rw[aq];decide)
       ·cases h
    ·exact Pj t q d a.tail h
def m_(w:H):Prop:=w≠[]/\cV w=true
theorem Wd:∀(n:Nat)(t w o:H),t.length<=n->cx t->g1 t= .open_ o->g1 (t++34::w)= .closed o w
 |n,[],w,o,_,_,h=>by simp_all[g1,Jp]
 |0,b::t,w,o,af,_,_=>by grind
 |n+1,b::t,w,o,af,g,h=>by
  simp only[nB] at af
  have d:∀{x o:H}{q:nk},q.add x= .open_ o->∃a,q= .open_ a/\o=x++a:=λ{x o q} h=>by cases q<;>simp[nk.add] at h;grind
  rw[Jp] at h;rw[jI,Jp];split at h
  ·cases h
  ·next M=>
   rw[aM M];split at h
   ·cases h
   ·next U=>
    rw[aM U];split at h
    ·next e=>
     rw[ba e];cases t with
     |nil=>cases h
     |cons c u=>obtain⟨a,f,rfl⟩:=d h;simp;rw[Wd n u w a (by grind) g.tail.tail f];rfl
    ·next e=>
     rw[if_neg e];obtain⟨a,f,rfl⟩:=d h;rw[Wd n t w a (by omega) g.tail f];rfl
theorem asX{w:H}(l:m_ w):∀(n:Nat)(r d q c:H),r.length<=n->cx r->dP r=some (d,q,c)->(c≠[]\/q=[])->dP (r++(c++w))=some (d,w,[]):=by
 have h0:dP w=some ([],w,[]):=by
  obtain⟨M,U⟩:=l;cases w with
  |nil=>grind
  |cons b t=>rw[vx,ba U]
 intro n;induction n with
 |zero=>grind[dP]
 |succ n m=>
  intro r d q c af Z h aq;cases r with
  |nil=>grind
  |cons b t=>
   have go:∀(u p:H),u<:+t->(dP u).map (λq=>(p++q.1,q.2))=some (d,q,c)->(dP (u++(c++w))).map (λq=>(p++q.1,q.2))=some (d,w,[]):=by intro u p hu h;simp only[BY] at h;obtain⟨⟨s,x,y⟩,M,U⟩:=h;cases U;rw[m u s q c (by grind) (Z.tail.sfx hu) M aq];rfl
   have k:=FV (c++w) Z (by simp);rw[List.cons_append] at k⊢;rw[vx] at h⊢;rw[k];split at h
   ·grind
   ·next v=>
    rw[aM v];split at h
    ·next g=>
     rw[ba g];cases t with
     |nil=>cases h
     |cons e u=>exact go u _ (eL _ _) h
    ·next g=>
     rw[aM g];split at h
     ·next i=>
      rw[ba i];cases Y:gw t with
      |none=>grind
      |some a=>rw[Y] at h;obtain⟨s1,s2⟩:=Jl t _ a Y;rw[s2];simp only at h⊢;rw[ZM s1];exact go a _ s1 h
     ·next i=>
      rw[aM i];split at h
      ·cases h
      ·next ah=>
       rw[aM ah];split at h
       ·next j=>
        rw[ba j];cases f:g1 t with
        |part=>grind
        |open_ o=>rw[f] at h;cases h;rw[show t++([34]++w)=t++34::w from rfl,Wd _ t w d (cS _) Z.tail f];grind
        |closed o a=>rw[f] at h;obtain⟨s1,s2⟩:=Tm _ t _ o a (tE _) f;rw[s2];exact go a o s1 h
       ·next j=>
        rw[aM j];exact go t [b] (yD _) h
def mF(w:H)(ds:ag)(z:H)(a:ag):Prop:=w≠[]/\ar z≠ .line/\(bg w=some z/\a=ds\/∃v,w=10::(fl ds++v)/\bg v=some z/\a=[])
def asY:j2 Bool:=λw ds y=>∀z a,mF w ds z a->∃b,y= .ok b z a
theorem fP.iB:fP Eng.iB:=fP.lines
theorem We{w z:H}{c:ag}(b:Bool)(aB:eB ds)(h:mF w ds z c):∃d,cD iB b w ds= .ok d z c:=by
 obtain⟨_,U,a⟩:=h;rcases a with⟨a,rfl⟩|⟨v,rfl,a,rfl⟩
 ·exact⟨b,by rw[rq fP.iB,sw a U];rfl⟩
 ·refine⟨true,?_⟩;have e:iB b (10::(fl ds++v)) ds= .ok (.inl true) v []:=by rw[xS (FX _)];show mm _ _=_;rw[zx,Wa v aB];rfl
  rw[rq fP.iB,e];show cD iB true v []=_;rw[rq fP.iB,sw a U];rfl
theorem dv.lines:dv asY cQ:=by
 refine dv.rep fP.iB (λs u F hu af ah=>?_) (λds w y _ h=>h) (λs u F s' j hu af h=> .inr ⟨s',?_⟩) false
 ·refine aT.c4 hu af ah (λr Z c Y=>?_) (λw d z a h=>?_) (λw y d z a h=>absurd d h.1)
  ·by_cases f:ar r= .line
   ·obtain⟨t,rfl⟩:=wL f;rw[ba f];have fin:∀v:H,∀z a,mF v [] z a->∃b,qH iB (.ok (.inl true) v [])= .ok b z a:=λv z a h=>We true eB.nil h
    have e:∀x,N kh (λ_=>(aU (.inl true):ab (Bool⊕Bool))) (10::x) F=mm _ (match kg F x with| .inl r'=> .ok () r' []| .inr nd=> .more _ nd []):=λx=>rfl
    unfold aT;rw[e];cases g:kg F t with
    |inl q=>refine⟨eB.nil,λi w=>?_⟩;subst i;rw[jI,e,(wI F t w [] g).2 c.tail];exact fin w
    |inr nd=>refine⟨eB.nil,λw=>?_⟩;rw[jI,e,aeo w ah c.tail g];exact fin w
   simp_all[aT.ret]
  ·have:=We s ah h;rwa [rq fP.iB] at this
 ·rw[rq fP.iB,sw mj (by decide)];rfl
def Ne{α:Type}:j2 α:=qG (· ≠[])
theorem aT.aes{P:H->Prop}{a:α}(aB:eB F):aT (qG P) (aU a) u F:=⟨aB,λe w _=>⟨a,by rw[e];rfl⟩⟩
theorem aT.to{f:H->Option H}{n:H}(a:cx t)(ah:eB F)(M:∀q,f t=some q->q≠[])(U:∀w,f t=none->f (t++(n++w))=some w):aT Ne (ki f n) t F:=by
 unfold aT ki;cases h:f t with
 |some q=>grind
 |none=>exact⟨ah,λw _=>⟨(),by grind⟩⟩
def rr(D:ab Unit):Prop:=∀u F,cx u->eB F->fD u=true->aT Ne D u F
theorem dv.part(hD:rr D)(m:∀q,dq=some q->dv Ne q):dv Ne (cC D dq):=by
 intro u F hu af ah;cases u with
 |nil=>grind
 |cons b t=>
  have k:=λz=>Jj z hu af;by_cases a:b=92
  ·have e:∀z,cC D dq (b::z) F= .ok () _ F:=λz=>ba a
   unfold aT;rw[e];refine⟨ah,λh w _=>⟨(),?_⟩⟩;rw[jI,e]
   match t,hu,h with
   |[],hu,_=>rw[a] at hu;exact absurd hu.head (by decide)
   |[c],_,_=>rfl
  ·by_cases i:b=96
   ·have e:∀z,cC D dq (b::z) F=ki gx _ z F:=λz=>(aM a).trans (ba i)
    exact aT.shift (e t) (λz=>e _) (aT.to hu.tail ah (λq h=>Wc _ (cS _) hu.tail h) λw h=>Wb _ t w (cS _) hu.tail h)
   ·by_cases d:fD (b::t)=true
    ·have e:∀z,fD _=true->cC D dq (b::z) F=D _ F:=λz h=>(aM a).trans ((aM i).trans (ba h))
     exact aT.shift (e t d) (λz=>e _ ((k z).trans d)) (hD _ F hu ah d)
    ·have e:∀z,¬fD _=true->cC D dq (b::z) F=_:=λz h=>(aM a).trans ((aM i).trans (aM h))
     have n:=λz h=>d ((k z).symm.trans h);have f:∀{g:ab Unit},(∀z,¬fD _=true->cC D dq _ F=g z F)->aT Ne g t F->aT Ne _ (b::t) F:=λbk h=>aT.shift (bk t d) (λz=>bk _ (n z)) h
     cases dq with
     |none=>exact f (λz h=>e z h) (aT.aes ah)
     |some q=>
      by_cases j:b=39
      ·exact f (λz h=>(e z h).trans (ba j)) (aT.to hu.tail ah (λq h=>aeq hu.tail h) λw h=>aep t w h)
      ·by_cases l:b=34
       ·exact f (λz h=>(e z h).trans ((aM j).trans (ba l))) (m q rfl t F hu.tail (hu.ne (by grind)) ah)
       ·exact f (λz h=>(e z h).trans ((aM j).trans (aM l))) (aT.aes ah)
theorem aT.Hb{β:Type}{m:ab α}{k:α->ab β}{Fm:j2 α}{cB:j2 β}(c:ae m)(d:c7 m)(hu:cx u)(af:u≠[])(hm:aT Fm m u F)
  (az:∀a r b,m u F= .ok a r b->cx r->r≠[]->eB b->aT cB (k a) r b)
  (M:∀ds w y,eB ds->Fm ((b8 [] ds x).1++w) ds y->cB w (b8 [] ds x).2 (mm k (KB x y))):aT cB (Eng.N (m.aG x) k) u F:=
 aT.N c hu hm az (λa b h=>absurd rfl (d hu af h)) M
theorem aT.pn{β:Type}{m:ab α}{k:α->ab β}{Fm:j2 α}{cB:j2 β}(c:ae m)(d:c7 m)(hu:cx u)(af:u≠[])(hm:aT Fm m u F)
  (az:∀a r b,m u F= .ok a r b->cx r->r≠[]->eB b->aT cB (k a) r b)
  (M:∀ds w y,eB ds->Fm w ds y->cB w ds (mm k y)):aT cB (Eng.N m k) u F:=
 aT.z_ c hu hm az (λa b h=>absurd rfl (d hu af h)) M
theorem aT.aG{α:Type}{m:ab α}{x:H}{Fm cB:j2 α}{u:H}{F:ag}(b:ae m)(c:c7 m)(hu:cx u)(af:u≠[])(hm:aT Fm m u F)
  (M:∀ds w y,eB ds->Fm ((b8 [] ds x).1++w) ds y->cB w (b8 [] ds x).2 (KB x y)):aT cB (m.aG x) u F:=by
 rw[show m.aG x=Eng.N (m.aG x) aU by funext r F;unfold Eng.N;cases m.aG x r F<;>rfl];refine aT.Hb b c hu af hm (λa r f _ U d e=>aT.ret d e) λds w y aB h=>?_;have:=M ds w y aB h;rwa [show mm aU _=KB x y by cases y<;>rfl]
theorem aT.name{P:H->Prop}{f:ab α}{n:H}(h:aT (qG P) f u F):aT (qG P) (f.named n) u F:=
 aT.named h λw ds op nd b=>by
  by_cases a:P w
  ·exact .inl λh=>by obtain⟨_,h⟩:=h a;cases h
  ·exact .inr λh=>absurd h a
theorem aT.Hc{k:Tok->ab α}(hu:cx u)(af:u≠[])(a:eB F)
  (az:∀r,r≠[]->cx r->bg r=some r->aT cB (k (ar r)) r F) (M:∀w,w≠[]->cB w F (Eng.N (bN []) k w F)) (U:∀y,cB [] F y):aT cB (Eng.N (bN []) k) u F:=
 aT.c4 hu af a az M λw y h=>by have:=h;subst this;exact U y
theorem NE.qq{c:UInt8}{part:ab Unit}(aq:c≠10)(d:ae part)(aw:lx part):NE (iQ c part):=by
 intro u F a r' b hu h;have bk:=fP.qq c d aw;refine Nq bk cx (· ≠[]) (λs r F s' r' b ah e=>ah.sfx ((bk.ex s).sfx e)) (λs r F a r' b ah e=>?_) _ _ _ _ _ _ _ (cS _) hu h;split at e
 ·cases e
 ·split at e
  ·next h=>cases e;exact ah.ne (h▸aq)
  ·obtain⟨_,_,_,_,e⟩:=bW e;cases e
theorem dv.qq{c:UInt8}{part:ab Unit}(aq:c≠10)(e:ae part)(aw:lx part)(ah:dv Ne part):dv (λw ds y=>∀v,w=c::v->y= .ok () v ds) (iQ c part):=by
 refine dv.rep (fP.qq c e aw) (λs u F hu af aB=>?_) (λ_ _ _ _ h=>h) (λs u F s' j hu af h=> .inl ⟨[],by rw[vw];rfl⟩) ();cases u with
 |nil=>grind
 |cons b t=>
  by_cases d:b=c
  ·exact aT.ok (ba d) aB (hu.ne (d▸aq))
  ·refine aT.shift (aM d) (λz=>aM d) (aT.z_ e hu (ah _ _ hu af aB) (λa r f _ M U g=>aT.ret U g) (λa f _=> .inr ⟨_,rfl⟩) λds w y _ h v i=>?_);subst i;obtain⟨a,rfl⟩:=h (List.cons_ne_nil _ _);exact amp
theorem dv.double(hD:gn D)(aq:rr D):dv Ne (eP D):=λu F hu af ah=>
 have M:=ae.part hD (by simp);have U:lx (cC D none):=lx.part hD (by simp)
 aT.name (aT.aG (ae.qq 34 M U) (NE.qq (by decide) M U).k hu af (dv.qq (by decide) M U (dv.part aq λ_ h=>by cases h) u F hu af ah) λds w y _ h _=>⟨(),by rw[h w rfl];rfl⟩)
theorem dv.pN(hD:gn D)(aq:rr D):dv Ne (cC D (some (eP D))):=dv.part aq λq h=>by grind[dv.double]
theorem dv.param(hD:gn D)(aq:rr D):dv Ne (qp D):=λu F hu af ah=>
 aT.aG (ae.qq 125 (ae.pN hD) (lx.pN hD)) (NE.qq (by decide) (ae.pN hD) (lx.pN hD)).k hu af (dv.qq (by decide) (ae.pN hD) (lx.pN hD) (dv.pN hD aq) u F hu af ah) λds w y _ h _=>⟨(),by rw[h w rfl];rfl⟩
theorem Wf{w:H}(h:m_ w):cR D w ds= .ok () w ds:=by
 cases w with
 |nil=>exact absurd rfl h.1
 |cons b t=>exact amo h.2
theorem Pk{w:H}(h:m_ w):cR D (120::w) ds= .ok () w ds:=(Nv [120] w ds (by decide)).trans (Wf h)
theorem dv.word{D:ab Unit}(hD:gn D)(aq:rr D):dv (qG m_) (cR D):=by
 refine dv.rep (fP.word hD) (λs u F hu af aB=>?_) (λ_ _ _ _ h=>h) (λs u F s' f hu af h=> .inl ⟨[],by rw[vw];rfl⟩) ();have g:=λz=>FV z hu af;cases u with
 |nil=>grind
 |cons b t=>
  by_cases c:cV (b::t)=true
  ·exact aT.ok (ba c) aB af
  ·refine aT.shift (aM c) (λz=>aM (by grind)) (aT.z_ (ae.pN hD) hu (dv.pN hD aq _ _ hu af aB) (λa r d _ M U e=>aT.ret U e) (λa d _=> .inr ⟨_,rfl⟩) λds w y _ h v=>?_);obtain⟨a,rfl⟩:=h v.1;exact⟨(),Wf v⟩
theorem xc{w:H}(h:m_ w):bg (120::w)=some (120::w)/\ar (120::w)= .word [120] true:=⟨jD (by decide) (by decide) (by decide),nV (w:=[120]) (by simp) (by decide) h.2⟩
theorem dv.xR(hD:gn D)(aq:rr D):dv (qG m_) (jP D [120]):=λu F hu af ah=>by
 refine aT.c4 hu af ah (λr Z a Y=>?_) (λw _ v=>?_) (λw y h=>by cases h)
 ·cases h:ar r with
  |eof=>grind[jd]
  |word _ _=>exact dv.word hD aq r F a Z ah
  |_=>exact aT.bad rfl
 ·exact⟨(),(aJ (bL (xc v).1)).trans (by exact Pk v)⟩
theorem Wg{p:Bool}(Y:bg r=some r')(a:ar r'= .word t p):gm tabs r F=wK tabs r' F:=by grind[Dp]
theorem dv.oM(tabs:Bool):dv (qG m_) (gm tabs):=by
 intro u F hu af ah
 have i:∀{d:H},10∉d->(tabs=true->d.head?≠some 9)->eB (F++[(d,tabs)]):=by
  intro d M U e aB;rcases tC.1 aB with h|h
  ·exact ah e h
  grind
 unfold aT;cases Y:bg u with
 |none=>
  rw[Dp,Y];refine⟨i (by decide) (by simp),λw f=>⟨(),?_⟩⟩;rw[List.singleton_append,Wg ((Ha _ u _ (cS _) hu Y (by simp)).trans (xc f).1) (xc f).2];have:dP (120::w)=some ([120],w,[]):=by
   obtain⟨M,U⟩:=f;rw[vx,Jw (by decide)];cases w with
   |nil=>grind
   |cons b t=>simp_all[vx]
  unfold wK;rw[this];simp[f.1]
 |some r=>
  obtain⟨Z,_⟩:=ui [] Y hu af;have j:=hu.sfx (eV Y);have e:=λz=>(ui z Y hu af).2;have n:=λz=>Jk z j Z;cases k:ar r with
  |eof=>grind[jd]
  |word t p=>
   have o:∀z,gm tabs _ F=wK tabs _ F:=λz=>Wg (e z) ((n z).trans k)
   have g:∀y,wK tabs r F=y->gm tabs u F=y:=λy h=>(Wg Y k).trans h
   unfold wK at g;cases aB:dP r with
   |none=>grind
   |some x=>
    obtain⟨d,q,c⟩:=x;rw[aB] at g;by_cases M:d.contains 10=true
    ·grind
    by_cases U:tabs=true/\d.head?=some 9
    ·grind
    have l:=i (by grind) (λh s=>U ⟨h,s⟩)
    have fin:∀w,(c≠[]\/q=[])->m_ w->∃a,gm tabs (u++(c++w)) F= .ok a w (F++[(d,tabs)]):=λw h f=>by rw[o];unfold wK;rw[asX f _ r d q c (cS _) j aB h];simp only;rw[aM M,aM U,aM f.1];simp
    by_cases aq:c≠[]
    ·rw[g _ ((aM M).trans ((aM U).trans (ba aq)))];exact⟨l,λw=>fin w (.inl aq)⟩
    by_cases m:q=[]
    ·rw[g _ ((aM M).trans ((aM U).trans ((aM aq).trans (ba m))))];simp only[Decidable.not_not] at aq;subst aq;exact⟨l,λw=>fin w (.inr m)⟩
    grind
  |_=>grind[Dp]
def kG(w:H):Prop:=∃v,w=10::v\/w=41::v
theorem asZ(t:H):bt (41::t)=[41]:=by rfl
theorem yu(t:H):ar (41::t)= .op [41]/\bg (41::t)=some (41::t):=⟨by rfl,jD (by decide) (by decide) (by decide)⟩
theorem kG.skip{w:H}(h:kG w):bg w=some w:=by
 obtain⟨v,rfl|rfl⟩:=h
 ·simp[FX]
 simp[yu]
theorem kG.tok{w:H}(h:kG w):ar w= .line\/ar w= .op [41]:=by
 obtain⟨v,rfl|rfl⟩:=h
 ·exact .inl rfl
 simp[yu]
theorem kG.iX{w:H}(h:kG w):m_ w:=by
 obtain⟨v,rfl|rfl⟩:=h
 ·exact⟨by simp,xN v⟩
 ·exact⟨by simp,by rfl⟩
theorem KC{w:H}(h:kG w):dM D w ds= .ok false w ds/\gH D w ds= .ok () w ds:=by
 refine Z3 h.skip ?_;obtain⟨v,rfl|rfl⟩:=h
 ·rfl
 rfl
theorem Ee{w:H}(h:kG w):gS fr D w ds= .ok () w ds:=by unfold gS;rw[cL,aJ (KC h).1];simp;rw[aJ (bL h.skip)];rcases h.tok with h|h<;>rw[h]<;>simp[dc,aU]
theorem aT.ite{c:Prop}[Decidable c]{f g:ab α}(hf:c->aT cB f u F)(bk:¬c->aT cB g u F):aT cB (if c then f else g) u F:=by grind
theorem Wh(h:bg u=none):fI u F= .more [] [] F:=by unfold fI;rw[h];rfl
theorem rd_some(h:bg u=some r):fI u F=if fm (bt (r.dropWhile cd)) then .ok (some (bt (r.dropWhile cd))) ((r.dropWhile cd).drop (bt (r.dropWhile cd)).length) F else .ok none r F:=by grind[fI]
theorem c7.Bc:c7 fI:=by
 intro u F a r' c hu af h;cases Y:bg u with
 |none=>grind[Wh]
 |some r=>
  obtain⟨Z,_⟩:=ui [] Y hu af;have b:=hu.sfx (eV Y);rw[rd_some Y] at h;split at h<;>injection h with _ h _
  ·exact h▸FZ Tu Nm (b.sfx Bb) (ZL [] (by decide) b Z).1
  grind
theorem as0{w:H}(h:kG w):fI w ds= .ok none w ds:=by
 rw[rd_some h.skip,aM];obtain⟨v,rfl|rfl⟩:=h
 ·rw[Eh (by decide),m3 (by decide)];decide
 ·rw[Eh (by decide),asZ];decide
theorem dv.Bc:dv (λw ds y=>kG w->y= .ok none w ds) fI:=by
 intro u F hu af ah;unfold aT;cases h:fI u F with
 |ok a r ds=>
  have:=c7.Bc hu af h;cases Y:bg u with
  |none=>grind[Wh]
  |some r=>rw[rd_some Y] at h;grind
 |more op nd ds=>
  cases Y:bg u with
  |some r=>rw[rd_some Y] at h;grind
  |none=>rw[Wh Y] at h;cases h;refine⟨ah,λw b=>?_⟩;rw[ps,rd_some ((Ha _ u w (cS _) hu Y b.iX.1).trans b.skip),<-rd_some b.skip];grind[as0]
 |_=>trivial
theorem dv.gP(hD:gn D)(aq:rr D):dv (qG kG) (dM D):=λu F hu af ah=>by
 refine aT.pn ae.Bc c7.Bc hu af (dv.Bc u F hu af ah) (λo r c _ hu af ah=>?_) λds w y _ h b=>⟨false,by rw[h b];rfl⟩
 ·cases o with
  |none=>grind[aT.ret]
  |some o=>
   have d:ae (if o=[60,60] then gm false else if o=[60,60,45] then gm true else jP D [120]):=ae.ite (ae.oM _) (ae.ite (ae.oM _) (ae.xR hD _));have e:NE (if o=[60,60] then gm false else if o=[60,60,45] then gm true else jP D [120]):=NE.ite (NE.oM _) (NE.ite (NE.oM _) (NE.xR hD _));exact aT.pn d e.k hu af (aT.ite (λ_=>dv.oM _ _ _ hu af ah) λ_=>aT.ite (λ_=>dv.oM _ _ _ hu af ah) λ_=>dv.xR hD aq _ _ hu af ah) (λa r c _ _ h ah=>aT.ret h ah) λds w y _ h b=>by obtain⟨a,rfl⟩:=h b.iX;exact⟨true,rfl⟩
theorem dv.l4(hD:gn D)(aq:rr D):dv (qG kG) (gH D):=by
 have bk:=ZP hD;refine dv.rep bk (λs u F hu af ah=>?_) (λ_ _ _ _ h=>h) (λs u F s' d hu af h=>absurd rfl (c7.N (ae.gP hD) (c7.gP hD) (λb=>c7.ret _) hu af h)) ();refine aT.pn (ae.gP hD) (c7.gP hD) hu af (dv.gP hD aq _ _ hu af ah) (λa r e _ _ h ah=>aT.ret h ah) λds w y _ h c=>?_;obtain⟨a,rfl⟩:=h c;cases a
 ·exact⟨(),rfl⟩
 ·exact⟨(),(KC c).2⟩
theorem dv.simple(hD:gn D)(aq:rr D)(fr:Bool):dv (qG kG) (gS fr D):=by
 have bk:=ZQ hD fr;refine dv.rep bk (λs u F hu af ah=>?_) (λ_ _ _ _ h=>h) (λs u F s' f hu af h=>?_) ()
 ·refine aT.pn (ae.gP hD) (c7.gP hD) hu af (dv.gP hD aq _ _ hu af ah) (λa r e _ hu h ah=>aT.ite (λ_=>aT.ret h ah) λ_=>?_) λds w y _ h c=>?_
  ·refine aT.Hc hu h ah (λr Z d Y=>?_) (λw _ c=>?_) (λy c=>absurd rfl c.iX.1)
   ·cases ar r with
    |word _ _=>
     exact aT.pn (ae.word hD) (NE.word hD).k d Z (dv.word hD aq _ _ d Z ah) (λa r e _ _ h ah=>aT.ret h ah) λds w y _ h c=>by obtain⟨a,rfl⟩:=h c.iX;exact⟨(),Ee c⟩
    |op o=>exact aT.ite (λ_=>aT.bad rfl) λ_=>aT.ret Z ah
    |_=>grind[aT.ret]
   ·rw[aJ (bL c.skip)];rcases c.tok with h|h<;>rw[h]<;>simp[qH,aU]
  ·obtain⟨a,rfl⟩:=h c;refine⟨(),?_⟩;cases a
   ·show qH _ (N _ _ w ds)=_;rw[aJ (bL c.skip)];rcases c.tok with h|h<;>rw[h]<;>simp[qH,aU]
   ·exact Ee c
 ·refine absurd rfl (c7.N (ae.gP hD) (c7.gP hD) (λb=>c7.ite (c7.ret _) (c7.N (ae.c4 _) (c7.c4 _) λt=>?_)) hu af h);cases t with
  |word _ _=>exact c7.N (ae.word hD) (NE.word hD).k λ_=>c7.ret _
  |op o=>exact c7.ite NE.bad.k (c7.ret _)
  |_=>simp[c7.ret]
structure xd(f:ab Unit):Prop where
 ex:ae f
 ne:NE f
 cA:dv (qG kG) f
 x:∀{w:H}{ds:ag},kG w->f (120::w) ds= .ok () w ds
 z:∀ds:ag,∃op,f [] ds= .more op [120] ds
theorem mF.w9{w:H}(h:m_ w):mF (120::w) ds (120::w) ds:=⟨by simp,by grind[xc],.inl ⟨(xc h).1,rfl⟩⟩
section
variable{c2:ab Unit}(aq:xd c2){p:Tok->Bool}(ah:∀t,p t=true->∃o,t= .op o/\n=o.length)(Bq:p .line=false/\p (.op [41])=false/\p .eof=false)
include Bq in
theorem Hd{w:H}(h:kG w):oW p n c2 w ds= .ok () w ds:=by unfold oW;rw[cL,aJ (bL h.skip)];rcases h.tok with h|h<;>rw[h]<;>simp[Bq,dc,aU]
include aq ah Bq
theorem aet:dv (qG kG) (oW p n c2)/\c7 (oW p n c2):=by
 have az:ae (N (cQ.aG [120]) λ_=>N c2 λ_=>aU (.inl ()):ab (Unit⊕Unit)):=(ae.lines.aG _).N λ_=>aq.ex.N λ_=>ae.ret _;have k:NE (N (cQ.aG [120]) λ_=>N c2 λ_=>aU (.inl ()):ab (Unit⊕Unit)):=NE.kj (ae.lines.aG _) λ_=>NE.od aq.ex aq.ne λ_=>c7.ret _;have bk:fP (λ(_:Unit)=>N (bN []) λt=>if p t=true then N (bV n) λ_=>N (cQ.aG [120]) λ_=>N c2 λ_=>aU (.inl ()) else aU (.inr ())):=by
  refine⟨λ_=>(ae.c4 _).N λt=>ae.ite ((ae.cM _).N λ_=>az) (ae.ret _),λ{s r F s' r' l} h=>?_⟩;obtain⟨t,an,e,M,U⟩:=bW h;obtain⟨m,rfl,rfl⟩:=nr M;have:=(eV m).length_le;split at U
  ·next q=>
   obtain⟨o,f,i⟩:=ah _ q;obtain⟨A,B,C,D⟩:=ib f;obtain⟨_,E,G,v,x⟩:=bW U;cases v;have:=(az.sfx x).length_le;grind[List.length_pos_iff]
  ·cases U
 have j:c7 (N (bN []) λt=>if p t=true then N (bV n) _ else aU (.inr ()):ab (Unit⊕Unit)):=
  c7.N (ae.c4 _) (c7.c4 _) λt=>c7.ite (NE.kj (ae.cM _) λ_=>k).k (c7.ret _)
 refine⟨dv.rep bk (λs u F hu af aB=>?_) (λ_ _ _ _ h=>h) (λs u F s' l hu af h=>absurd rfl (j hu af h)) (),c7.rep bk (λ_=>j) ()⟩;refine aT.Hc hu af aB (λr Z g Y=>aT.ite (λz=>?_) λ_=>aT.ret Z aB) (λw _ c=>?_) (λy c=>absurd rfl c.iX.1)
 ·obtain⟨o,f,i⟩:=ah _ z;have d:=te f i g;refine aT.cM d (aT.N ae.lines (g.sfx (iI _ _)) (dv.lines _ _ (g.sfx (iI _ _)) d aB) (λa r e _ hu af ah=>?_) (λa e _=>?_) λds w y _ h c=>?_)
  ·exact aT.pn aq.ex aq.ne.k hu af (aq.cA _ _ hu af ah) (λa r e _ _ h ah=>aT.ret h ah) λds w y _ h c=>by obtain⟨a,rfl⟩:=h c;exact⟨(),Hd Bq c⟩
  ·obtain⟨op,h⟩:=aq.z e;exact .inl ⟨op,dx h⟩
  ·obtain⟨b,rfl⟩:=h _ _ (mF.w9 c.iX);refine⟨(),?_⟩;show qH _ (N c2 _ (120::w) ds)=_;rw[aJ (aq.x c)];exact Hd Bq c
 ·rw[aJ (bL c.skip)];rcases c.tok with h|h<;>rw[h]<;>simp[qH,aU,Bq]
end
theorem xd.pipe{c2:ab Unit}(aq:xd c2):xd (fv c2):=by
 have f:=aet aq (λt g=>⟨[124],KO g,rfl⟩) (by decide)
 have e:∀{w:H}{ds:ag},kG w->fv c2 _ ds= .ok () w ds:=λ{w ds} b=>by obtain⟨M,U⟩:=xc b.iX;rw[DX,aJ (bL M),U];show N c2 _ _ ds=_;rw[aJ (aq.x b)];exact Hd (by decide) b
 refine⟨ae.pipe aq.ex,NE.pipe aq.ex aq.ne,λu F hu af ah=>?_,e,λds=>?_⟩
 ·have c:∀{r:H},cx r->r≠[]->aT _ _ r F:=λ{r} hu af=>
   aT.pn aq.ex aq.ne.k hu af (aq.cA _ _ hu af ah) (λa r j _ M U i=>f.1 _ _ M U i) λds w y _ h b=>by obtain⟨a,rfl⟩:=h b;exact⟨(),Hd (by decide) b⟩
  rw[DX];refine aT.c4 hu af ah (λr Z d Y=>?_) (λw _ b=>⟨(),?_⟩) (λw y h=>by cases h)
  ·by_cases h:cm (ar r) [33]=true
   ·rw[ba h];have:=Be h rfl d;exact aT.cM this (c (d.sfx (iI _ _)) this)
   ·rw[aM h];exact aT.shift rfl (λz=>rfl) (c d Z)
  ·rw[<-DX];exact e b
 ·obtain⟨op,h⟩:=aq.z ds;rw[DX,aJ (bL mj)];exact⟨op,dx (m:=c2) h⟩
theorem xd.oc{c:ab Unit}(aq:xd c):xd (hR c):=by
 have d:=aet aq (p:=pV) (n:=2) (λt e=>by
  simp only[pV,PC] at e
  grind) (by decide)
 refine⟨ae.oc aq.ex,NE.oc aq.ex aq.ne,λu F hu af ah=>?_,λ{w ds} b=>?_,λds=>?_⟩<;>rw[OI]
 ·exact aT.pn aq.ex aq.ne.k hu af (aq.cA _ _ hu af ah) (λa r g _ M U f=>d.1 _ _ M U f) λds w y _ h b=>by obtain⟨a,rfl⟩:=h b;exact⟨(),Hd (by decide) b⟩
 ·rw[aJ (aq.x b)];exact Hd (by decide) b
 ·obtain⟨op,h⟩:=aq.z ds;grind[dx]
def Ls(c:Ctx):j2 Nat:=λw ds y=>kG w->∀z a,mF w ds z a->dC c (ar z)=true->∃k,y= .ok k z a
theorem mF.skip{w z:H}{a:ag}(h:mF w ds z a):bg z=some z:=by rcases h.2.2 with⟨h,_⟩|⟨_,_,h,_⟩<;>exact lz _ _ _ (cS _) h
theorem KD{w z:H}{a:ag}(aB:eB ds)(h:mF w ds z a):∃b,cQ w ds= .ok b z a:=uo▸We false aB h
theorem Pl{z:H}(Y:bg z=some z)(he:dC c (ar z)=true)(af:(no||decide (n>0))=true):cD (fw cX c no) n z ds= .ok n z ds:=by
 rw[cL];by_cases h:ar z= .eof
 ·have:=jd.1 h;subst this;have:c= .text:=by cases c<;>simp[dC,ar,cm] at he;rfl
  rw[Tx,ba this];rfl
 ·rw[ZS Y h he af];rfl
section
variable(aq:xd cX)
theorem Wi{w z:H}{a:ag}(bk:fP (fw cX c no))(d:kG w)(aB:eB ds)(h:mF w ds z a)(he:dC c (ar z)=true):∃k,qH (fw cX c no) (N (bN []) (jB c n) w ds)= .ok k z a:=by
 rw[aJ (bL d.skip)];obtain⟨v,rfl|rfl⟩:=d
 ·obtain⟨b,e⟩:=KD aB h;refine⟨n+1,?_⟩;show qH _ (N cQ _ _ _)=_;rw[aJ e];exact Pl h.skip he (by simp)
 ·have:z=41::v/\a=ds:=by
   rcases h.2.2 with⟨M,rfl⟩|⟨_,h,_⟩
   ·simp_all[yu]
   grind
  obtain⟨rfl,rfl⟩:=this;rw[(yu v).1] at he⊢;refine⟨n+1,?_⟩;unfold jB;rw[ba he];rfl
include aq
theorem as1{w z:H}{a:ag}(aB:eB ds)(h:mF w ds z a)(he:dC c (ar z)=true):∃k,np cX c true w ds= .ok k z a:=by obtain⟨b,d⟩:=KD aB h;rw[td,aJ (hn.2 d)];exact⟨0,Pl h.skip he rfl⟩
theorem aev{w z:H}{a:ag}(b:kG w)(aB:eB ds)(h:mF w ds z a)(he:dC c (ar z)=true):∃k,cD (fw cX c no) 0 (120::w) ds= .ok k z a:=by have bk:=fP.round aq.ex c no;obtain⟨M,U⟩:=xc b.iX;rw[rq bk,Nr M (by grind) (by rw[U];cases c<;>decide),aJ (aq.x b)];simp_all[Wi]
theorem as2{w z:H}{a:ag}(b:kG w)(aB:eB ds)(h:mF w ds z a)(he:dC c (ar z)=true):∃k,np cX c no (32::120::w) ds= .ok k z a:=by obtain⟨M,U⟩:=xc b.iX;rw[td,aJ (hn.2 (oe ((j9 _).trans M) (by grind)))];simp_all[aev]
theorem dv.list(h0:c= .text->no=true):dv (Ls c) (np cX c no):=by
 have bk:=fP.round aq.ex c no;have j:∀{n:Nat}{r:H}{F:ag},cx r->r≠[]->eB F->aT (λw ds y=>kG w->∀z f,mF w ds z f->dC c (ar z)=true->∃k,qH (fw cX c no) y= .ok k z f) (N cQ λ_=>aU (.inl (n+1))) r F:=λ{n r F} hu af ah=>
  aT.z_ ae.lines hu (dv.lines _ _ hu af ah) (λ_ _ _ _ _ h ah=>aT.ret h ah) (λ_ _ _=> .inr ⟨_,rfl⟩) λds w y aB h d z f e he=>by obtain⟨b,rfl⟩:=h z f e;exact⟨_,Pl e.skip he (by simp)⟩
 have Z:∀(n:Nat)(u:H)(F:ag),cx u->u≠[]->bg u=some u->eB F->aT (Ls c) (cD (fw cX c no) n) u F:=by
  intro n u F hu af Y ah;refine aT.rep (λu=>bg u=some u) bk (λs u F hu af Y ah=>?_) (λs u F s' r l hu h Z=>?_) (λ_ _ _ _ h=>h) (λs u F s' l hu af h=>?_) _ n u F (Nat.le_refl _) hu af Y ah
  ·refine aT.BR hu af Y (aT.ite (λh=>absurd (jd.1 h) af) λ_=>aT.ite (λ_=>aT.ret af ah) λ_=>aT.pn aq.ex aq.ne.k hu af (aq.cA _ _ hu af ah) (λa r g _ hu af ah=>?_) λds w y aB h d z f e he=>?_)
   ·refine aT.Hc hu af ah (λr Z i Y=>?_) (λw _ d z f e he=>Wi bk d ah e he) (λy d=>absurd rfl d.iX.1);cases h:ar r with
    |eof=>grind[jd]
    |line=>exact j i Z ah
    |word _ _=>exact aT.bad rfl
    |op o=>refine aT.ite (λp=>?_) λ_=>aT.ite (λ_=>aT.ret Z ah) λ_=>aT.bad rfl;have:=te h (show 1=o.length by grind) i;exact aT.cM this (j (i.sfx (iI _ _)) this ah)
   ·obtain⟨a,rfl⟩:=h d;exact Wi bk d aB e he
  ·exact(Tz aq.ex aq.ne hu h).2.1
  ·obtain⟨rfl,_⟩:=Tz aq.ex aq.ne hu h;rw[cL,Tx];by_cases aq:c= .text
   ·rw[ba aq];exact .inr ⟨_,rfl⟩
   ·rw[aM aq,show(no||decide _)=true by simp];exact .inl ⟨[],rfl⟩
 rw[td];intro u F hu af ah;refine aT.N ae.lines hu (dv.lines u F hu af ah) (λa r g h M U m=>Z 0 r g M U (Bf h) m) (λa g _=>?_) (λds w y aB h d z f e he=>?_)
 ·rw[cL,Tx];by_cases aq:c= .text
  ·rw[ba aq,h0 aq];exact .inr ⟨rfl,_,rfl⟩
  ·rw[aM aq];cases no<;>exact .inl ⟨[],rfl⟩
 ·cases no with
  |true=>obtain⟨b,rfl⟩:=h z f e;exact⟨0,Pl e.skip he rfl⟩
  |false=>obtain⟨b,rfl⟩:=h _ _ (mF.w9 d.iX);exact aev aq d aB e he
end
structure na(l:dD):Prop where
 r9:uj l
 aew:Jt l
 cA:∀c no,(c= .text->no=true)->dv (Ls c) (l.ls c no)
 x:∀{c no}{w z:H}{ds er:ag},kG w->eB ds->mF w ds z er->dC c (ar z)=true->∃k,l.ls c no (32::120::w) ds= .ok k z er
 z:∀{c}{w z:H}{ds er:ag},eB ds->mF w ds z er->dC c (ar z)=true->∃k,l.ls c true w ds= .ok k z er
 post:∀{c no u F k r aE},c≠ .text->l.ls c no u F= .ok k r aE->bg r=some r/\dC c (ar r)=true
 pm:dv Ne l.pm
 cp:∀{t u F},cx u->eB F->ar u=t->fJ t=true->aT (qG m_) (l.cp t) u F
 rd:dv (qG kG) l.rd
 aex:∀{w ds},kG w->l.rd w ds= .ok () w ds
 dl:rr l.dl
 bH:l.has=true->∀{w ds},eB ds->m_ w->l.cp (.word [123] true) (123::32::120::10::(fl ds++125::w)) ds= .ok () w []
def yw{α β:Type}(g:dn α->dn β):j2 α:=λw ds y=>m_ w->∃a,g y= .ok a w ds
theorem aT.exp{cB:j2 Unit}{b:Tok->Bool}(hu:cx u)(af:u≠[])(Y:bg u=some u)(ah:eB F)(h:b (ar u)=true->u.drop n≠[]):aT cB (mL b n) u F:=
 aT.BR hu af Y (aT.ite (λh=>absurd (jd.1 h) af) λ_=>aT.ite (λM=>aT.ok rfl ah (h M)) λ_=>aT.bad rfl)
theorem aT.res{cB:j2 Unit}{w:H}(hu:cx u)(af:u≠[])(Y:bg u=some u)(ah:eB F):aT cB (cI w) u F:=aT.exp hu af Y ah λh=>Be h rfl hu
theorem aT.Wj{k:Unit->ab α}{w:H}(hu:cx u)(af:u≠[])(Y:bg u=some u)(ah:eB F)(az:∀r a,cx r->r≠[]->eB a->aT cB (k ()) r a):aT cB (Eng.N (cI w) k) u F:=
 aT.pn (Fm:=λ_ _ _=>False) (ae.res _) (NE.res _).k hu af (aT.res hu af Y ah) (λ_ r a _ M U b=>az r a M U b) λ_ _ _ _ h=>h.elim
theorem as3{w:H}:jr [41] (41::w) ds= .ok () w ds:=by unfold jr mL;rw[aJ (bL (yu w).2)];rfl
theorem Pm(aq:c≠ .text)(h:dC c (ar r)=true):r≠[]:=by rintro rfl;cases c<;>simp[dC,ar,cm] at h aq
theorem mF.k{z:H}(Y:bg z=some z)(h:ar z≠ .line):mF (10::(fl ds++z)) ds z []:=⟨by simp,h,.inr ⟨z,rfl,Y,rfl⟩⟩
theorem par{m:ab Nat}(d:ae m)(hu:cx u)(af:u≠[])(hm:aT (Ls .paren) m u F)(b:∀{u F k r c},m u F= .ok k r c->bg r=some r/\dC .paren (ar r)=true):aT Ne (N (m.aG [41]) λ_=>jr [41]) u F:=by refine aT.Hb d (λu F a r c _ _ h=>Pm (by decide) (b h).2) hu af hm (λa r f h M U e=>aT.exp M U (b h).1 e λg=>te (by grind) rfl M) λds w y _ h _=>?_;obtain⟨k,rfl⟩:=h ⟨w,.inr rfl⟩ _ _ ⟨by simp_all,by simp[yu],.inl ⟨(yu w).2,rfl⟩⟩ (by rfl);exact⟨(),as3⟩
theorem as4{m:ab Nat}{n:H}(h:aT (Ls c) m u F):aT (Ls c) (m.named n) u F:=aT.named h λw ds op nd a=>by grind[Ls]
theorem aez(h:∀l∈lo,na l):rr (dj lo):=by
 intro u F hu ah c;have af:u≠[]:=by grind[fD]
 have e:∀(o:H)(z:H),10∉o->o.isPrefixOf _=o.isPrefixOf u:=λo z h=>Th z h hu af
 have aB:∀o:H,10∉o->o.isPrefixOf u=true->u.drop o.length≠[]:=λo h M=>FZ h (BV.1 M) hu af
 have Y:=λn=>hu.sfx (iI n u);by_cases M:[36,40,40].isPrefixOf u=true
 ·refine aT.shift (ba M) (λz=>ba ((e _ z (by decide)).trans M)) (aT.cM (aB _ (by decide) M) ?_);have d:=Y 3;generalize u.drop 3=t at d;unfold aT Eng.oK;cases i:ij 0 t with
  |ok r=>grind[Pj]
  |more n=>exact⟨ah,λw _=>⟨(),by grind[Ph]⟩⟩
  |bad r=>trivial
 have b:∀z,¬[36,40,40].isPrefixOf (u++z)=true:=λz=>by grind
 by_cases U:[36,40].isPrefixOf u=true
 ·refine aT.shift ((aM M).trans (ba U)) (λz=>(aM (b z)).trans (ba ((e _ z (by decide)).trans U))) ?_;cases lo with
  |none=>exact aT.deep rfl
  |some l=>
   have aw:=h l rfl;refine aT.cM (k:=λ_=>uh l) (aB _ (by decide) U) ?_;have:=par (m:=(l.ls .paren true).named [36,40]) ((aw.r9.ls _ _).named _) (Y 2) (aB _ (by decide) U) (as4 (aw.cA _ _ (by simp) _ _ (Y 2) (aB _ (by decide) U) ah)) (λh=>aw.post (by decide) (FW.1 h));have f:((l.ls .paren true).named [36,40]).aG [41]=((l.ls .paren true).aG [41]).named [36,40]:=by grind[ab.aG,ab.named]
   rw[f] at this;exact this
 have g:∀z,¬[36,40].isPrefixOf (u++z)=true:=λz=>by grind
 have a:[36,123].isPrefixOf u=true:=by unfold fD at c;grind
 refine aT.shift ((aM M).trans ((aM U).trans (ba a))) (λz=>(aM (b z)).trans ((aM (g z)).trans (ba ((e _ z (by decide)).trans a)))) ?_;cases lo with
 |none=>exact aT.deep rfl
 |some l=>exact aT.cM (k:=λ_=>l.pm.named _) (aB _ (by decide) a) (aT.name ((h l rfl).pm _ _ (Y 2) (aB _ (by decide) a) ah))
abbrev ln(kw:H):Prop:=kw≠[]/\kw.all qt=true/\kw.head?≠some 35
theorem ln.tok{kw w:H}(h:ln kw)(a:cV w=true):ar (kw++w)= .word kw true/\bg (kw++w)=some (kw++w):=mE h.1 h.2.1 h.2.2 a
theorem ln.res{kw w:H}(h:ln kw)(a:cV w=true):cI kw (kw++w) ds= .ok () w ds:=q9 h.1 h.2.1 h.2.2 a
theorem ln.Ef{kw w:H}(h:ln kw)(a:cV w=true):mF (10::(fl ds++(kw++w))) ds (kw++w) []:=mF.k (h.tok a).2 (by rw[(h.tok a).1];simp)
section
variable{l:dD}(aw:na l)
theorem na.seq(aw:na l){u:H}{F:ag}{kw:H}{β:Type}{g:dn α->dn β}{k:ab α}(hu:cx u)(af:u≠[])(ah:eB F)(aq:c≠ .text)(az:ln kw)(he:dC c (.word kw true)=true)(i:∀w,m_ w->cV (x++w)=true)
  (M:∀r d,cx r->r≠[]->eB d->bg r=some r->aT (yw g) k r d) (U:∀w,m_ w->∃a,g (k (kw++(x++w)) [])= .ok a w []):aT (yw g) (N ((l.ls c no).aG (10::(kw++x))) λ_=>k) u F:=by
 refine aT.Hb (aw.r9.ls _ _) (λu F a r o _ _ h=>Pm aq (aw.post aq h).2) hu af (aw.cA c no (λh=>absurd h aq) _ _ hu af ah) (λa r d h j m n=>M r d j m n (aw.post aq h).1) λds w y aB h f=>?_;have b:=i w f;have e:(b8 [] ds (10::(kw++x))).1++w=10::(fl ds++(kw++(x++w))):=by rw[Ed];simp
 rw[e] at h;obtain⟨a,rfl⟩:=h ⟨_,.inl rfl⟩ _ _ (az.Ef b) (by rw[(az.tok b).1];exact he);rw[Ed];exact U w f
theorem na.Wk(aw:na l){kw w:H}(aB:eB ds)(az:ln kw)(he:dC c (.word kw true)=true)(a:cV w=true):∃k,l.ls c no (32::120::10::(fl ds++(kw++w))) ds= .ok k (kw++w) []:=
 aw.x ⟨_,.inl rfl⟩ aB (az.Ef a) (by rw[(az.tok a).1];exact he)
theorem na.body(aw:na l){u:H}{F:ag}(hu:cx u)(af:u≠[])(Y:bg u=some u)(ah:eB F):aT (yw id) (h3 l dY) u F:=by refine aT.Hb (Fm:=λ_ _ _=>False) (ae.res _) (NE.res _).k hu af (aT.res hu af Y ah) (λ_ r a _ hu af ah=>?_) λ_ _ _ _ h=>h.elim;exact aw.seq (kw:=hc) hu af ah (by decide) (by decide) (by decide) (λw h=>h.2) (λr a M U b c=>aT.res M U c b) λw h=>⟨(),ln.res (by decide) h.2⟩
theorem na.Wl(aw:na l){w:H}(a:m_ w):h3 l dY (gd++([32,120,10]++(hc++w))) []= .ok () w []:=by obtain⟨k,h⟩:=aw.Wk (c:= .done) (kw:=hc) eB.nil (by decide) (by decide) a.2;unfold h3;rw[show [32,120,10]++(hc++w)=32::120::10::(fl []++(hc++w)) from rfl,aJ (hn.2 (ln.res (by decide) (mN _))),aJ (hn.2 h)];exact ln.res (by decide) a.2
def Pn(l:dD):ab (Unit⊕Unit):=N (bN []) λt=>if cm t h_ then N (cI h_) λ_=>aU (.inl ()) else
 if cm t gy then N (cI gy) λ_=>N ((l.ls .ko false).aG (10::ea)) λ_=>N (cI ea) λ_=>aU (.inr ()) else N (cI ea) λ_=>aU (.inr ())
def aeB(l:dD):ab (Unit⊕Unit):=N (cI hQ) λ_=>N ((l.ls .pL false).aG (10::(ea++[]))) λ_=>Pn l
def as5(l:dD):ab (Unit⊕Unit):=N ((l.ls .rT false).aG (10::(hQ++([32,120,10]++ea)))) λ_=>aeB l
theorem aeC{w:H}(a:m_ w):Pn l (ea++w) ds= .ok (.inr ()) w ds:=by obtain⟨b,c⟩:=ln.tok (kw:=ea) (by decide) a.2;unfold Pn;rw[aJ (bL c),b,aM (by decide),aM (by decide),aJ (ln.res (by decide) a.2)];rfl
theorem as6(aw:na l):c7 (as5 l):=by
 have Z:∀w (x:Unit⊕Unit),NE (N (cI w) λ_=>aU x):=λw x=>NE.od (ae.res _) (NE.res _) λ_=>c7.ret _
 refine NE.k (NE.kj ((aw.r9.ls _ _).aG _) λ_=>NE.kj (ae.res _) λ_=>NE.od ((aw.r9.ls _ _).aG _) (NE.aG (λu F a r b _ h=>Pm (by decide) (aw.post (by decide) h).2) _) λ_=>c7.N (ae.c4 _) (c7.c4 _) λt=>?_);exact c7.ite (Z _ _).k (c7.ite (NE.k (NE.kj (ae.res _) λ_=>NE.kj ((aw.r9.ls _ _).aG _) λ_=>Z _ _)) (Z _ _).k)
theorem as7(aw:na l){g:dn (Unit⊕Unit)->dn Unit}(bk:∀w,g (.ok (.inr ()) w [])= .ok () w []){u:H}{F:ag}(hu:cx u)(af:u≠[])(Y:bg u=some u)(ah:eB F):aT (yw g) (Pn l) u F:=by
 have Z:∀w (x:Unit⊕Unit) {u:H} {F:ag},cx u->u≠[]->bg u=some u->eB F->aT (yw g) (N (cI w) λ_=>aU x) u F:=λw x u F hu af Y ah=>aT.Wj hu af Y ah λr b _ U a=>aT.ret U a
 refine aT.BR hu af Y (aT.ite (λ_=>Z _ _ hu af Y ah) λ_=>aT.ite (λ_=>aT.Wj hu af Y ah λr b M U a=>?_) λ_=>Z _ _ hu af Y ah);exact aw.seq (kw:=ea) M U a (by decide) (by decide) (by decide) (λw h=>h.2) (λr b M U a c=>Z _ _ M U c a) λw d=>⟨(),by rw[ps,aJ (ln.res (by decide) d.2)];exact bk w⟩
theorem na.cond(aw:na l):dv (yw id) (q4 l):=by
 refine dv.rep (Tv aw.r9) (λs u F hu af ah=>?_) (λ_ _ _ _ h=>h) (λs u F s' g hu af h=>absurd rfl (as6 aw hu af h)) ();refine aw.seq (kw:=hQ) hu af ah (by decide) (by decide) (by decide) (λw h=>mN _) (λr f M U a d=>aT.Wj M U d a λr f M U a=>?_) λw b=>?_
 ·exact aw.seq (x:=[]) M U a (by decide) (by decide) (by decide) (λw h=>h.2) (λr f M U a d=>as7 aw (λ_=>rfl) M U d a) λw b=>⟨(),k2 (qH _) (aeC b)⟩
 ·obtain⟨k,h⟩:=aw.Wk (c:= .pL) (kw:=ea) eB.nil (by decide) (by decide) b.2;have e:aeB l _ []= .ok _ w []:=(aJ (ln.res (by decide) (mN _))).trans ((aJ (hn.2 h)).trans (aeC b));exact⟨(),k2 (qH _) e⟩
end
theorem dv.words(hD:gn D)(aq:rr D):dv (λw ds y=>∀v,w=10::v->y= .ok () w ds) (oL D):=by
 have Y:∀{v:H}{ds:ag},oL D _ ds= .ok () (10::v) ds:=λ{v ds}=>by unfold oL;rw[cL,aJ (bL (FX _))];rfl
 have bk:fP (λ(_:Unit)=>N (bN []) λt=>match t with
  | .eof=>b5 []
  | .word _ _=>N (cR D) λ_=>aU (.inl ())
  | .line=>aU (.inr ())
  | .op o=>if o=[59] then N (bV 1) λ_=>aU (.inr ()) else b6):=by
  refine fP.of (λ_=>ae.gf (λt d=>?_) (ae.b5 _)) (λ_=>fW.Jo hD (λt d b=>?_) (iR.more _) λw p=>⟨cR D,_,rfl,Iff.rfl,λ_=>ae.ret _⟩) λ_=>iR.c4 (iR.more _)
  ·cases t with
   |eof=>grind
   |word w p=>exact((ae.word hD).N λ_=>ae.ret _)
   |line=>simp[ae.ret]
   |op o=>exact ae.ite ((ae.cM _).N λ_=>ae.ret _) ae.n_
  ·cases t with
   |eof=>grind
   |word w p=>grind
   |line=>simp[fW.inr]
   |op o=>exact fW.ite (by intro r F s r' f Z e;cases e) fW.bad
 refine dv.rep bk (λs u F hu af ah=>?_) (λ_ _ _ _ h=>h) (λs u F s' f hu af h=> .inl ⟨[],?_⟩) ()
 ·refine aT.Hc hu af ah (λr Z c _=>?_) (λw _ v b=>?_) (λy v h=>by cases h)
  ·cases h:ar r with
   |eof=>grind[jd]
   |line=>grind[aT.ret]
   |word _ _=>
    exact aT.pn (ae.word hD) (NE.word hD).k c Z (dv.word hD aq _ _ c Z ah) (λ_ _ _ _ _ h ah=>aT.ret h ah) λds w y _ h v b=>by subst b;obtain⟨a,rfl⟩:=h (kG.iX ⟨v,.inl rfl⟩);exact Y
   |op o=>exact aT.ite (λM=>aT.cM (te h (M▸rfl) c) (aT.ret (te h (M▸rfl) c) ah)) λ_=>aT.bad rfl
  ·subst b;rw[aJ (bL (FX _))];rfl
 ·rw[cL,aJ (bL mj)];rfl
def He(D:ab Unit):ab Unit:=N (bN []) λt=>if cm t eb then N (bV 2) λ_=>N (oL D) λ_=>N cQ λ_=>aU () else aU ()
def Hf(D:ab Unit):ab Unit:=N (bN []) λt=>if t= .op [59] then N (bV 1) λ_=>N cQ λ_=>aU () else N cQ λ_=>He D
def aeD:j2 Unit:=λw ds y=>∀v z b,w=10::v->mF w ds z b->cm (ar z) eb=false->∃a,y= .ok a z b
section
variable(hD:gn D)(aq:rr D)
theorem as8{w z:H}{a:ag}(aB:eB ds)(h:mF w ds z a)(he:cm (ar z) eb=false):N cQ (λ_=>He D) w ds= .ok () z a:=by obtain⟨b,c⟩:=KD aB h;rw[aJ c];unfold He;rw[aJ (bL h.skip),he];rfl
theorem aeE{v z:H}{a:ag}(aB:eB ds)(h:mF (10::v) ds z a)(he:cm (ar z) eb=false):Hf D (10::v) ds= .ok () z a:=by unfold Hf;rw[aJ (bL (FX v)),aM (by simp[ar]),as8 aB h he]
theorem aeF(hu:cx u)(af:u≠[])(ah:eB F):aT aeD (N cQ λ_=>aU ()) u F:=
 aT.z_ ae.lines hu (dv.lines _ _ hu af ah) (λ_ _ _ _ _ h ah=>aT.ret h ah) (λ_ _ _=> .inr ⟨_,rfl⟩) λds w y _ h v z a _ c _=>by obtain⟨b,rfl⟩:=h z a c;exact⟨(),rfl⟩
include hD aq
theorem as9:dv aeD (Hf D):=λu F hu af ah=>by
 refine aT.Hc hu af ah (λr Z e Y=>aT.ite (λh=>?_) λ_=>?_) (λw _ v z d f c he=>?_) (λy v z d h=>by cases h)
 ·have:=te h rfl e;exact aT.cM this (aeF (e.sfx (iI _ _)) this ah)
 ·refine aT.z_ ae.lines e (dv.lines _ _ e Z ah) (λ_ r g M hu af ah=>aT.BR hu af (Bf M) (aT.ite (λh=>?_) λ_=>aT.ret af ah)) (λa g _=> .inr ⟨(),?_⟩) λds w y aB h v z d f c he=>?_
  ·have:=Be h rfl hu;have i:=hu.sfx (iI 2 r);refine aT.cM this (aT.z_ (ae.words hD) i (dv.words hD aq _ _ i this ah) (λ_ r g _ hu af ah=>aeF hu af ah) (λa g _=> .inr ⟨(),?_⟩) λds w y aB h v z d f c he=>?_)
   ·rw[aJ (oe mj (by decide))];rfl
   ·rw[h v f];obtain⟨b,j⟩:=KD aB c;exact⟨(),aJ j⟩
  ·unfold He;rw[aJ (bL mj)];rfl
  ·obtain⟨b,rfl⟩:=h z d c;refine⟨(),?_⟩;show He D z d=_;unfold He;rw[aJ (bL c.skip),he];rfl
 ·subst f;exact⟨(),aeE ah c he⟩
omit aq in
theorem as_:ae (Hf D):=(ae.c4 _).N λt=>ae.ite ((ae.cM _).N λ_=>ae.lines.N λ_=>ae.ret _) (ae.lines.N λ_=>(ae.c4 _).N λt=>ae.ite ((ae.cM _).N λ_=>(ae.words hD).N λ_=>ae.lines.N λ_=>ae.ret _) (ae.ret _))
omit hD aq in
theorem ata{b:ag}{a:Unit}(h:Hf D u F= .ok a r b):bg r=some r:=by
 have aw:∀{u:H}{F:ag},N cQ (λ_=>aU ()) u F= .ok a r b->bg r=some r:=λh=>by obtain⟨_,_,_,M,h⟩:=bW h;cases h;grind[Bf]
 obtain⟨t,an,e,_,h⟩:=bW h;split at h
 ·obtain⟨_,_,_,_,h⟩:=bW h;grind
 ·obtain⟨_,_,_,_,h⟩:=bW h;obtain⟨t,f,i,c,g⟩:=bW h;obtain⟨d,rfl,rfl⟩:=nr c;split at g
  ·obtain⟨_,_,_,_,g⟩:=bW g;obtain⟨_,_,_,_,g⟩:=bW g;grind
  ·cases g;exact lz _ _ _ (cS _) d
end
theorem Po(h:b≠10):b8 [] ds (b::x)=(b::(b8 [] ds x).1,(b8 [] ds x).2):=by rw[b8,aM h,KA];rfl
theorem atb{w:H}:cI w [] F= .more [] [] F:=by unfold cI mL;rw[aJ (bL mj)];rfl
theorem na.for_{l:dD}(aw:na l)(hD:gn D)(aq:rr D):dv (yw id) (pM l D):=λu F hu af ah=>by
 have fin:∀{w:H}{ds:ag},m_ w->eB ds->N ((Hf D).aG dY) (λ_=>h3 l dY) _ ds= .ok () w []:=λ{w ds} b aB=>by
  have az:ln gd:=by decide
  rw[aJ (hn.2 (aeE aB (az.Ef (mN _)) (by rfl)))];exact aw.Wl b
 refine aT.c4 hu af ah (λr Z c Y=>?_) (λw _ b=>?_) (λw y h=>by cases h)
 ·cases g:ar r with
  |eof=>grind[jd]
  |word w p=>
   cases p with
   |false=>exact aT.bad rfl
   |true=>
    refine aT.ite (λ_=>?_) λ_=>aT.bad rfl;have M:=Be (w:=w) (by grind[cm]) rfl c;have U:=c.sfx (iI w.length r);refine aT.cM M (aT.N (as_ hD) U (as9 hD aq _ _ U M ah) (λa r d h hu af ah=>aw.body hu af (ata h) ah) (λa d _=> .inl ⟨[],dx (by simp[ab.aG,atb])⟩) λds w y aB h b=>?_);have az:ln gd:=by decide
    rw[show dY=10::(gd++([32,120,10]++hc)) from rfl,Ed] at h⊢;obtain⟨a,rfl⟩:=h _ (gd++([32,120,10]++(hc++w))) [] rfl (by have:=az.Ef (w:=[32,120,10]++(hc++w)) (ds:=ds) (mN _);grind) (by rfl);exact⟨(),aw.Wl b⟩
  |_=>exact aT.bad rfl
 ·obtain⟨i,f⟩:=ln.tok (kw:=[120]) (by decide) (xN _);refine⟨(),?_⟩;have e:b8 [] F tb=(120::10::(fl F++(gd++([32,120,10]++hc))),[]):=(Po (by decide)).trans (by simp[dY,Ed]);rw[e,show(120::10::(fl F++(gd++([32,120,10]++hc))))++w=[120]++(10::(fl F++(gd++([32,120,10]++(hc++w))))) by simp,aJ (bL f)];show(if l3 [120]=true then(N (bV 1) λ_=>N _ λ_=>h3 l dY) else b6) _ _=_;exact fin b ah
def Pp(D:ab Unit):ab Tok:=N (cR D) λ_=>N cQ λ_=>N (bN []) λt=>if t= .eof then b5 [] else aU t
def atc:j2 Tok:=λw ds y=>∀v,w=32::(eb++10::v)->y= .ok (.word eb true) (eb++10::v) ds
def Wm:ab (Unit⊕Unit):=N (bN [41]) λt=>match t with
    | .eof=>b5 [41]
    | .op o=>if o=[124] then N (bV 1) λ_=>aU (.inl ()) else if o=[41] then N (bV 1) λ_=>aU (.inr ()) else b6
    |_=>b6
def Wn(D:ab Unit):ab (Unit⊕Unit):=N (bN [120,41]) λt=>match t with
 | .eof=>b5 [120,41]
 | .word _ _=>N ((cR D).aG [41]) λ_=>Wm
 |_=>b6
def Pq(l:dD):ab (Unit⊕Unit):=N (l.ls .item true) λ_=>N (bN []) λt=>if t= .op [59,59] then N (bV 2) λ_=>aU (.inl ()) else aU (.inl ())
def Hg(l:dD)(D:ab Unit):ab (Unit⊕Unit):=N cQ λ_=>N (bN []) λt=>if t= .eof then b5 [] else if cm t dt then N (bV 4) λ_=>aU (.inr ()) else
 N ((if t= .op [40] then bV 1 else aU ())) λ_=>N (lb D) λ_=>Pq l
theorem Wo{w:H}:Wm (41::w) ds= .ok (.inr ()) w ds:=by unfold Wm;rw[aJ (bL (yu w).2)];rfl
section
variable(hD:gn D)(aq:rr D)
include hD in
theorem aeG{aE:ag}{a:Unit⊕Unit}(hu:cx u)(h:Wn D u F= .ok a r aE):r≠[]:=by
 obtain⟨t,an,aD,M,h⟩:=bW h;cases t with
 |word _ _=>
  obtain⟨_,aF,ey,U,h⟩:=bW h;obtain⟨t,cK,b9,aQ,g⟩:=bW h;obtain⟨br,rfl,rfl⟩:=nr aQ;have Ds:=((hu.sfx ((ae.c4 _).sfx M)).sfx ((ae.word hD).sfx (hn.1 U))).sfx (eV br);cases ao:ar cK with
  |op o=>
   rw[ao] at g;have key:o.length=1->cK.drop 1≠[]:=λe=>te ao e.symm Ds;simp only at g;split at g
   ·next e=>cases g;grind
   ·split at g
    ·next e=>cases g;grind
    ·cases g
  |_=>rw[ao] at g;cases g
 |_=>cases h
include hD aq
theorem dv.uk:dv Ne (lb D)/\c7 (lb D):=by
 refine⟨dv.rep (Jq hD) (λs u F hu af ah=>?_) (λ_ _ _ _ h=>h) (λs u F s' i hu af h=>absurd rfl (aeG hD hu h)) (),c7.rep (Jq hD) (λs u F a r i hu af h=>aeG hD hu h) ()⟩;refine aT.c4 hu af ah (λr Z d Y=>?_) (λw _ f=>?_) (λw y h=>by cases h)
 ·cases g:ar r with
  |eof=>grind[jd]
  |word _ _=>
   refine aT.Hb (ae.word hD) (NE.word hD).k d Z (dv.word hD aq _ _ d Z ah) (λ_ r j _ hu af ah=>?_) λds w y _ h f=>?_
   ·refine aT.c4 hu af ah (λr Z d Y=>?_) (λw _ f=>⟨(),k2 _ Wo⟩) (λw y h=>by cases h);cases g:ar r with
    |op o=>have b:o.length=1->r.drop 1≠[]:=λe=>te g e.symm d;exact aT.ite (λh=>aT.cM (b (h▸rfl)) (aT.ret (b (h▸rfl)) ah)) λ_=>aT.ite (λh=>aT.cM (b (h▸rfl)) (aT.ret (b (h▸rfl)) ah)) λ_=>aT.bad rfl
    |eof=>grind[jd]
    |_=>exact aT.bad rfl
   ·obtain⟨a,rfl⟩:=h (kG.iX ⟨w,.inr rfl⟩);exact⟨(),k2 _ Wo⟩
  |_=>exact aT.bad rfl
 ·have c:=kG.iX ⟨w,.inr rfl⟩;have e:Wn D (120::41::w) F= .ok (.inr ()) w F:=by unfold Wn;rw[aJ (bL (xc c).1)];exact(aJ (hn.2 (Pk c))).trans Wo
  exact⟨(),k2 _ e⟩
theorem atd(hu:cx u)(af:u≠[])(ah:eB F):aT atc (Pp D) u F:=by
 have az:∀{v:H}{ds:ag},N (bN []) (λt=>if t= .eof then b5 [] else aU t) _ ds= .ok _ _ ds:=λ{v ds}=>by obtain⟨f,e⟩:=ln.tok (kw:=eb) (by decide) (xN v);rw[aJ (bL e)];rfl
 have Y:∀v,bg _=some (eb++10::v):=λv=>(j9 _).trans (ln.tok (by decide) (xN v)).2
 have aw:∀v,ar _≠ .line:=λv=>by rw[(ln.tok (kw:=eb) (by decide) (xN v)).1];simp
 refine aT.pn (ae.word hD) (NE.word hD).k hu af (dv.word hD aq _ _ hu af ah) (λ_ r d _ hu af ah=>aT.z_ ae.lines hu (dv.lines _ _ hu af ah) (λ_ r d h hu af ah=>aT.BR hu af (Bf h) (aT.ite (λh=>absurd (jd.1 h) af) λ_=>aT.ret af ah)) (λa d _=> .inl ⟨[],?_⟩) λds w y _ h v c=>?_) λds w y _ h v c=>?_
 ·rw[aJ (bL mj)];rfl
 ·subst c;obtain⟨b,rfl⟩:=h _ ds ⟨by simp,aw v,.inl ⟨Y v,rfl⟩⟩;exact az
 ·subst c;obtain⟨b,rfl⟩:=h ⟨by simp,mN _⟩;exact(aJ (oe (Y v) (aw v))).trans az
omit hD aq in
theorem aeI{a:ag}{t:Tok}(h:Pp D u F= .ok t r a):r≠[]/\t=ar r:=by
 obtain⟨_,_,_,_,h⟩:=bW h;obtain⟨_,_,_,_,h⟩:=bW h;obtain⟨t,c,d,b,g⟩:=bW h;obtain⟨f,rfl,rfl⟩:=nr b;split at g
 ·cases g
 ·next e=>cases g;simp_all[jd]
end
section
variable{l:dD}(aw:na l)
include aw
theorem Wp{w v:H}{a:ag}(aB:eB ds)(c:m_ v)(h:mF w ds (dt++v) a):cD (λ_=>Hg l D) () w ds= .ok () v a:=by
 obtain⟨b,d⟩:=KD aB h;obtain⟨f,g⟩:=ln.tok (kw:=dt) (by decide) c.2;have e:Hg l D w ds= .ok (.inr ()) v a:=by unfold Hg;rw[aJ d,aJ (bL g),f];rfl
 rw[cL,e];rfl
theorem ate(hu:cx u)(af:u≠[])(ah:eB F):aT (λw ds y=>∀v,w=10::(fl ds++(dt++v))->m_ v->∃a,qH (λ_=>Hg l D) y= .ok a v []) (Pq l) u F:=by
 refine aT.pn (aw.r9.ls _ _) (λu F a r g _ _ h=>Pm (by decide) (aw.post (by decide) h).2) hu af (aw.cA _ _ (λh=>by cases h) _ _ hu af ah) (λa r i h hu af ah=>aT.BR hu af (aw.post (by decide) h).1 (aT.ite (λh=>?_) λ_=>aT.ret af ah)) λds w y aB h v c b=>?_
 ·have:=te h rfl hu;grind[aT.cM,aT.ret]
 ·have f:=ln.Ef (kw:=dt) (ds:=ds) (by decide) b.2;obtain⟨d,e⟩:=ln.tok (kw:=dt) (by decide) b.2;obtain⟨k,rfl⟩:=h ⟨_,.inl c⟩ _ _ (c▸f) (by rw[d];decide);refine⟨(),?_⟩;show qH _ (N _ _ _ [])=_;rw[aJ (bL e),d];exact Wp aw eB.nil b ⟨by simp[dt],by grind,.inl ⟨e,rfl⟩⟩
theorem atf(hD:gn D)(aq:rr D):dv (λw ds y=>∀v,w=10::(fl ds++(dt++v))->m_ v->∃a,y= .ok a v []) (nn l D):=by
 have he:∀{v:H}{ds:ag},m_ v->mF _ ds (dt++v) []:=λd=>ln.Ef (by decide) d.2
 obtain⟨t,j⟩:=dv.uk hD aq;refine dv.rep (Tw aw.r9 hD) (λs u F hu af ah=>?_) (λ_ _ _ _ h=>h) (λs u F s' q hu af h=> .inl ⟨[],?_⟩) ()
 ·refine aT.z_ ae.lines hu (dv.lines _ _ hu af ah) (λ_ r m h hu af ah=>aT.BR hu af (Bf h) (aT.ite (λh=>absurd (jd.1 h) af) λ_=>aT.ite (λh=>?_) λ_=>?_)) (λa m _=> .inl ⟨[],?_⟩) λds w y aB h v o d=>?_
  ·have:=Be h (n:=4) rfl hu;grind[aT.cM,aT.ret]
  ·have f:∀{u:H},cx u->u≠[]->aT _ _ u m:=λhu af=>aT.pn (ae.uk hD) j hu af (t _ _ hu af ah) (λ_ r m _ hu af ah=>ate aw (D:=D) hu af ah) λds w y aB h v o d=>by subst o;obtain⟨a,rfl⟩:=h (by simp);obtain⟨g,i⟩:=ln.tok (kw:=dt) (by decide) d.2;obtain⟨k,az⟩:=aw.z (c:= .item) aB (he d) (by rw[g];decide);refine⟨(),?_⟩;show qH _ (Pq l _ ds)=_;unfold Pq;rw[aJ az,aJ (bL i),g];exact Wp aw eB.nil d ⟨by simp[dt],by grind,.inl ⟨i,rfl⟩⟩
   by_cases p:ar r= .op [40]
   ·rw[ba p];have:=te p rfl hu;exact aT.cM this (f (hu.sfx (iI _ _)) this)
   ·rw[aM p];exact aT.shift rfl (λz=>rfl) (f hu af)
  ·rw[aJ (bL mj)];rfl
  ·obtain⟨b,rfl⟩:=h _ _ (o▸he d);obtain⟨g,i⟩:=ln.tok (kw:=dt) (by decide) d.2;refine⟨(),?_⟩;show qH _ (N _ _ _ [])=_;rw[aJ (bL i),g];rfl
 ·have e:Hg l D [] q= .more [] [] q:=by unfold Hg;rw[aJ (oe mj (by decide)),aJ (bL mj)];rfl
  exact(cL _ _ _ _).trans (k2 _ e)
theorem na.vz(hD:gn D)(aq:rr D):dv (yw id) (q5 l D):=λu F hu af ah=>by
 have d:∀ds,b8 [] ds (32::(eb++10::dt))=(32::(eb++10::(fl ds++dt)),[]):=λds=>
  (Po (by decide)).trans (by simp[eb,Po,Ed])
 have fin:∀{w:H}{ds:ag},m_ w->eB ds->(if cm (.word eb true) eb=true then N (bV 2) λ_=>(nn l D).aG (10::dt) else b6) (eb++10::(fl ds++(dt++w))) ds= .ok () w []:=λ{w ds} b aB=>hn.2 (Wp aw aB b (ln.Ef (by decide) b.2))
 refine aT.c4 hu af ah (λr Z f Y=>?_) (λw _ b=>?_) (λw y h=>by cases h)
 ·cases g:ar r with
  |eof=>grind[jd]
  |word w p=>
   refine aT.Hb (x:=32::(eb++10::dt)) ((ae.word hD).N λ_=>ae.lines.N λ_=>(ae.c4 _).N λt=>ae.ite (ae.b5 _) (ae.ret _)) (λu F a r j _ _ h=>(aeI h).1) f Z (atd hD aq f Z ah) (λt r k h hu af ah=>aT.ite (λg=>?_) λ_=>aT.bad rfl) λds w y aB h b=>?_
   ·have M:=Be ((aeI h).2▸g) rfl hu;have U:=hu.sfx (iI 2 r);refine aT.cM M (aT.aG (ae.items aw.r9 hD) (NE.items aw.r9 hD).k U M (atf aw hD aq _ _ U M ah) λds w y _ h b=>?_);rw[Ed] at h⊢;obtain⟨a,rfl⟩:=h w (by simp) b;exact⟨(),rfl⟩
   ·rw[d] at h⊢;rw[h (fl ds++(dt++w)) (by simp)];exact⟨(),fin b aB⟩
  |_=>exact aT.bad rfl
 ·refine⟨(),?_⟩;have e:b8 [] F ([120,32]++eb++[10]++dt)=(120::32::(eb++10::(fl F++dt)),[]):=(Po (by decide)).trans (k2 (λx:H×ag=>(120::x.1,x.2)) (d F));have c:=xc (w:=32::(eb++10::(fl F++(dt++w)))) ⟨by simp,mN _⟩;rw[e,show(120::32::(eb++10::(fl F++dt)),([])).1++w=120::32::(eb++10::(fl F++(dt++w))) by simp,aJ (bL c.1)];have bh:Pp D (120::32::(eb++10::(fl F++(dt++w)))) F= .ok (.word eb true) (eb++10::(fl F++(dt++w))) F:=by unfold Pp;obtain⟨m,i⟩:=ln.tok (kw:=eb) (by decide) (xN _);rw[aJ (Pk ⟨by simp,mN _⟩),aJ (oe ((j9 _).trans i) (by grind)),aJ (bL i)];rfl
  exact(aJ (hn.2 bh)).trans (fin b ah)
end
section
variable{l:dD}(aw:na l)
include aw
theorem ati(hu:cx u)(af:u≠[])(ah:eB F):aT (yw id) (N ((l.ls .pa false).aG dY) λ_=>h3 l dY) u F:=by
 have a:∀x k,x=10::(gd++([32,120,10]++hc))->k=h3 l dY->aT _ (N ((l.ls .pa false).aG x) λ_=>k) u F:=λx k b az=>by rw[b];exact aw.seq hu af ah (by decide) (by decide) (by decide) (λw h=>mN _) (λr f M U c d=>by rw[az];exact aw.body M U d c) λw e=>⟨(),by rw[az];exact aw.Wl e⟩
 exact a _ _ rfl rfl
theorem atj{t:Tok}(hu:cx u)(ah:eB F)(b:ar u=t)(aq:fJ t=true):aT (qG m_) (hd l t) u F:=by
 cases t with
 |op o=>
  have e:o=[40]:=by grind[fJ]
  have M:=te (n:=1) b (by grind) hu;have U:=hu.sfx (iI 1 u);refine aT.cM (k:=λ_=>N _ λ_=>jr _) M ((par (aw.r9.ls _ _) U M (aw.cA _ _ (λh=>by cases h) _ _ U M ah) (aw.post (by decide))).mono λw ds y _ h a=>h a.1)
 |word w p=>
  have f:p=true:=by grind[fJ]
  have M:=Be (w:=w) (by grind[cm]) rfl hu;have U:=hu.sfx (iI w.length u);show aT (yw id) _ u F;unfold hd;refine aT.cM M ?_;refine aT.ite (λ_=>?_) λ_=>aT.ite (λ_=>aw.cond _ _ U M ah) λ_=>aT.ite (λ_=>aw.for_ aw.r9.dl aw.dl _ _ U M ah) λ_=>aT.ite (λ_=>aw.vz aw.r9.dl aw.dl _ _ U M ah) λ_=>?_
  ·exact aw.seq (kw:=[125]) U M ah (by decide) (by decide) (by decide) (λw h=>h.2) (λr g M U c d=>aT.res M U d c) λw a=>⟨(),ln.res (by decide) a.2⟩
  grind[ati]
 |_=>grind[fJ]
theorem atk(fr:Bool)(hu:cx u)(ah:eB F)(d:ar u= .op [40]):aT (qG kG) (kU fr (some l)) u F:=by
 refine aT.ite (λi=>aT.name ?_) λ_=>aT.deep rfl
 have j:∀ds,b8 [] ds [123,32,120,10,125]=(123::32::120::10::(fl ds++[125]),[]):=λds=>by rfl
 have BM:∀w,ar (123::32::w)= .word _ true/\bg _=some (123::32::w):=λw=>ln.tok (kw:=[123]) (by decide) (mN w)
 have fin:∀{w:H}{ds:ag},kG w->eB ds->N (bN [123,32,120,10,125]) (λt=>if t= .eof then b5 [123,32,120,10,125] else
   if fJ t then N _ λ_=>if fr then l.rd else aU () else b6) _ ds= .ok () w []:=λ{w ds} c aB=>by
  rw[aJ (bL (BM _).2),(BM _).1,aM (by simp),ba (by decide),aJ (aw.bH i aB c.iX)];cases fr
  ·rfl
  ·exact aw.aex c
 have M:=te d rfl hu;have U:=hu.sfx (iI 1 u);refine aT.cM M (aT.c4 U M ah (λr Z f Y=>aT.ite (λh=>absurd (jd.1 h) Z) λ_=>aT.ite (λd=>?_) λ_=>aT.bad rfl) (λw _ c=>?_) (λw y h=>by cases h))
 ·have M:=te d rfl f;have U:=f.sfx (iI 1 r);refine aT.cM M (aT.N ae.lines U (dv.lines _ _ U M ah) (λ_ r g h hu af ah=>aT.BR hu af (Bf h) (aT.ite (λh=>absurd (jd.1 h) af) λ_=>aT.ite (λaq=>?_) λ_=>aT.bad rfl)) (λa g _=> .inl ⟨[],?_⟩) λds w y aB h c=>?_)
  ·refine aT.pn (aw.r9.cp _) (aw.aew.cp _).k hu af (aw.cp hu ah rfl aq) (λ_ r g _ hu af ah=>aT.ite (λ_=>aw.rd _ _ hu af ah) λ_=>aT.ret af ah) λds w y _ h c=>?_;obtain⟨a,rfl⟩:=h c.iX;refine⟨(),?_⟩;cases fr
   ·rfl
   ·exact aw.aex c
  ·rw[aJ (bL mj)];rfl
  ·rw[j] at h⊢;obtain⟨b,rfl⟩:=h (123::32::120::10::(fl ds++125::w)) ds ⟨by simp,by grind,.inl ⟨by grind,rfl⟩⟩;exact⟨(),fin c aB⟩
 ·have e:b8 [] F [41,32,123,32,120,10,125]=(41::32::123::32::120::10::(fl F++[125]),[]):=by rfl
  refine⟨(),?_⟩;rw[e,show(41::32::123::32::120::10::(fl F++[125]),([])).1++w=41::32::123::32::120::10::(fl F++125::w) by simp,aJ (bL (yu _).2),(yu _).1,ba rfl];exact(aJ (hn.2 (oe ((j9 _).trans (BM _).2) (by grind)))).trans (fin c ah)
end
section
variable(h:∀l∈lo,na l)(fr:Bool)
include h
theorem aeJ{t:Tok}(hu:cx u)(ah:eB F)(a:ar u=t)(aq:fJ t=true):aT (qG m_) (rU lo t) u F:=by
 cases lo with
 |none=>exact aT.deep rfl
 |some l=>exact aT.name (atj (h l rfl) hu ah a aq)
theorem xd.command:xd (fA fr lo (dj lo)):=by
 have bk:=λl aw=>(h l aw).r9;have he:=λl aw=>(h l aw).aew;have hD:=zy bk;have aq:=aez h
 have f:∀{w:H}{ds:ag},kG w->fA fr lo (dj lo) _ ds= .ok () w ds:=λ{w ds} c=>by obtain⟨M,U⟩:=xc c.iX;unfold fA;rw[aJ (bL M),U,aM (by simp),aM (by decide)];show(if(true&&q3 _)=true then b6 else _) _ _=_;rw[aM (by decide),aJ (TC M (by decide) (by decide)),aM (by simp),aJ (Pk c.iX),ba (by decide),aJ (bL c.skip),aM (by rcases c.tok with h|h<;>rw[h]<;>simp)];grind[Ee]
 refine⟨ae.command bk hD,NE.command bk he hD,λu F hu af ah=>?_,f,λds=>⟨[],?_⟩⟩
 ·refine aT.c4 hu af ah (λr Z d Y=>aT.ite (λh=>absurd (jd.1 h) Z) λ_=>aT.ite (λg=>?_) λ_=>?_) (λw _ c=>⟨(),f c⟩) (λw y h=>by cases h)
  ·exact aT.pn (ae.cp bk _) (NE.cp bk _).k d Z (aeJ h d ah rfl g) (λ_ r e _ hu af ah=>dv.l4 hD aq _ _ hu af ah) λds w y _ h c=>by obtain⟨a,rfl⟩:=h c.iX;exact⟨(),(KC c).2⟩
  ·cases i:ar r with
   |eof=>grind
   |line=>exact aT.bad rfl
   |op o=>refine aT.ite (λ_=>aT.pn (ae.gP hD) (c7.gP hD) d Z (dv.gP hD aq _ _ d Z ah) (λ_ r e _ hu af ah=>dv.simple hD aq fr _ _ hu af ah) λds w y _ h c=>?_) λ_=>aT.bad rfl;obtain⟨a,rfl⟩:=h c;exact⟨(),Ee c⟩
   |word t p=>
    have fin:∀{w:H}{ds:ag},kG w->(if(p&&l3 t)=true then N (bN []) λt=>if t= .op [40] then N (kU fr lo) λ_=>if fr=true then aU () else gH (dj lo) else gS fr (dj lo) else gS fr (dj lo)) w ds= .ok () w ds:=λ{w ds} c=>by
     split
     ·rw[aJ (bL c.skip),aM (by rcases c.tok with h|h<;>rw[h]<;>simp)];grind[Ee]
     grind[Ee]
    refine aT.ite (λ_=>aT.bad rfl) λ_=>aT.pn (ae.gP hD) (c7.gP hD) d Z (dv.gP hD aq _ _ d Z ah) (λb r e _ hu af ah=>aT.ite (λ_=>dv.simple hD aq fr _ _ hu af ah) λ_=>aT.pn (ae.word hD) (NE.word hD).k hu af (dv.word hD aq _ _ hu af ah) (λ_ r e _ hu af ah=>aT.ite (λ_=>?_) λ_=>dv.simple hD aq fr _ _ hu af ah) λds w y _ h c=>?_) λds w y _ h c=>?_
    ·refine aT.Hc hu af ah (λr Z d Y=>aT.ite (λi=>?_) λ_=>dv.simple hD aq fr _ _ d Z ah) (λw _ c=>⟨(),?_⟩) (λy c=>absurd rfl c.iX.1)
     ·have hf:aT (qG kG) (kU fr lo) r e:=by
       cases lo with
       |none=>exact aT.deep rfl
       |some l=>simp_all[atk]
      refine aT.pn (ae.function bk) (NE.function bk he).k d Z hf (λ_ r e _ hu af ah=>aT.ite (λ_=>aT.ret af ah) λ_=>dv.l4 hD aq _ _ hu af ah) λds w y _ h c=>?_;obtain⟨a,rfl⟩:=h c;refine⟨(),?_⟩;show(if fr=true then aU () else gH _) w ds=_;cases fr
      ·simp_all[KC]
      ·rfl
     grind
    ·obtain⟨a,rfl⟩:=h c.iX;exact⟨(),fin c⟩
    ·obtain⟨b,rfl⟩:=h c;refine⟨(),?_⟩;show(if b=true then gS fr _ else _) w ds=_;cases b
     ·exact(aJ (Wf c.iX)).trans (fin c)
     grind[Ee]
 ·unfold fA;rw[aJ (bL mj)];rfl
theorem na.of(b:Bool)(f:b=true->∃l,lo=some l):na {ls:=np (hR (fv (fA fr lo (dj lo)))),pm:=qp (dj lo),cp:=rU lo,rd:=gH (dj lo),dl:=dj lo,has:=b}:=by have bk:=λl aw=>(h l aw).r9;have hD:=zy bk;have aq:=aez h;have d:=(xd.command h fr).pipe.oc;refine⟨Tt bk b,⟨λt=>NE.cp bk t,c7.l4 hD⟩,λc no h0=>dv.list d h0,λa aB e he=>as2 d a aB e he,λaB e he=>as1 d aB e he,λaq h=>x1 aq h,dv.param hD aq,λhu ah g aq=>aeJ h hu ah g aq,dv.l4 hD aq,λa=>(KC a).2,aq,λi w ds aB a=>?_⟩;obtain⟨l,rfl⟩:=f i;refine FW.2 ?_;obtain⟨k,az⟩:=(h l rfl).Wk (c:= .pK) (kw:=[125]) aB (by decide) (by decide) a.2;exact(aJ (hn.2 az)).trans (ln.res (by decide) a.2)
end
theorem aeK(fr:Bool):∀n,na (aW fr n)
 |0=>na.of (λl h=>by cases h) fr false (λh=>by cases h)
 |n+1=>na.of (λl h=>by cases h;exact aeK fr n) fr true (λ_=>⟨_,rfl⟩)
theorem atl{nd:H}{op:bs}(hu:cx u)(af:u≠[])(h:iA fr n u= .more op nd ds):∃k,iA fr n (u++(b8 nd ds [10]).1)= .ok k [] []:=by have:=(aeK fr n).cA .text true (λ_=>rfl) u [] hu af eB.nil;unfold aT at this;rw[show(aW fr n).ls .text true u []= .more op nd ds from h] at this;exact this.2 _ ⟨_,.inl rfl⟩ [] [] ⟨by simp,by decide,.inr ⟨[],by simp,mj,rfl⟩⟩ (by decide)
end Go.Eng
namespace Go.Eng
open Go Go.Proofs
theorem atm:∀(nd:H)(ds:ag),∃t,(b8 nd ds [10]).1=t++[10]:=by
 intro nd ds;rw[KA,Ed]
 have:∃t,10::fl ds=t++[10]:=by
  induction ds with
  |nil=>exact⟨[],rfl⟩
  |cons d ds a=>grind[fl]
 grind
theorem law_FnMore(I:H):M_l_FnMore I=some true:=by
 unfold M_l_FnMore;by_cases A:1048576<I.length
 ·grind
 obtain⟨T,M,U,g⟩:=asV I (by omega);have B:=ash T;obtain⟨a,b⟩:=asf T;have l:cx _:= .inr ⟨a,b⟩;obtain⟨s1,s2⟩:=ase (m:=30) (by decide) g (by decide);have i:=s1.vE g;obtain⟨d,e_,D⟩:=ael (s:=T) (by omega);obtain⟨av,n⟩:=asi (s:=T) (by omega);have aq:=asd (by omega) s2;have he:=Uu T (by omega);have h0:0<(de T).length:=by grind
 rw[M,aS rfl,e_,aS rfl];dsimp only;rw[n,aS rfl];have E:0<=d/\d<=((de T).length):=by
  cases ah:iA false 30 (de T) with
  |ok k r F=>grind
  |more op nd ds=>grind
  |bad r=>grind[ax]
  |deep q=>grind
 have o:vE (iA false 30 _)≠1->Ni T=some []:=λh=>by
  unfold Ni;cases ah:iA false 30 _ with
  |ok k r F=>rw[ah] at he;rw[he];rfl
  |more op nd ds=>rw[ah] at h;exact absurd rfl h
  |bad r=>rw[ah] at he;obtain⟨_,op,he⟩:=he;rw[he];rfl
  |deep q=>grind
 rw[i,decide_eq_true rfl,e3 (show¬d<0 by omega),abm T (by omega),TE (show(bif !true then true else false)=false from rfl)];rw[<-i];by_cases Y:vE (iA false 30 (de T))=1
 ·cases ah:iA false 30 _ with
  |ok k r F=>rw[ah] at Y;cases Y
  |bad r=>rw[ah] at Y;cases Y
  |deep q=>grind
  |more op nd ds=>
   have hm:∃e,iA true 30 (de T)= .more e nd ds:=by
    rcases s1 with⟨q,h⟩|h|⟨p,t,u,v,h,G⟩
    ·grind
    ·grind
    grind
   obtain⟨e,hm⟩:=hm;have j:=acW (s:=T) (by omega);rw[hm] at j;obtain⟨st,c,J,K,L,_⟩:=j;have w:Nj T=some (b8 nd ds [10]).1:=by simp_all[Nj,aS]
   have f:=(tk true 30).ls .text true (de T) [];rw[show(aW true 30).ls .text true _ []= .more e nd ds from hm] at f;simp only[eu] at f;have x:=zL [10] nd ds;rw[show eA ([])=0 from rfl] at f;simp only[Py] at x;obtain⟨k,az⟩:=atl l (by grind) ah;obtain⟨C,N⟩:=atm nd ds;have y:de (de T++(b8 nd ds [10]).1)=de T++(b8 nd ds [10]).1:=by grind[asg]
   obtain⟨a3,z,O⟩:=ael (s:=de T++(b8 nd ds [10]).1) (by grind);rw[aS rfl,w,aS rfl,b2 (by omega),z,aS rfl];simp_all[vE,TE]
 ·rw[e3 Y,o Y];rw[fp,aS rfl,show decide ((([]).length:Int)=0)=true from rfl,TE rfl];grind
end Go.Eng
