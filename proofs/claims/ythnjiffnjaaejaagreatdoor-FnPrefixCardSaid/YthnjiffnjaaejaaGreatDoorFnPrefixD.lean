/- Part 4 of what FnPrefix needs. No condition. -/
import Derived.Test.YthnjiffnjaaejaaGreatDoorFnPrefixC
set_option linter.all false
namespace Go.Eng
open Go Go.Proofs
theorem Sl{b:UInt8}{t:aa}(a:¬ga b=true)(c:b≠35)(d:b≠92):bx (b::t)=some (b::t):=by simp_all[nX,aS]
theorem FE{b:UInt8}{t:aa}(a:ga b=true):bx (b::t)=bx t:=by rw[nX,bo a]
theorem aj_{e:cI}{pd:aq}(di:e.S.length<=1000000)(x0:an)(ad:x0.1=e.S)(i:x0.2.2.1=pd)(j:x0.2.2.2.1=e.ne)(l:x0.2.2.2.2.1=e.op)(m:x0.2.2.2.2.2=e.ka):∀(n:Nat)(r:aa),r.length<n->r<:+e.S->
  I3 e r pd (fixF (Ht x0 λo=>some (.inr (x0.1,o,x0.2.2.1,x0.2.2.2.1,x0.2.2.2.2.1,x0.2.2.2.2.2))) n (az e.S r)):=by
 intro n;induction n with
 |zero=>omega
 |succ n d=>
  intro r ax a;rw[e5];generalize fixF (Ht x0 _) n=k at d;unfold Ht a_;simp only[ad,i,j,l,m];cases r with
  |nil=>simp only[iu,Int.lt_irrefl,bF,aR];simp[I3,mg,cI.st,iu]
  |cons b t=>
   have g:t.length<n:=by grind
   rw[b9 (hY a),jD a,iR di a];simp only[nc a,bA,aK,Sh,I2,mM,Yq];unfold I3;by_cases f:ga b=true
   ·rw[FE f];have:(bif decide (b=32) then true else decide (b=9))=true:=by simp[ga] at f;rcases f with rfl|rfl<;>rfl
    rw[this];exact d t g (d_ a)
   ·have p:(bif decide (b=32) then true else decide (b=9))=false:=by grind[ga]
    rw[p];simp only[aR];by_cases q:b=92
    ·subst q;cases t with
     |nil=>simp[iu,a9,cI.st,Yt]
     |cons c u=>
      rw[b9 (λ_=>hY (d_ a)),jD (d_ a)];simp only[bA,aK,nc (d_ a),pR];by_cases aF:c=10
      ·subst aF;have s:W (az e.S (92::10::u)+2)=az e.S u:=kB (w:=[92,10]) di a;rw[s];simp only[bA,aK,Sj];by_cases hu:u=[]
       ·subst hu;rw[bo rfl];simp only[iu,bA,aK];exact⟨_,rfl,rfl⟩
       ·rw[aS hu];have:decide (az e.S u=(e.S.length:Int))=false:=by grind[y1]
        rw[this];simp only[aR];exact d u (by grind) (d_ (d_ a))
      simp_all[bF,aR,Si,cI.st]
    ·have v:decide (b=92)=false:=by grind
     rw[v];simp only[aR];rw[b9 (λh=>by grind)];by_cases x:b=35
     ·subst x;rw[Sk];simp only[decide_true,cond_true];rw[aj9 (e:=e) x0 ad di _ _ (lz (Nat.le_trans (eO a) di)) a];have:lp (35::t)=lp t:=by rfl
      rw[this];exact d _ (Nat.lt_of_le_of_lt (AM t) g) ((Fi t).trans (d_ a))
     grind[Sl,cI.st]
theorem aka{e:cI}{r:aa}{pd:aq}(h:dR e r pd):I3 e r pd (KU (e.st r pd)):=
 aj_ h.b0 (e.st r pd) rfl rfl rfl rfl rfl _ r (lz (lQ (eO h.sfx) h.b0)) h.sfx
theorem Sn{r S:aa}(h:r<:+S):S.drop (az S r).toNat=r:=by obtain⟨u,rfl⟩:=h;simp[az,pf]
theorem I4{r t S:aa}(h:r<:+S)(a:t<:+r):b_ S (az S r) (az S t)=r.take (r.length-t.length):=by grind[b_,Sn,eO,az]
theorem So{S r:aa}(di:S.length<=1000000)(b:r<:+S):z6 S (az S r)=some (bs r):=by
 have ad:¬az S r<0:=by grind[eO,az]
 unfold z6;by_cases c:(S.length:Int)<=az S r
 ·have d:r=[]:=y1.1 (show az S r=S.length by have:= @o5 r S;omega);simp_all[bs,lq,xS,List.isPrefixOf]
 ·simp only[ad,c,bF,aR];have e0:rP 32 [60,60,45,32,38,38,32,124,124,32,59,59,32,60,60,32,60,38,32,60,62,32,62,62,32,62,38,32,62,124,32,38,32,124,32,59,32,60,32,62,32,40,32,41]=lq:=by decide
  have a:=Yi [60,60,45,32,38,38,32,124,124,32,59,59,32,60,60,32,60,38,32,60,62,32,62,62,32,62,38,32,62,124,32,38,32,124,32,59,32,60,32,62,32,40,32,41] 32 (by decide);rw[e0] at a;rw[aP a];unfold a_;show fixF (HA S (az S r) lq λ_=>some []) bC 0=_;rw[(Yj S (az S r) (by omega) (by omega) (by omega) lq (by decide) (by decide) (λ_=>some []) bC 0 (by omega) (by decide) (by rw[gi];decide) (by simp[gi])).2];rw[Sn b];grind[bs,Lib.hasPrefix,List.isPrefixOf,List.find?,lq]
theorem fY{α β:Type}{g:Prop}[Decidable g]{v d:α}{k:α->Option β}:cT g (some v) d k=k (if g then v else d):=by grind[cT,aw]
theorem Sp{S r:aa}(di:S.length<=1000000)(a:r<:+S):wT S (az S r)=some (c3 r):=by
 unfold wT;rw[So di a,fY];cases r with
 |nil=>simp[iu,a9,c3]
 |cons b t=>
  have hl:¬(S.length:Int)<=az S (b::t):=by simp_all[nc]
  rw[b9 (λ_=>hY a),b9 (λ_=>hY a),b9 (λ_=>hY a),jD a];simp only[hl,bF,aR,Sh,I2,pR];grind[c3,ga,bs]
theorem Yu{S t:aa}{b:UInt8}(di:S.length<=1000000)(a:b::t<:+S):BW S (az S (b::t))=some (gb (b::t)):=by
 unfold BW;rw[b9 (hY a),jD a,iR di a];simp only[qw,CY,CZ];cases t with
 |nil=>simp[iu,a9,gb]
 |cons c u=>
  rw[b9 (λ_=>hY (d_ a)),b9 (λ_ _=>hY (d_ a)),jD (d_ a)];simp only[nc (d_ a),bA];by_cases ad:b=36
  ·subst ad;by_cases d:c=40
   ·grind[gb]
   by_cases e:c=123
   ·grind[gb]
   simp_all[gb]
  simp_all[gb]
theorem akb:∀(r w:aa),c8 r=(w,false)->w=[]
 |[],w,h=>by grind[c8]
 |b::t,w,h=>by grind[c8]
def FF(S:aa)(j:Int->Option (aa×Bool))(r:aa):aa×Bool->Option (aa×Bool)
 |(w,true)=>j (az S (r.drop w.length))
 |(_,false)=>some ([],false)
theorem akc{S:aa}(di:S.length<=1000000)(j:Int->Option (aa×Bool)):∀(n:Nat)(r:aa),r.length<n->r<:+S->fixF (Ei S j) n (az S r)=FF S j r (c8 r):=by
 intro n;induction n with
 |zero=>omega
 |succ n d=>
  intro r ax a;rw[e5];generalize fixF (Ei S j) n=k at d;unfold Ei;rw[Sp di a,aP rfl];cases r with
  |nil=>rfl
  |cons b t=>
   unfold c8;by_cases e:c3 (b::t)=true
   ·rw[e,bo rfl];rfl
   ·have f:c3 (b::t)=false:=by grind
    rw[f,aS (by simp)];simp only[e8,aK];rw[b9 (hY a),Yu di a,fY,jD a,iR di a];simp only[mM,q_,n4,n3];by_cases g:b=92
    ·grind[FF]
    by_cases h:b=39
    ·grind[FF]
    by_cases i:b=34
    ·grind[FF]
    by_cases l:b=96
    ·grind[FF]
    by_cases m:gb (b::t)=true
    ·grind[FF]
    ·simp only[g,h,i,l,bF,aR,cD,m,cl,or_self];rw[d t (by grind) (d_ a)];cases aB:c8 t with
     |mk w c=>cases c<;>rfl
theorem akd{S r:aa}(di:S.length<=1000000)(a:r<:+S):HD S (az S r)=some (c8 r):=by
 unfold HD a_;show fixF (Ei S _) bC (az S r)=_;rw[akc di _ _ r (lz (Nat.le_trans (eO a) di)) a];cases aB:c8 r with
 |mk w c=>
  cases c with
  |false=>rw[akb _ _ aB];rfl
  |true=>have b:=(Fo _ _ aB).1;obtain⟨q,rfl⟩:=b;have d:q<:+S:=(List.suffix_append w q).trans a;show a9 _ _=_;rw[List.drop_left,b9 (by grind[eO,List.length_append,az]),I4 a (gY w q)];simp
def jo:Tok->Int×aa×Bool
 | .eof=>(0,[],false)
 | .line=>(1,[],false)
 | .op o=>(2,o,false)
 | .word w p=>(3,w,p)
theorem Yv{e:cI}{x r:aa}{pd:aq}(h:dR e r pd):aV e r (bQ x r pd) (λt r pd=>(jo t,e.st r pd)) (l9 (e.st r pd)):=by
 have c:=aka h;unfold I3 at c;unfold l9;cases hk:bx r with
 |none=>rw[hk] at c;obtain⟨st,ad,i⟩:=c;rw[iE hk,ad];exact⟨st,rfl,by grind⟩
 |some r'=>
  rw[hk] at c;rw[cB hk,c];have d:=dV hk;have a:=h.mono d;refine⟨d,a,?_⟩;unfold bb;simp only[cI.st];cases r' with
  |nil=>simp[iu,av,jo]
  |cons b t=>
   have bc:¬az e.S (b::t)=(e.S.length:Int):=by simp[y1]
   simp only[bc,bF,aR];refine(b9 (hY a.sfx)).trans ?_;simp only[jD a.sfx,pR];unfold av;by_cases f:b=10
   ·grind[jo]
   ·simp only[f,bF,aR,cl];rw[So a.b0 a.sfx,aP rfl];by_cases g:bs (b::t)=[]
    ·simp only[g,bA,gW,aR,ne_eq,not_true,cl];rw[akd a.b0 a.sfx,aP rfl];rfl
    grind[jo]
theorem e6{σ τ α β:Type}{m:Option (bq σ α)}{f:σ->τ}{k:α->Option (bq τ β)}{y:α}(h:m=some (.inr y)):bb m f k=k y:=by rw[h];rfl
theorem hI{σ τ α β:Type}{m:Option (bq σ α)}{f:σ->τ}{k:α->Option (bq τ β)}{c p:Int}{s:σ}(h:m=some (.inl (c,p,s))):bb m f k=some (.inl (c,p,f s)):=by rw[h];rfl
theorem y2{σ τ α β:Type}{g:Prop}[Decidable g]{m:Option (bq σ α)}{f:σ->τ}{d:α}{k:α->Option (bq τ β)}(h:g):nk g m f d k=bb m f k:=bo h
theorem Yw{σ τ α β:Type}{g:Prop}[Decidable g]{m:Option (bq σ α)}{f:σ->τ}{d:α}{k:α->Option (bq τ β)}(h:¬g):nk g m f d k=k d:=aS h
def xm{β:Type}(e:cI)(y:Option (bq an β)):Prop:=∃st:an,y=some (.inl (1,e.S.length,st))/\st.2.2.2.2.1=e.op
theorem xm.bind{β a:Type}{e:cI}{y:Option (bq an β)}{f:an->an}{k:β->Option (bq an a)}(h:xm e y)(hf:∀st,(f st).2.2.2.2.1=st.2.2.2.2.1\/(f st).2.2.2.2.1=e.op):xm e (bb y f k):=by obtain⟨st,ad,b⟩:=h;refine⟨f st,hI ad,?_⟩;grind
theorem xm.more{β:Type}{e:cI}{st:an}{f:an->an}{k:Empty->Option (bq an β)}(ad:st.1=e.S)(a:(f st).2.2.2.2.1=e.op):xm e (bb (ry st) f k):=
 ⟨f st,by grind[ry,bb],a⟩
theorem xm.rQ{α β:Type}{e:cI}{r0:aa}{cv:α->aa->aq->β}{nd:aa}{ds:aq}{y:Option (bq an β)}(h:xm e y):aV e r0 (.more [] nd ds) cv y:=by obtain⟨st,ad,a⟩:=h;exact⟨st,ad,by grind⟩
structure oD{β:Type}(e:cI)(f:Tok->β)(F:an->Option (bq an (β×an))):Prop where
 some:∀{r r' pd},dR e r pd->bx r=some r'->F (e.st r pd)= .some (.inr (f (av r'),e.st r' pd))
 none:∀{r pd},dR e r pd->bx r=none->xm e (F (e.st r pd))
theorem k3(e:cI):oD e jo l9:=by
 constructor
 ·intro r r' pd h a;have:=Yv (x:=[]) h;rw[cB a] at this;exact this.2.2
 ·intro r pd h a;have:=Yv (x:=[]) h;rw[iE a] at this;obtain⟨st,ad,b⟩:=this;exact⟨st,ad,by grind⟩
theorem rb(e:cI)(w:aa):oD e (λt=>cG t w) (λx=>pw x w):=by
 constructor
 ·intro r r' pd h a;refine(e6 ((k3 e).some h a)).trans ?_;cases av r' with
  |word t p=>cases p<;>by_cases b:t=w<;>simp[jo,cG,b]<;>rfl
  |_=>rfl
 ·intro r pd h a;exact((k3 e).none h a).bind λ_=> .inl rfl
theorem rR(e:cI)(w:aa):oD e (λt=>t== .op w) (λx=>nq x w):=by
 constructor
 ·intro r r' pd h a;refine(e6 ((k3 e).some h a)).trans ?_;cases av r' with
  |op t=>by_cases b:t=w<;>simp[jo,b]<;>rfl
  |_=>rfl
 ·intro r pd h a;exact((k3 e).none h a).bind λ_=> .inl rfl
def C0:Ctx->Int
 | .text=>0| .paren=>1| .q5=>2| .rL=>3| .qo=>4| .jY=>5| .pM=>6| .done=>7| .item=>8
theorem oD.or{e:cI}{f g:Tok->Bool}{F G:an->Option (bq an (Bool×an))}(hf:oD e f F)(bf:oD e g G):
  oD e (λt=>f t||g t) (λx0=>bb (F x0) (λx=>x) λy=>nk (y.1=false) (G (y.2.1,y.2.2.1,x0.2.2.1,y.2.2.2.2.1,x0.2.2.2.2.1,y.2.2.2.2.2.2)) (λx=>x) (false,(y.2.1,y.2.2.1,x0.2.2.1,y.2.2.2.2.1,x0.2.2.2.2.1,y.2.2.2.2.2.2)) λz=>
   Option.some (.inr ((bif y.1 then true else z.1),(z.2.1,z.2.2.1,x0.2.2.1,z.2.2.2.2.1,x0.2.2.2.2.1,z.2.2.2.2.2.2)))):=by
 constructor
 ·intro r r' pd h a;refine(e6 (hf.some h a)).trans ?_;cases b:f (av r') with
  |true=>rfl
  |false=>refine(y2 rfl).trans ((e6 (bf.some (h.mono (dV a)) (lO _ _ _ (cX _) a))).trans ?_);rfl
 ·intro r pd h a;exact(hf.none h a).bind λ_=> .inl rfl
theorem oD.ret{β:Type}{e:cI}{f:Tok->β}{F:an->Option (bq an (β×an))}(hf:oD e f F):oD e f (λx0=>bb (F x0) (λx=>x) λy=>Option.some (.inr (y.1,(y.2.1,y.2.2.1,x0.2.2.1,y.2.2.2.2.1,x0.2.2.2.2.1,y.2.2.2.2.2.2)))):=by
 constructor
 ·intro r r' pd h a;exact(e6 (hf.some h a)).trans rfl
 ·intro r pd h a;exact(hf.none h a).bind λ_=> .inl rfl
theorem ake(e:cI):oD e (λt=>t== .eof) (λx0=>bb (l9 x0) (λx=>x) λy=>some (.inr (decide (y.1.1=0),(y.2.1,y.2.2.1,x0.2.2.1,y.2.2.2.2.1,x0.2.2.2.2.1,y.2.2.2.2.2.2)))):=by
 constructor
 ·intro r r' pd h a;refine(e6 ((k3 e).some h a)).trans ?_;cases av r'<;>simp[jo]<;>rfl
 ·intro r pd h a;exact((k3 e).none h a).bind λ_=> .inl rfl
theorem oD.akf{e:cI}{f g i:Tok->Bool}{F G I:an->Option (bq an (Bool×an))}(hf:oD e f F)(bf:oD e g G)(a8:oD e i I):
  oD e (λt=>f t||g t||i t) (λx0=>bb (F x0) (λx=>x) λy=>nk (y.1=false) (G (y.2.1,y.2.2.1,x0.2.2.1,y.2.2.2.2.1,x0.2.2.2.2.1,y.2.2.2.2.2.2)) (λx=>x) (false,(y.2.1,y.2.2.1,x0.2.2.1,y.2.2.2.2.1,x0.2.2.2.2.1,y.2.2.2.2.2.2)) λz=>
   nk ((bif y.1 then true else z.1)=false) (I (z.2.1,z.2.2.1,x0.2.2.1,z.2.2.2.2.1,x0.2.2.2.2.1,z.2.2.2.2.2.2)) (λx=>x) (false,(z.2.1,z.2.2.1,x0.2.2.1,z.2.2.2.2.1,x0.2.2.2.2.1,z.2.2.2.2.2.2)) λw=>
   Option.some (.inr ((bif(bif y.1 then true else z.1) then true else w.1),(w.2.1,w.2.2.1,x0.2.2.1,w.2.2.2.2.1,x0.2.2.2.2.1,w.2.2.2.2.2.2)))):=by
 constructor
 ·intro r r' pd h a;have b:=lO _ _ _ (cX _) a;have c:=h.mono (dV a);refine(e6 (hf.some h a)).trans ?_;cases d:f (av r') with
  |true=>rfl
  |false=>
   refine(y2 rfl).trans ((e6 (bf.some c b)).trans ?_);cases j:g (av r') with
   |true=>rfl
   |false=>refine(y2 rfl).trans ((e6 (a8.some c b)).trans ?_);rfl
 ·intro r pd h a;exact(hf.none h a).bind λ_=> .inl rfl
theorem Sr(e:cI)(c:Ctx):oD e (dT c) (λx=>El x (C0 c)):=by
 cases c with
 |text=>exact ake e
 |paren=>exact(rR e _).ret
 |q5=>exact(rb e _).ret
 |rL=>exact(rb e _).ret
 |jY=>exact(rb e _).ret
 |pM=>exact(rb e _).ret
 |done=>exact(rb e _).ret
 |item=>exact(rR e _).or (rb e _)
 |qo=>exact(rb e _).akf (rb e _) (rb e _)
theorem tB{e:cI}{r r':aa}{pd:aq}(h:dR e r pd)(a:bx r=some r'):
  (av r'= .eof->xm e (kL (e.st r pd)))/\(av r'≠ .eof->kL (e.st r pd)=some (.inl (2,az e.S r',e.st r' pd))):=by
 constructor
 ·intro b;have:kL (e.st r pd)=bb (ry (e.st r' pd)) (λx=>x) λy=>Empty.elim y:=by unfold kL a_;refine(e6 ((k3 e).some h a)).trans ?_;rw[b];rfl
  rw[this];exact xm.more rfl rfl
 ·intro b;unfold kL a_;refine(e6 ((k3 e).some h a)).trans ?_;cases hk:av r' with
  |eof=>grind
  |_=>rfl
theorem Yx{e:cI}{r:aa}{pd:aq}{w:aa}{t:Tok->Bool}{F:an->Option (bq an (Bool×an))}(c:oD e t F)(f:∀{r:aa},t (av r)=true->av r≠ .eof/\w<+:r)(h:dR e r pd):
  aV e r (na t w.length r pd) (λ_=>e.st) (bb (F (e.st r pd)) (λx=>x) λy=>bif !y.1 then bb (kL (y.2.1,y.2.2.1,pd,y.2.2.2.2.1,e.op,y.2.2.2.2.2.2)) (λx=>x) (λy=>Empty.elim y) else some (.inr (y.2.1,W (y.2.2.1+(w.length:Int)),pd,y.2.2.2.2.1,e.op,y.2.2.2.2.2.2))):=by
 unfold na;cases a:bx r with
 |none=>rw[dh (iE a)];exact((c.none h a).bind λ_=> .inl rfl).rQ
 |some r'=>
  rw[aZ (cB a),e6 (c.some h a)];have g:=dV a;have b:=h.mono g;have d:=lO _ _ _ (cX _) a;cases hk:t (av r') with
  |true=>obtain⟨ad,q,rfl⟩:=f hk;rw[aS ad,bo rfl];refine⟨by grind[List.drop_left,List.suffix_append,trans],by rw[pf];exact b.mono (gY w q),?_⟩;rw[pf];show some (Sum.inr (e.S,W (az e.S (w++q)+(w.length:Int)),pd,e.ne,e.op,e.ka))=_;rw[kB h.b0 b.sfx];rfl
  |false=>
   simp only[e8,aK];by_cases he:av r'= .eof
   ·rw[bo he];exact(((tB b d).1 he).bind λ_=> .inl rfl).rQ
   ·rw[aS he,aS (by simp)];exact⟨b.sfx,_,hI ((tB b d).2 he)⟩
theorem I5{e:cI}{r:aa}{pd:aq}(w:aa)(h:dR e r pd):aV e r (cY w r pd) (λ_=>e.st) (nr (e.st r pd) w):=by refine Yx (rb e w) (λ{r} hk=>?_) h;grind[av,cG,qu]
theorem Mv{e:cI}{r:aa}{pd:aq}(o:aa)(h:dR e r pd):aV e r (jR o r pd) (λ_=>e.st) (sh (e.st r pd) o):=by
 refine Yx (rR e o) (λ{r} hk=>?_) h;have:av r= .op o:=by grind
 simp_all[iq]
theorem Ss:∀r:aa,(Lib.indexByte r 10= -1/\(iN r).1=r/\(iN r).2=[])\/(Lib.indexByte r 10=((iN r).1.length:Int)/\r=(iN r).1++10::(iN r).2)
 |[]=> .inl ⟨rfl,rfl,rfl⟩
 |b::t=>by have:=Ss t;unfold iN Lib.indexByte;grind
theorem Mw{r S:aa}(h:r<:+S):b_ S (az S r) S.length=r:=by rw[<-iu S,I4 h oK];simp
theorem akg{S d:aa}{tabs:Bool}{j:Unit->Option Int}(di:S.length<=1000000):∀(n:Nat)(r:aa),r.length<n->r<:+S->
  fixF (rB S d tabs j) n (az S r)=match nx d tabs r with|some q=>some (az S q)|none=>j ():=by
 intro n;induction n with
 |zero=>omega
 |succ n f=>
  intro r ax a;rw[e5];generalize fixF (rB S d tabs j) n=k at f;unfold rB a_;cases r with
  |nil=>simp[iu,nx]
  |cons b t=>
   have u:=eO a;simp only[nc a,bA,aK];rw[b9 (by have:=hY a;omega),Mw a];have i:∀(l q:aa),q<:+S->q.length<(b::t).length->(iN (b::t)).1=l->(iN (b::t)).2=q->
     (bif tabs then aw (BX l [9]) λm=>bif decide (m=d) then some (az S q) else k (az S q) else bif decide (l=d) then some (az S q) else k (az S q))=
     match nx d tabs (b::t) with|some q=>some (az S q)|none=>j ():=by
    intro l q g hl ad e;rw[CP,ad,e];have a8:=f q (by omega) g;have v:l.length<=(b::t).length:=by
     rcases Ss (b::t) with⟨_,h,_⟩|⟨_,h⟩
     ·grind
     grind
    cases tabs with
    |true=>rw[Yl l (by omega)];simp only[aK,cD];rw[aP rfl];grind
    |false=>grind
   show aw (some (Lib.indexByte (b::t) 10)) _=_;rw[aP rfl];rcases Ss (b::t) with⟨ad,e,h⟩|⟨ad,e⟩
   ·grind[iu]
   ·have c:=mj List.length e;simp only[xU,mA] at c;have o:decide ((0:Int)<=Lib.indexByte (b::t) 10)=true:=by grind
    have g:(iN (b::t)).2<:+S:=((ee 10 _).trans (by grind)).trans a
    have p:b_ (b::t) 0 (Lib.indexByte (b::t) 10)=(iN (b::t)).1:=by grind[iN,b_]
    have w:(b::t).length=t.length+1:=rfl;have s:W (W (az S (b::t)+Lib.indexByte (b::t) 10)+1)=az S (iN (b::t)).2:=by grind[az,dW]
    rw[o];simp only[aK];rw[b9 (by omega),p,s];grind
theorem Yz{S d:aa}{tabs:Bool}{r:aa}(di:S.length<=1000000)(a:r<:+S):BY S (az S r) d tabs=some (match nx d tabs r with|some q=>az S q|none=> -1):=by
 unfold BY wU;have ad:max (0:Int) (min (az S r) S.length)=az S r:=by grind[o5,eO,az]
 rw[aP rfl,ad];unfold a_;show fixF (rB S d tabs _) bC (az S r)=_;grind[akg,lz,Nat.le_trans,eO,nx]
def My{β:Type}(e:cI)(op:bt)(y:Option (bq an β)):Prop:=∃st:an,y=some (.inl (1,e.S.length,st))/\st.2.2.2.2.1=e.op++op
theorem Mz{β:Type}{e:cI}{st:an}{x:aa}{f:an->an}{k:Empty->Option (bq an β)}(ad:st.1=e.S)(a:st.2.2.2.2.1=e.op)(b:e.op.length<=2000000)(hf:∀s,(f s).2.2.2.2.1=s.2.2.2.2.1):My e [x] (bb (wX st x) f k):=by
 unfold wX;rw[b9 (by grind)];refine⟨f (st.1,st.2.1,st.2.2.1,st.2.2.2.1,st.2.2.2.2.1++[x],st.2.2.2.2.2),?_,?_⟩
 ·grind[ry,bb]
 grind
theorem akh{e:cI}{pd:aq}{x0 y23:an}{j:Int->Option (bq an (Bool×an))}(di:e.S.length<=1000000)(f:e.op.length<=2000000)(o:pd.length<=1000000)(g:x0.2.2.2.2.1=e.op)(h:y23.1=e.S):∀(n i:Nat)(q:aa),pd.length-i<n->i<=pd.length->q<:+e.S->
  match mc (pd.drop i) q with
  | .inl r'=>fixF (BZ x0 pd y23 j) n ((i:Int),az e.S q)=j (az e.S r')
  | .inr _=>My e [[60,60]] (fixF (BZ x0 pd y23 j) n ((i:Int),az e.S q)):=by
 intro n;induction n with
 |zero=>omega
 |succ n l=>
  intro i q ax a8 d;rw[e5];generalize fixF (BZ x0 pd y23 j) n=k at l;unfold BZ a_;simp only[h,g];by_cases p:i<pd.length
  ·have a:(i:Int)<(pd.length:Int):=by omega
   have b:pd.drop i=at' pd (i:Int)::pd.drop (i+1):=by grind[List.drop_eq_getElem_cons,at',List.getElem?_eq_getElem]
   rw[b];simp only[a,bA,aK];rw[b9 (show 0<=(i:Int)/\True from⟨by omega,trivial⟩),Yz di d,aP rfl,dW (x:=(i:Int)+1) (by omega) (by omega)];unfold mc;cases m:nx (at' pd (i:Int)).1 (at' pd (i:Int)).2 q with
   |none=>simp only[show((-1:Int)<0) from by decide,bA,aK];exact Mz rfl rfl f λ_=>rfl
   |some c=>
    have r:c<:+e.S:=((RO _ _ _ q [] c (cX _) m).1).trans d;have h0:¬az e.S c<0:=by grind[eO,az]
    grind
  ·have a:¬(i:Int)<(pd.length:Int):=by omega
   have b:pd.drop i=[]:=tV (by omega);rw[b];simp only[a,bF,aR];rfl
theorem dR.xn{e:cI}{r:aa}{pd:aq}(h:dR e r pd):e.op.length<=2000000:=by have:=h.ops;have:=h.b0;omega
theorem dR.Su{e:cI}{r:aa}{pd:aq}(h:dR e r pd):pd.length<=1000000:=by have:=h.jS;have:=h.b0;omega
theorem YA{e:cI}{r:aa}{pd:aq}(h:dR e r pd):aV e r (cU r pd) (λb r pd=>(b,e.st r pd)) (lf (e.st r pd)):=by
 unfold lf a_;rw[sE];refine aV.rep (en:=λb r pd=>(b,e.S,az e.S r,pd,e.ne,e.ka)) (λk b r1 a ad hk=>?_) bC false r pd (lz (lQ (eO h.sfx) h.b0)) h;unfold P5 a_;cases d:bx r1 with
 |none=>have:h9 b r1 a= .more [] (cP [] a []).1 (cP [] a []).2:=dh (iE d);rw[this];exact(((k3 e).none ad d).bind λ_=> .inr rfl).rQ
 |some o=>
  have l:=dV d;have c:=ad.mono l;refine cast (mj _ (e6 ((k3 e).some ad d)).symm) ?_;by_cases m:av o= .line
  ·obtain⟨t,rfl⟩:=vY m;rw[uP d,m];have p:t<:+e.S:=d_ c.sfx;have g:=akh (e:=e) (pd:=a) (x0:=e.st r pd) (y23:=e.st (10::t) a) (j:=λn=>k (true,e.S,n,[],e.ne,e.ka)) h.b0 c.xn c.Su rfl rfl bC 0 t (lz (by have:=c.Su;omega)) (by omega) p;have u:W (az e.S (10::t)+1)=az e.S t:=iR c.b0 c.sfx;simp only[tW] at g
   have v:∀y,y=fixF (BZ (e.st r pd) a (e.st (10::t) a) λn=>k (true,e.S,n,[],e.ne,e.ka)) bC ((0:Nat),az e.S t)->aV e r1 (cO h9 r1 (ae jj (λ_=>aW (.inl true)) (10::t) a)) (λb r pd=>(b,e.st r pd)) y:=by
    rintro y rfl;cases i:mc a t with
    |inr nd=>
     rw[i] at g;have:ae jj (λ_=>aW (.inl true)) (10::t) a=(.more [[60,60]] nd []:dw (Bool⊕Bool)):=by grind[ae,tu]
     rw[this];exact g
    |inl f=>
     rw[i] at g;have w:ae jj (λ_=>aW (.inl true)) (10::t) a=(.ok (.inl true) f []:dw (Bool⊕Bool)):=by unfold ae;rw[tu,i];rfl
     rw[w];have x:fixF _ _ _=_:=g;rw[x];have q:f<:+t:=(vT _ _ [] _ i).1;have z:f<:+r1:=q.trans ((ee 10 t).trans l);have s:f.length<r1.length:=by grind
     have A:dR e f []:=⟨c.b0,q.trans p,by grind,by have:=ad.ops;omega⟩;exact aV.inl s (hk true f [] z A s)
   refine v _ ?_;rw[<-u];rfl
  ·rw[rM d m];refine⟨l,c,?_⟩;cases B:av o with
   |line=>grind
   |_=>rfl
theorem aki(w:aa):HN w=some (q4 w):=by
 unfold HN;have e0:rP 32 [105,102,32,119,104,105,108,101,32,117,110,116,105,108,32,102,111,114,32,99,97,115,101,32,123]=([m_,xg,IP,ny,pL,[123]]:bt):=by decide
 rw[aP (Sb w _ (by decide) (by simp_all)),e0];rfl
theorem akj(w:aa):H8 w=some (rK w):=by unfold H8;rw[aP (Sb w _ (by decide) (by decide))];rfl
theorem akk(w:aa):EC w=some (e2 w):=by unfold EC;rw[aP (Sb w _ (by decide) (by decide))];rfl
theorem YB(e:cI):oD e hG Em:=by
 constructor
 ·intro r r' pd h a;refine(e6 ((k3 e).some h a)).trans ?_;simp only[aki,fY];cases av r' with
  |word t p=>cases p<;>simp[jo,hG,cI.st]
  |op o=>grind[jo,hG,cI.st]
  |_=>rfl
 ·intro r pd h a;exact((k3 e).none h a).bind λ_=> .inl rfl
def cI.fv(e:cI)(x:aa):cI:=⟨e.S,e.ne+1,e.op++[x],e.ka⟩
theorem MA{e:cI}{r:aa}{pd:aq}{p:Int}{x:aa}(h:dR e r pd)(ad:0<=e.ne)(b:e.ne<30):yt (e.st r pd) p x=some (.inr ((e.fv x).st r pd)):=by
 unfold yt a_;have:¬(e.st r pd).2.2.2.1=30:=by show¬e.ne=30;omega
 simp only[this,bF,aR];have c:=h.xn;refine(b9 (show(e.st r pd).2.2.2.2.1.length+_<=536870912 by show e.op.length+1<=_;omega)).trans ?_;have a:W (e.ne+1)=e.ne+1:=dW (by omega) (by omega);show some (Sum.inr (e.S,az e.S r,pd,W (e.ne+1),e.op++[x],e.ka))=_;rw[a];rfl
theorem MB{e:cI}{r:aa}{pd:aq}{x:aa}(c:e.op.length<=2000000)(ad:0<=e.ne)(d:e.ne<30):uo ((e.fv x).st r pd)=some (e.st r pd):=by
 unfold uo;have hl:((e.fv x).st r pd).2.2.2.2.1=e.op++[x]:=rfl;have ax:((e.fv x).st r pd).2.2.2.1=e.ne+1:=rfl;have a:W (((e.op++[x]).length:Int)-1)=e.op.length:=by grind[dW,List.length_append,List.length_singleton]
 have b:W (e.ne+1-1)=e.ne:=by grind[dW]
 simp only[hl,ax,a,b];rw[b9 (by grind)];have:b_ (e.op++[x]) 0 (e.op.length:Int)=e.op:=by simp[b_]
 rw[this];rfl
theorem aV.named{α β:Type}{e:cI}{r0 r:aa}{pd:aq}{m:ak α}{x:aa}{cv:α->aa->aq->β}{y:Option (bq an β)}(h:aV (e.fv x) r0 (m r pd) cv y):match(m.named x) r pd with
  | .ok a r pd=>r<:+r0/\dR (e.fv x) r pd/\y=some (.inr (cv a r pd))
  | .more op _ _=>My e op y
  | .bad r=>r<:+e.S/\∃st,y=some (.inl (2,az e.S r,st))
  | .deep _=>True:=by
 unfold ak.named;cases hm:m r pd with
 |ok a r1 b=>rw[hm] at h;exact h
 |more op nd ds=>rw[hm] at h;obtain⟨st,ad,c⟩:=h;exact⟨st,ad,by grind[cI.fv]⟩
 |bad q=>rw[hm] at h;exact h
 |deep q=>trivial
theorem I7{S r:aa}(a:r<:+S):wU (az S r) S.length=some (az S r):=by unfold wU;grind[max,min,az,o5,eO]
def k4(S:aa):Option aa->Int
 |some q=>az S q
 |none=> -1
theorem akl{S:aa}(di:S.length<=1000000):∀(n:Nat)(r:aa),r.length<n->r<:+S->fixF (w4 S λ_=>some (-1)) n (az S r)=some (k4 S (g4 r)):=by
 intro n;induction n with
 |zero=>omega
 |succ n e=>
  intro r ax a;rw[e5];cases r with
  |nil=>simp[w4,iu,g4,k4]
  |cons b t=>
   have i:=eO a;have g:t.length<n:=by grind
   have f:=e t g (d_ a);cases t with
   |nil=>
    obtain⟨m,rfl⟩:∃m,n=m+1:=⟨n-1,by omega⟩
    have h:fixF (w4 S λ_=>some (-1)) (m+1) (W (az S []+1))=some (-1):=by
     rw[e5];unfold w4;have:¬W (az S []+1)<(S.length:Int):=by grind[iu,dW]
     grind
    generalize fixF (w4 S _) (m+1)=k at f h;unfold w4 a_;simp only[nc a,bA,aK];rw[b9 ⟨(hY a).1,trivial⟩,jD a,iR di a];grind[mM,n3,g4,k4]
   |cons c u=>have d:=e u (by grind) (d_ (d_ a));generalize fixF (w4 S _) n=k at f d;unfold w4 a_;simp only[nc a,bA,aK];rw[b9 ⟨(hY a).1,trivial⟩,jD a,iR di a,iR di (d_ a)];grind[mM,n3,g4,k4]
theorem akn{S r:aa}(di:S.length<=1000000)(a:r<:+S):B8 S (az S r)=some (k4 S (g4 r)):=by unfold B8;rw[I7 a,aP rfl];grind[a_,akl,lz,Nat.le_trans,eO]
theorem YC:∀r:aa,(Lib.indexByte r 39= -1/\gd r=none)\/∃q,gd r=some q/\q<:+r/\Lib.indexByte r 39=(r.length:Int)-q.length-1
 |[]=> .inl ⟨rfl,rfl⟩
 |b::t=>by
  unfold gd Lib.indexByte;by_cases a:b=39
  ·subst a;exact .inr ⟨t,by simp,ee 39 t,by simp;omega⟩
  ·rcases YC t with⟨ad,c⟩|⟨q,ad,c,d⟩
   ·left;simp[a,ad,c]
   ·right;refine⟨q,by simp[a,ad],c.trans (ee b t),?_⟩;have e:=yW t q ad;have:¬Lib.indexByte t 39= -1:=by rw[d];omega
    simp[a,this,d];omega
theorem YD{S r:aa}(di:S.length<=1000000)(a:r<:+S):vE S (az S r)=some (k4 S (gd r)):=by
 unfold vE;have hl:=eO a;have aB:az S r=(S.length:Int)-r.length:=rfl;rw[I7 a,aP rfl,b9 (by omega),Mw a];show aw (some (Lib.indexByte r 39)) _=_;rw[aP rfl];rcases YC r with⟨ad,b⟩|⟨q,ad,b,c⟩
 ·rw[ad,b];rfl
 ·have d:=yW r q ad;rw[ad,c];have h0:¬((r.length:Int)-q.length-1<0):=by omega
  simp only[h0,bF,aR];rw[dW (x:=az S r+_) (by omega) (by omega),dW (by omega) (by omega)];unfold k4;simp only;congr 1;have:az S q=(S.length:Int)-q.length:=rfl;omega
def qx(S:aa):XA->Int×Int
 | .ok r=>(az S r,0)
 | .more n=>(-1,n)
 | .bad r=>(-2,az S r)
theorem sI(b:UInt8)(t:aa):gb (b::t)=(decide (b=36)&&match t with|[]=>false|c::_=>decide (c=40)||decide (c=123)):=by
 cases t with
 |nil=>simp[gb]
 |cons c u=>
  by_cases ad:b=36
  ·subst ad;by_cases a:c=40
   ·subst a;rfl
   ·by_cases d:c=123
    ·subst d;rfl
    simp_all[gb]
  simp_all[gb]
theorem ako{S:aa}(di:S.length<=1000000):∀(n:Nat)(d:Nat)(r:aa),r.length<n->r<:+S->d+r.length<=1000000->fixF (B4 S λl=>some ((-1),(W (l+2)))) n ((d:Int),az S r)=some (qx S (hQ d r)):=by
 intro n;induction n with
 |zero=>omega
 |succ n f=>
  intro d r ax a aE;rw[e5];generalize fixF (B4 S _) n=k at f;unfold B4 a_;cases r with
  |nil=>simp only[iu,Int.lt_irrefl,bF,aR];grind[dW,hQ,qx]
  |cons b t=>
   have y:=eO a;have m:t.length<n:=by grind
   have z:(b::t).length=t.length+1:=rfl;simp only[nc a,bA,aK];rw[b9 ⟨(hY a).1,trivial⟩];have o:=iR di a;simp only[jD a,o,CY,Yr,q_,n4,mM,n3,qw];have A:=λd h=>f d t m (d_ a) h;unfold hQ;rw[sI];by_cases e:b=40
   ·subst e;have g:W ((d:Int)+1)=((d+1:Nat):Int):=by grind[dW]
    grind
   by_cases i:b=41
   ·subst i;simp only[e,bF,bA,aK,aR];cases d with
    |succ j=>
     have g:W (((j+1:Nat):Int)-1)=(j:Int):=by grind[dW]
     grind
    |zero=>
     simp only[show¬((0:Int)<((0:Nat):Int)) by decide,bF,aR];cases t with
     |nil=>simp[iu,qx]
     |cons c u=>
      have bc:¬az S (c::u)=(S.length:Int):=by simp[y1]
      simp only[bc,bF,aR];rw[b9 (hY (d_ a))];simp only[jD (d_ a),Yr];have g:W (az S (41::c::u)+2)=az S u:=kB (w:=[41,c]) di a;grind[qx]
   simp only[e,i,bF,aR,cl];by_cases p:b=39
   ·grind[qx]
   by_cases q:b=34
   ·grind[qx]
   by_cases s:b=92
   ·grind[qx]
   by_cases v:b=96
   ·grind[qx]
   simp only[p,q,s,v,bF,aR,false_or];by_cases x:b=36
   ·subst x;simp only[bA,aK,JU];cases t with
    |nil=>simp only[iu,Int.lt_irrefl,bF,aR];grind[b9,iu]
    |cons c u=>rw[b9 (λ_=>hY (d_ a)),b9 (λ_ _=>hY (d_ a))];simp only[nc (d_ a),bA,aK,jD (d_ a),CY,CZ];grind[qx]
   grind
theorem YE{S r:aa}(di:S.length<=1000000)(a:r<:+S):B5 S (az S r)=some (qx S (hQ 0 r)):=by unfold B5;rw[I7 a,aP rfl];unfold a_;exact ako di _ 0 r (lz (lQ (eO a) di)) a (by grind)
def qy{α β:Type}(e:cI)(m:ak α)(cv:α->aa->aq->β)(F:an->Option (bq an β)):Prop:=∀r pd,dR e r pd->aV e r (m r pd) cv (F (e.st r pd))
def ba(fr:Bool):Nat->ak Unit
 |0=>dM none
 |n+1=>dM (some (a1 fr n))
theorem xo(fr:Bool)(n:Nat):(a1 fr n).dl=ba fr n:=by cases n<;>rfl
structure C1(R:bk)(n:Nat):Prop where
 im:∀e:cI,e.ne=30- (n:Int)->qy e (jk 34 (cE (ba false n) none)) (λ_=>e.st) (λx=>R.yk x 34 false)
structure MC(R:bk)(n:Nat):Prop where
 im:∀e:cI,e.ne=30- (n:Int)->qy e (jk 125 (cE (ba false n) (some (eN (ba false n))))) (λ_=>e.st) (λx=>R.yk x 125 true)
structure xp(R:bk)(n:Nat):Prop where
 im:∀(e:cI)(c:Ctx)(no:Bool),c≠ .text->e.ne=30- (n:Int)->qy e ((a1 false n).ls c no) (λa r pd=>((a:Int),e.st r pd)) (λx=>R.ks x (C0 c) no)
theorem aV.aM{α β:Type}{e:cI}{r0 r:aa}{pd:aq}{m:ak α}{x:aa}{cv:α->aa->aq->β}{y:Option (bq an β)}(h:aV e r0 (m r pd) cv y):aV e r0 (m.aM x r pd) cv y:=by
 unfold ak.aM;cases hm:m r pd with
 |more op nd ds=>rw[hm] at h;exact h
 |ok a r1 b=>grind
 |bad q=>grind
 |deep q=>trivial
def cI.nm(e:cI)(x:aa):cI:=⟨e.S,e.ne,e.op++[x],e.ka⟩
theorem akp{R:bk}{n:Nat}(gL:C1 R n){e:cI}(bc:e.ne=30- (n:Int)){t:aa}{pd:aq}(h:dR e (34::t) pd):aV e t (eN (ba false n) t pd) (λ_=>e.st) (HS R (e.st (34::t) pd)):=by
 unfold HS;have l:=h.xn;refine cast (mj _ (b9 (show(e.st (34::t) pd).2.2.2.2.1.length+_<=536870912 by show e.op.length+1<=_;omega)).symm) ?_
 have c:dR (e.nm [34]) t pd:=⟨h.b0,d_ h.sfx,by have:=h.jS;simp only[mA] at this;show _<=e.S.length;omega,by have:=h.ops;simp only[mA] at this;show(e.op++[[34]]).length+_<=_;simp only[xU,N1];show _<=e.S.length+1;omega⟩
 have hu:=gL.im (e.nm [34]) bc t pd c;have d:W (az e.S (34::t)+1)=az e.S t:=iR h.b0 h.sfx;have f:((e.st (34::t) pd).1,(W ((e.st (34::t) pd).2.1+1)),(e.st (34::t) pd).2.2.1,(e.st (34::t) pd).2.2.2.1,((e.st (34::t) pd).2.2.2.2.1++([([34]:aa)]:bt)),(e.st (34::t) pd).2.2.2.2.2)=(e.nm [34]).st t pd:=by show(e.S,W (az e.S (34::t)+1),pd,e.ne,e.op++[[34]],e.ka)=_;rw[d];rfl
 rw[f];unfold eN ak.named ak.aM;cases hm:jk 34 (cE (ba false n) none) t pd with
 |ok a r1 g=>
  rw[hm] at hu;obtain⟨ad,b,i⟩:=hu
  refine⟨ad,⟨h.b0,b.sfx,b.jS,by have:=b.ops;have j:(e.nm [34]).op.length=e.op.length+1:=by simp[cI.nm]
                                rw[j] at this;have m:(e.nm [34]).S=e.S:=rfl;grind⟩,?_⟩
  rw[e6 i];have k:W (((e.op++[[34]]).length:Int)-1)=e.op.length:=by grind[dW,List.length_append,List.length_singleton]
  have hl:((e.nm [34]).st r1 g).2.2.2.2.1=e.op++[[34]]:=rfl;simp only[hl,k];refine(b9 (by grind)).trans ?_;have:b_ (e.op++[[34]]) 0 (e.op.length:Int)=e.op:=by simp[b_]
  rw[this];rfl
 |more op nd ds=>rw[hm] at hu;obtain⟨st,ad,b⟩:=hu;exact⟨st,hI ad,by grind[cI.nm]⟩
 |bad q=>rw[hm] at hu;obtain⟨ad,st,b⟩:=hu;exact⟨ad,st,hI b⟩
 |deep q=>trivial
def MD(e:cI)(b:UInt8)(t:aa)(pd:aq)(m:dw Unit)(y:Option (bq an (Bool×an))):Prop:=match m with
 | .ok _ r' a=>r'<:+t/\dR e r' a/\(y=some (.inr (true,e.st r' a))\/(y=some (.inr (false,e.st (b::t) pd))/\r'=t/\a=pd))
 | .more op _ _=>My e op y
 | .bad r=>r<:+e.S/\∃st,y=some (.inl (2,az e.S r,st))
 | .deep _=>True
theorem dR.fv{e:cI}{r t:aa}{pd:aq}{x:aa}(h:dR e r pd)(a:t<:+r)(hl:t.length<r.length):dR (e.fv x) t pd:=
 ⟨h.b0,a.trans h.sfx,by have:=h.jS;show _<=e.S.length;omega,by have:=h.ops;show(e.op++[x]).length+_<=e.S.length+1;grind⟩
theorem dR.out{e:cI}{r:aa}{pd:aq}{x:aa}(h:dR (e.fv x) r pd):dR e r pd:=
 ⟨h.b0,h.sfx,h.jS,by
  have:=h.ops;have a:(e.fv x).op.length=e.op.length+1:=by simp[cI.fv]
  have b:(e.fv x).S=e.S:=rfl;grind⟩
theorem akq{α β:Type}{R:bk}{e:cI}{r t:aa}{pd:aq}{x:aa}{p:Int}{m:ak α}{cv:α->aa->aq->β}{F:an->Option (bq an β)}{k:β->Option (bq an an)}{G:an->an}
  (ad:0<=e.ne) (f:e.ne<30) (h:dR e r pd) (i:t<:+r) (hl:t.length<r.length) (g:G ((e.fv x).st r pd)=(e.fv x).st t pd)
  (hm:aV (e.fv x) t (m t pd) cv (F ((e.fv x).st t pd)))
  (hk:∀a r1 b,m t pd= .ok a r1 b->dR (e.fv x) r1 b->k (cv a r1 b)=some (.inr (e.st r1 b))):
  aV e t (ae (m.named x) (λ_=>aW ()) t pd) (λ_=>e.st) (bb (yt (e.st r pd) p x) (λx=>x) λy=>bb (F (G y)) (λx=>x) k):=by
 rw[e6 (MA h ad f),g];have:=hm.named;unfold ae;cases ax:(m.named x) t pd with
 |ok a r1 b=>rw[ax] at this;obtain⟨c,d,j⟩:=this;have l:=CN.1 ax;exact⟨c,d.out,by grind[e6]⟩
 |more op nd ds=>rw[ax] at this;obtain⟨st,c,d⟩:=this;exact⟨st,hI c,d⟩
 |bad q=>rw[ax] at this;obtain⟨c,st,d⟩:=this;exact⟨c,st,hI d⟩
 |deep q=>trivial
theorem aV.dX{α β:Type}{e:cI}{r0:aa}{m:dw α}{cv:α->aa->aq->β}{y a:Option (bq an β)}(h:aV e r0 m cv y)(b:a=y):aV e r0 m cv a:=b▸h
theorem FI(m:ak Unit)(r:aa)(pd:aq):ae m (λ_=>aW ()) r pd=m r pd:=by unfold ae;cases m r pd<;>rfl
theorem YF(fr:Bool)(n:Nat):(a1 fr n).pm=q3 (ba fr n):=by cases n<;>rfl
theorem akr{R:bk}{n:Nat}(gL:∀m,n=m+1->MC R m){e:cI}(bc:e.ne=30- (n:Int))(ax:n<=30){u:aa}{pd:aq}(h:dR e (36::123::u) pd):
  aV e u (ba false n (36::123::u) pd) (λ_=>e.st) (w3 R (e.st (36::123::u) pd)):=by
 cases n with
 |zero=>show aV e u (dM none _ _) _ _;unfold dM;rw[aS (by simp),aS (by simp),bo (by simp)];trivial
 |succ m=>
  have hu:=(gL m rfl).im (e.fv [36,123]) (by show e.ne+1=_;omega);have f:W (az e.S (36::123::u)+2)=az e.S u:=kB (w:=[36,123]) h.b0 h.sfx;have c:W (az e.S (36::123::u)+1)=az e.S (123::u):=iR h.b0 h.sfx;have d:u<:+36::123::u:=(ee 123 u).trans (ee 36 _);have hm:=aV.aM (x:=[125]) (hu u pd (h.fv d (by grind)));have:=akq (R:=R) (p:=az e.S (36::123::u)) (F:=λx=>R.yk x 125 true) (G:=λy=>(y.1,(W (y.2.1+2)),y.2.2.1,y.2.2.2.1,y.2.2.2.2.1,y.2.2.2.2.2)) (k:=λg=>aw (uo g) λb=>some (.inr (b.1,b.2.1,b.2.2.1,b.2.2.2.1,b.2.2.2.2.1,b.2.2.2.2.2)))
   (by omega) (by omega) h d (by grind) (by show(e.S,W (az e.S (36::123::u)+2),pd,e.ne+1,e.op++[[36,123]],e.ka)=_;rw[f];rfl) hm
   (λa r1 i _ _=>by rw[MB h.xn (by omega) (by omega)];rfl)
  rw[FI] at this;have aB:ba false (m+1) (36::123::u) pd=((a1 false m).pm.named [36,123]) u pd:=by rfl
  rw[aB,YF];refine aV.dX this ?_
  ·unfold w3 a_;refine(b9 (show 0<=W (az e.S (36::123::u)+1)/\W (az e.S (36::123::u)+1)<(e.S.length:Int) by rw[c];exact hY (d_ h.sfx))).trans ?_;have:((at' (e.st (36::123::u) pd).1 (W ((e.st (36::123::u) pd).2.1+1))).toNat:Int)=123:=by show((at' e.S (W (az e.S (36::123::u)+1))).toNat:Int)=123;rw[c,jD (d_ h.sfx)];rfl
   simp only[this,bA,aK];rfl
theorem YG:∀(r:aa)(d:Nat)(q:aa),hQ d r= .bad q->q<:+r
 |[],d,q,h=>by grind[hQ]
 |b::t,d,q,h=>by
  have a:=λd=>YG t d;unfold hQ at h;split at h
  ·cases h;exact fQ
  ·split at h
   ·exact((a _) q h).trans (ee b t)
   ·split at h
    ·split at h
     ·exact((a _) q h).trans (ee b t)
     ·split at h
      ·cases h
      ·split at h
       ·cases h
       ·cases h;exact fQ
    ·exact((a _) q h).trans (ee b t)
theorem aks{R:bk}{n:Nat}{e:cI}{u:aa}{pd:aq}(h:dR e (36::40::40::u) pd):
  aV e u (ba false n (36::40::40::u) pd) (λ_=>e.st) (w3 R (e.st (36::40::40::u) pd)):=by
 have aB:ba false n (36::40::40::u) pd=nz u pd:=by
  cases n with
  |zero=>rfl
  |succ m=>rfl
 rw[aB];have c:W (az e.S (36::40::40::u)+1)=az e.S (40::40::u):=iR h.b0 h.sfx;have d:W (az e.S (36::40::40::u)+2)=az e.S (40::u):=kB (w:=[36,40]) h.b0 h.sfx;have f:W (az e.S (36::40::40::u)+3)=az e.S u:=kB (w:=[36,40,40]) h.b0 h.sfx;have hu:u<:+e.S:=d_ (d_ (d_ h.sfx));have g:u<:+36::40::40::u:=(gY [36,40,40] u);unfold w3 a_;simp only[cI.st,c,d,f,jD (d_ h.sfx),jD (d_ (d_ h.sfx)),CZ,CY];refine aV.dX ?_ (b9 (hY (d_ h.sfx)));simp only[show¬((40:UInt8)=123) by decide,bF,aR];refine aV.dX ?_ (b9 (λ_=>hY (d_ (d_ h.sfx))));simp only[nc (d_ (d_ h.sfx)),bA,aK,YE h.b0 hu];refine aV.dX ?_ (aP rfl);unfold nz;cases b:hQ 0 u with
 |ok q=>
  have a:=AP 0 u q b;have h0:¬az e.S q= -1:=by grind[eO,az]
  have ad:¬az e.S q= -2:=by grind[eO,az]
  refine⟨a,h.mono (a.trans g),?_⟩;simp[qx,h0,ad];rfl
 |more k=>simp only[qx,bA,aK];exact Mz rfl rfl h.xn λ_=>rfl
 |bad q=>have a:=YG u 0 q b;refine⟨a.trans hu,?_⟩;simp only[qx,show¬((-2:Int)= -1) by decide,bF,aR,bA,aK];exact⟨_,rfl⟩
theorem YH{σ α:Type}{f:σ->ak (σ⊕α)}{Q:aa->Prop}(hf:∀s r pd a r' b,f s r pd= .ok (.inr a) r' b->Q r'):∀(N:Nat)(s:σ)(r:aa)(pd:aq)(a:α)(r':aa)(b:aq),r.length<=N->cb f s r pd= .ok a r' b->Q r':=by
 intro N;induction N with
 |zero=>intro s r pd a r' b c h;rw[cH] at h;unfold cO at h;grind
 |succ N d=>intro s r pd a r' b c h;rw[cH] at h;unfold cO at h;grind
theorem I8{x r:aa}{pd:aq}{t:Tok}{r':aa}{a:aq}(h:bQ x r pd= .ok t r' a):bx r=some r'/\t=av r'/\a=pd:=by
 unfold bQ at h;split at h
 ·grind[b7]
 grind
theorem y4{ao:ak Unit}{c:Ctx}{no:Bool}(aF:c≠ .text){r:aa}{pd:aq}{a:Nat}{r':aa}{d:aq}(h:oz ao c no r pd= .ok a r' d):bx r'=some r'/\dT c (av r')=true:=by
 rw[uO] at h;obtain⟨_,r1,v,_,h⟩:=b3 h;refine YH (Q:=λr'=>bx r'=some r'/\dT c (av r')=true) (λs r pd a r' d h=>?_) _ _ _ _ _ _ _ (cX _) h;unfold eh at h;generalize (if(no||decide (s>0))=true then([]:aa) else [120])=k at h;obtain⟨t,e,x,ad,g⟩:=b3 h;clear h;obtain⟨l,rfl,rfl⟩:=I8 ad;have y:=lO _ _ _ (cX _) l;by_cases he:av e= .eof
 ·simp_all[bo,aS,b7]
 rw[aS he] at g;by_cases f:((no||decide (s>0))&&dT c (av e))=true
 ·rw[bo f] at g;cases g;grind
 rw[aS f] at g;obtain⟨_,z,A,_,g⟩:=b3 g;obtain⟨t,m,B,n,b⟩:=b3 g;clear g;obtain⟨q,rfl,rfl⟩:=I8 n;have u:=lO _ _ _ (cX _) q;cases hk:av m with
 |eof=>rw[hk] at b;cases b
 |line=>rw[hk] at b;obtain⟨_,_,_,_,b⟩:=b3 b;cases b
 |word w p=>rw[hk] at b;cases b
 |op o=>
  rw[hk] at b;unfold hX at b;simp only at b;by_cases i:o=[59]\/o=[38]
  ·rw[bo i] at b;obtain⟨_,_,_,_,b⟩:=b3 b;obtain⟨_,_,_,_,b⟩:=b3 b;cases b
  ·rw[aS i] at b;by_cases j:dT c (.op o)=true
   ·rw[bo j] at b;cases b;grind
   ·rw[aS j] at b;cases b
theorem FJ{o v:aa}{pd:aq}(a:bx v=some v)(b:av v= .op o):jR o v pd= .ok () (v.drop o.length) pd:=by unfold jR na;rw[aZ (cB a),b,aS (by simp)];simp[b2]
theorem YI{e:cI}{v:aa}{pd:aq}{o:aa}(h:dR e v pd)(a:bx v=some v)(b:av v= .op o):v.drop o.length<:+v/\sh (e.st v pd) o=some (.inr (e.st (v.drop o.length) pd)):=by have:=Mv o h;rw[FJ a b] at this;exact⟨this.1,this.2.2⟩
theorem YJ{R:bk}{n:Nat}(bj:∀m,n=m+1->xp R m){e:cI}(bc:e.ne=30- (n:Int))(ax:n<=30){u:aa}{pd:aq}(hu:u.head?≠some 40)(h:dR e (36::40::u) pd):
  aV e u (ba false n (36::40::u) pd) (λ_=>e.st) (w3 R (e.st (36::40::u) pd)):=by
 have g:¬([36,40,40]:aa).isPrefixOf (36::40::u)=true:=by
  cases u with
  |nil=>simp
  |cons c v=>grind
 cases n with
 |zero=>show aV e u (dM none _ _) _ _;unfold dM;rw[aS g,bo (by simp)];trivial
 |succ m=>
  have hl:=(bj m rfl).im (e.fv [36,40]) .paren true (by simp) (by show e.ne+1=_;omega);have i:W (az e.S (36::40::u)+2)=az e.S u:=kB (w:=[36,40]) h.b0 h.sfx;have j:W (az e.S (36::40::u)+1)=az e.S (40::u):=iR h.b0 h.sfx;have t:u<:+36::40::u:=(ee 40 u).trans (ee 36 _);have y:=h.fv (x:=[36,40]) t (by grind);have hm:=aV.aM (x:=[41]) (hl u pd y);have aB:ba false (m+1) (36::40::u) pd=uK (a1 false m) u pd:=by show dM (some (a1 false m)) _ _=_;unfold dM;rw[aS g,bo (by simp)];rfl
  rw[aB];unfold w3 a_;refine aV.dX ?_ (b9 (show 0<=W (az e.S (36::40::u)+1)/\W (az e.S (36::40::u)+1)<(e.S.length:Int) by rw[j];exact hY (d_ h.sfx)));simp only[cI.st,j,i,jD (d_ h.sfx),CZ,CY];simp only[show¬((40:UInt8)=123) by decide,bF,aR];have bf:decide (az e.S u<(e.S.length:Int))=true->0<=az e.S u/\az e.S u<(e.S.length:Int):=by
   intro z;cases u with
   |nil=>grind[iu]
   |cons c v=>exact hY (d_ (d_ h.sfx))
  refine aV.dX ?_ (b9 bf);have hf:(bif decide (az e.S u<(e.S.length:Int)) then decide (at' e.S (az e.S u)=40) else false)=false:=by
   cases u with
   |nil=>simp[iu]
   |cons c v=>have:¬c=40:=λz=>hu (by grind);simp[jD (d_ (d_ h.sfx)),this]
  simp only[hf,aR];have A:=MA (p:=az e.S (36::40::u)) (x:=[36,40]) h (by omega) (by omega);refine aV.dX ?_ (e6 A);have B:(((e.fv [36,40]).st (36::40::u) pd).1,(W (((e.fv [36,40]).st (36::40::u) pd).2.1+2)),((e.fv [36,40]).st (36::40::u) pd).2.2.1,((e.fv [36,40]).st (36::40::u) pd).2.2.2.1,((e.fv [36,40]).st (36::40::u) pd).2.2.2.2.1,((e.fv [36,40]).st (36::40::u) pd).2.2.2.2.2)=(e.fv [36,40]).st u pd:=by show(e.S,W (az e.S (36::40::u)+2),pd,e.ne+1,e.op++[[36,40]],e.ka)=_;rw[i];rfl
  rw[B];unfold uK;have b:=hm.named;unfold ae;cases hk:(((a1 false m).ls .paren true).aM [41]).named [36,40] u pd with
  |ok a r1 C=>
   rw[hk] at b;obtain⟨f,d,D⟩:=b;have k:=jC.1 (CN.1 hk);rw[Fq] at k;obtain⟨l,H⟩:=y4 (by simp) k;have o:av r1= .op [41]:=by grind[dT]
   obtain⟨s,E⟩:=YI d l o;simp only;rw[FJ l o];have F:=(d.mono s);refine⟨s.trans f,F.out,?_⟩;refine(e6 D).trans ((e6 E).trans ?_);have G:=MB (r:=r1.drop 1) (pd:=C) (x:=[36,40]) h.xn (show 0<=e.ne by omega) (by omega);exact(aP G).trans rfl
  |more op nd ds=>rw[hk] at b;obtain⟨st,f,d⟩:=b;exact⟨st,hI f,d⟩
  |bad q=>rw[hk] at b;obtain⟨f,st,d⟩:=b;exact⟨f,st,hI d⟩
  |deep q=>trivial
structure Below(R:bk)(n:Nat):Prop where
 le:n<=30
 u1:∀m,n=m+1->MC R m
 ls:∀m,n=m+1->xp R m
theorem YK{R:bk}{n:Nat}(a:Below R n){e:cI}(bc:e.ne=30- (n:Int)){b:UInt8}{t:aa}{pd:aq}(f:gb (b::t)=true)(h:dR e (b::t) pd):
  aV e t (ba false n (b::t) pd) (λ_=>e.st) (w3 R (e.st (b::t) pd)):=by
 rw[sI] at f;cases t with
 |nil=>grind
 |cons c u=>
  simp only[hj,Bm,Uv] at f;obtain⟨rfl,rfl|rfl⟩:=f
  ·cases u with
   |nil=>exact(YJ a.ls bc a.le (by simp) h).mono (ee _ _)
   |cons d v=>
    by_cases aE:d=40
    ·subst aE;exact(aks (n:=n) h).mono ((ee _ _).trans (ee _ _))
    ·exact(YJ a.ls bc a.le (by grind) h).mono (List.suffix_cons _ _)
  ·exact(akr a.u1 bc a.le h).mono (ee _ _)
theorem YL{R:bk}{n:Nat}(M:Below R n)(i:Bool)(gL:i=true->C1 R n){e:cI}(bc:e.ne=30- (n:Int)){b:UInt8}{t:aa}{pd:aq}(h:dR e (b::t) pd):
  MD e b t pd (cE (ba false n) (if i then some (eN (ba false n)) else none) (b::t) pd) (Aa R (e.st (b::t) pd) i):=by
 have j:t<:+b::t:=ee b t;have D:=iR h.b0 h.sfx;have v:W (az e.S (b::t)+1)=az e.S t:=D;unfold Aa a_;have bf:0<=(e.st (b::t) pd).2.1/\(e.st (b::t) pd).2.1<((e.st (b::t) pd).1.length:Int):=hY h.sfx;rw[b9 bf];have E:at' (e.st (b::t) pd).1 (e.st (b::t) pd).2.1=b:=jD h.sfx;simp only[E,mM,q_,n3,n4];unfold cE;simp only;by_cases k:b=92
 ·subst k;simp only[bA,aK,cD];have F:min (W (az e.S (92::t)+2)) (e.S.length:Int)=az e.S (t.drop 1):=by
   have hl:=eO h.sfx;have N:=h.b0;cases t with
   |nil=>
    have:W (az e.S [92]+2)=(e.S.length:Int)+1:=by grind[az,dW,List.length_singleton]
    grind[iu]
   |cons c u=>have O:W (az e.S (92::c::u)+2)=az e.S u:=kB (w:=[92,c]) h.b0 h.sfx;grind[o5]
  refine⟨lP 1 t,h.mono ((lP 1 t).trans j),.inl ?_⟩;show some (Sum.inr (true,e.S,min (W (az e.S (92::t)+2)) (e.S.length:Int),pd,e.ne,e.op,e.ka))=_;rw[F];rfl
 rw[aS k];simp only[k,bF,aR];have z:∀(o:Option aa)(x:aa),(∀q,o=some q->q<:+t)->MD e b t pd (match o with|some r'=>dw.ok () r' pd|none=> .more [x] x pd)
   (bif decide (k4 e.S o<0) then bb (wX ((e.st (b::t) pd).1,k4 e.S o,(e.st (b::t) pd).2.2.1,(e.st (b::t) pd).2.2.2.1,(e.st (b::t) pd).2.2.2.2.1,(e.st (b::t) pd).2.2.2.2.2) x) (λx=>x) (λy=>Empty.elim y)
    else some (.inr (true,(e.st (b::t) pd).1,k4 e.S o,(e.st (b::t) pd).2.2.1,(e.st (b::t) pd).2.2.2.1,(e.st (b::t) pd).2.2.2.2.1,(e.st (b::t) pd).2.2.2.2.2))):=by
  intro o x l;cases o with
  |none=>simp only[k4,show((-1:Int)<0) from by decide,bA,aK];exact Mz rfl rfl h.xn λ_=>rfl
  |some q=>
   have d:=l q rfl;have h0:¬az e.S q<0:=by have:=eO (d.trans (j.trans h.sfx));grind[az]
   simp only[k4,h0,bF,aR];exact⟨d,h.mono (d.trans j),.inl rfl⟩
 have G:B8 (e.st (b::t) pd).1 (W ((e.st (b::t) pd).2.1+1))=some (k4 e.S (g4 t)):=by show B8 e.S (W (az e.S (b::t)+1))=_;rw[v];exact akn h.b0 (d_ h.sfx)
 have H:vE (e.st (b::t) pd).1 (W ((e.st (b::t) pd).2.1+1))=some (k4 e.S (gd t)):=by show vE e.S (W (az e.S (b::t)+1))=_;rw[v];exact YD h.b0 (d_ h.sfx)
 have A:BW (e.st (b::t) pd).1 (e.st (b::t) pd).2.1=some (gb (b::t)):=Yu h.b0 h.sfx
 have I:∀(m:dw Unit)(y:Option (bq an an)),aV e t m (λ_=>e.st) y->MD e b t pd m (bb y (λx=>x) λy=>some (.inr (true,y.1,y.2.1,y.2.2.1,y.2.2.2.1,y.2.2.2.2.1,y.2.2.2.2.2))):=by
  intro m y hm;cases m with
  |ok a r1 P=>obtain⟨f,g,J⟩:=hm;exact⟨f,g,.inl (by rw[e6 J])⟩
  |more op nd ds=>obtain⟨st,f,g⟩:=hm;exact⟨st,hI f,g⟩
  |bad q=>obtain⟨f,st,g⟩:=hm;exact⟨f,st,hI g⟩
  |deep q=>trivial
 have K:MD e b t pd (dw.ok () t pd) (some (.inr (false,e.st (b::t) pd))):=⟨fQ,h.mono j,.inr ⟨rfl,rfl,rfl⟩⟩;by_cases r:b=96
 ·subst r;simp only[bA,aK,cD,show¬((96:UInt8)=39) by decide,bF,aR];rw[G,aP rfl];unfold jx;exact z (g4 t) [96] λq d=>Fx _ _ q (cX _) d
 rw[aS r];simp only[r,bF,aR];cases i with
 |true=>
  by_cases B:b=39
  ·subst B;simp only[bA,aK,cD];have s:gb (39::t)=false:=by rfl
   rw[s,H,aP rfl];unfold jx;exact z (gd t) [39] λq d=>AR _ q d
  simp only[B,bF,aR];by_cases C:b=34
  ·subst C;have s:gb (34::t)=false:=by rfl
   rw[s];simp only[bA,aK,cD,ew,cl,show¬((34:UInt8)=39) by decide];exact I _ _ (akp (gL rfl) bc h)
  simp only[C,bF,aR];rw[A,aP rfl];cases l:gb (b::t) with
  |true=>simp_all[aK,cD,YK]
  |false=>grind
 |false=>
  have L:∀p:Prop,∀[Decidable p],(bif decide p then false else false)=false:=by simp
  simp only[L,aR];rw[A,aP rfl];cases l:gb (b::t) with
  |true=>simp_all[aK,cD,YK]
  |false=>grind
theorem YM{R:bk}{n:Nat}(w:Below R n)(g:Bool)(gL:g=true->C1 R n){e:cI}(bc:e.ne=30- (n:Int))(c:UInt8):
  qy e (jk c (cE (ba false n) (if g then some (eN (ba false n)) else none))) (λ_=>e.st) (λx=>Ic R x c g):=by
 intro r pd h;unfold jk Ic;refine aV.rep (en:=λ_ r pd=>e.st r pd) (λk s r1 d ad hk=>?_) bC () r pd (lz (lQ (eO h.sfx) h.b0)) h;unfold QT a_;cases r1 with
 |nil=>
  have hl:decide (((e.st [] d).1.length:Int)<=(e.st [] d).2.1)=true:=by simp[cI.st,iu]
  show aV e [] (cO _ [] (b7 [] [] d)) _ (bif decide (((e.st [] d).1.length:Int)<=(e.st [] d).2.1) then _ else _);rw[hl];exact aV.Ys (k:=λy=>Empty.elim y) (f:=λx=>(x.1,x.2.1,d,x.2.2.2.1,e.op,x.2.2.2.2.2)) c4.k rfl rfl
 |cons b t=>
  have hl:decide (((e.st (b::t) d).1.length:Int)<=(e.st (b::t) d).2.1)=false:=by grind[nc,az,cI.st]
  show aV e (b::t) (cO _ (b::t) (if b=c then _ else _)) _ (bif decide (((e.st (b::t) d).1.length:Int)<=(e.st (b::t) d).2.1) then _ else _);rw[hl];simp only[aR];refine aV.dX ?_ (b9 (hY ad.sfx));have A:at' (e.st (b::t) d).1 (e.st (b::t) d).2.1=b:=jD ad.sfx;have m:t<:+b::t:=ee b t;by_cases aF:b=c
  ·subst aF;rw[bo rfl];refine aV.dX ?_ (show(bif decide (((at' (e.st (b::t) d).1 (e.st (b::t) d).2.1).toNat:Int)=(b.toNat:Int)) then _ else _)=some (.inr (e.S,W (az e.S (b::t)+1),d,e.ne,e.op,e.ka)) by grind);rw[iR ad.b0 ad.sfx];exact aV.inr m (ad.mono m) rfl
  ·rw[aS aF];have aE:decide (((at' (e.st (b::t) d).1 (e.st (b::t) d).2.1).toNat:Int)=(c.toNat:Int))=false:=by grind[ra]
   refine aV.dX (y:=bb (Aa R (e.st (b::t) d) g) (λx=>x) λz=>bif !z.1 then k (z.2.1,W (z.2.2.1+1),z.2.2.2.1,z.2.2.2.2.1,z.2.2.2.2.2.1,z.2.2.2.2.2.2) else k z.2) ?_ (by show(bif decide (((at' (e.st (b::t) d).1 (e.st (b::t) d).2.1).toNat:Int)=(c.toNat:Int)) then _ else _)=_;rw[aE];rfl)
   have aB:=YL w g gL bc ad;unfold ae;cases hm:cE (ba false n) (if g=true then some (eN (ba false n)) else none) (b::t) d with
   |ok a o p=>
    rw[hm] at aB;obtain⟨i,j,l⟩:=aB;have u:o.length<(b::t).length:=by grind
    refine aV.inl u ?_;have v:=hk () o p (i.trans m) j u;rcases l with l|⟨l,rfl,rfl⟩
    ·rw[e6 l];exact v
    ·rw[e6 l];show aV e _ _ _ (k (e.S,W (az e.S (b::o)+1),p,e.ne,e.op,e.ka));rw[iR ad.b0 ad.sfx];exact v
   |more op nd ds=>rw[hm] at aB;obtain⟨st,i,j⟩:=aB;exact⟨st,hI i,j⟩
   |bad q=>rw[hm] at aB;obtain⟨i,st,j⟩:=aB;exact⟨i,st,hI j⟩
   |deep q=>trivial
theorem akt{k n:Nat}(a:Below (kM k) n):C1 (kM (k+1)) n:=⟨λe bc=>YM a false (λh=>by cases h) bc 34⟩
theorem aku{k n:Nat}(a:Below (kM k) n)(gL:C1 (kM k) n):MC (kM (k+1)) n:=⟨λe bc=>YM a true (λ_=>gL) bc 125⟩
structure tE(R:bk)(n:Nat):Prop extends Below R n where
 u0:C1 R n
theorem ME{t:Tok}:(jo t).1=3↔ ∃w p,t= .word w p:=by cases t<;>simp[jo]
def akv:an->Option (bq an an):=λx=>bif decide (x.2.1=(x.1.length:Int)) then bb (ry x) (λy=>(y.1,y.2.1,x.2.2.1,y.2.2.2.1,x.2.2.2.2.1,y.2.2.2.2.2)) λy=>Empty.elim y else some (.inr x)
theorem MF{R:bk}{n:Nat}(hA:tE R n){e:cI}(bc:e.ne=30- (n:Int)){r:aa}{pd:aq}(h:dR e r pd)(A:bx r=some r){w:aa}{p:Bool}(j:av r= .word w p):
  aV e r (cQ (ba false n) r pd) (λ_=>e.st) (lh R (e.st r pd)):=by
 have e0:lh R (e.st r pd)=fixF (K_ R akv) bC (e.st r pd):=by
  unfold lh a_;refine(e6 ((k3 e).some h A)).trans ?_;have:(jo (av r)).1=3:=by rw[j];rfl
  simp only[this,bA,gW,aR];rfl
 rw[e0];unfold cQ;refine aV.rep (en:=λ_ r pd=>e.st r pd) (λk s r1 c ad hk=>?_) bC () r pd (lz (lQ (eO h.sfx) h.b0)) h;unfold K_ a_;have B:wT (e.st r1 c).1 (e.st r1 c).2.1=some (c3 r1):=Sp ad.b0 ad.sfx;refine aV.dX ?_ (aP B);cases r1 with
 |nil=>
  have hl:decide ((e.st [] c).2.1=((e.st [] c).1.length:Int))=true:=by simp[cI.st,iu]
  show aV e [] (cO _ [] (b7 [] [] c)) _ (bif decide ((e.st [] c).2.1=((e.st [] c).1.length:Int)) then _ else _);rw[hl];exact aV.Ys (k:=λy=>Empty.elim y) (f:=λx=>(x.1,x.2.1,c,x.2.2.2.1,e.op,x.2.2.2.2.2)) c4.k rfl rfl
 |cons b t=>
  have j:t<:+b::t:=ee b t;simp only;by_cases l:c3 (b::t)=true
  ·rw[bo l,l];have hl:decide ((e.st (b::t) c).2.1=((e.st (b::t) c).1.length:Int))=false:=by simp[cI.st,y1]
   show aV e (b::t) (cO _ (b::t) (aW (.inr ()) (b::t) c)) _ (bif decide ((e.st (b::t) c).2.1=((e.st (b::t) c).1.length:Int)) then _ else _);rw[hl];exact aV.inr fQ ad rfl
  ·have C:c3 (b::t)=false:=by grind
   rw[aS l,C];refine aV.dX (y:=bb (Aa R (e.st (b::t) c) true) (λx=>x) λz=>bif !z.1 then k (z.2.1,W (z.2.2.1+1),z.2.2.2.1,z.2.2.2.2.1,z.2.2.2.2.2.1,z.2.2.2.2.2.2) else k z.2) ?_ rfl;have aB:=YL hA.toBelow true (λ_=>hA.u0) bc ad;unfold ae;simp only[cD] at aB;cases hm:cE (ba false n) (some (eN (ba false n))) (b::t) c with
   |ok a m o=>
    rw[hm] at aB;obtain⟨d,g,i⟩:=aB;have u:m.length<(b::t).length:=by grind
    refine aV.inl u ?_;have v:=hk () m o (d.trans j) g u;rcases i with i|⟨i,rfl,rfl⟩
    ·rw[e6 i];exact v
    ·rw[e6 i];show aV e _ _ _ (k (e.S,W (az e.S (b::m)+1),o,e.ne,e.op,e.ka));rw[iR ad.b0 ad.sfx];exact v
   |more op nd ds=>rw[hm] at aB;obtain⟨st,d,g⟩:=aB;exact⟨st,hI d,g⟩
   |bad q=>rw[hm] at aB;obtain⟨d,st,g⟩:=aB;exact⟨d,st,hI g⟩
   |deep q=>trivial
theorem akw{α β:Type}{e:cI}{r0 r:aa}{pd:aq}{x:aa}{cv:α->aa->aq->β}{f:an->an}{k:Empty->Option (bq an β)}(h:dR e r pd)(b:bx r=some r)(hf:∀st,(f st).2.2.2.2.1=st.2.2.2.2.1\/(f st).2.2.2.2.1=e.op):
  aV e r0 ((if av r= .eof then b7 x else bK:ak α) r pd) cv (bb (kL (e.st r pd)) f k):=by
 by_cases a:av r= .eof
 ·rw[bo a];exact(((tB h b).1 a).bind hf).rQ
 ·rw[aS a];exact⟨h.sfx,_,hI ((tB h b).2 a)⟩
theorem MG{α β:Type}{m:ak α}{e:cI}{r0 r:aa}{pd:aq}{x:aa}{cv:α->aa->aq->β}{f:an->an}{k:Empty->Option (bq an β)}(h:dR e r pd)(a:bx r=some r)(ad:av r= .eof->m=b7 x)(b:av r≠ .eof->m=bK)(hf:∀st,(f st).2.2.2.2.1=st.2.2.2.2.1\/(f st).2.2.2.2.1=e.op):
  aV e r0 (m r pd) cv (bb (kL (e.st r pd)) f k):=by
 have:=akw (α:=α) (r0:=r0) (x:=x) (cv:=cv) (f:=f) (k:=k) h a hf;by_cases c:av r= .eof
 ·simp_all
 simp_all
theorem Sx{R:bk}{n:Nat}(hA:tE R n){e:cI}(bc:e.ne=30- (n:Int))(x:aa):qy e (jQ (ba false n) x) (λ_=>e.st) (lh R):=by
 intro r pd h;unfold jQ;cases a:bx r with
 |none=>rw[dh (iE a)];unfold lh a_;exact(((k3 e).none h a).bind λ_=> .inr rfl).rQ
 |some r'=>
  rw[aZ (cB a)];have g:=dV a;have c:=h.mono g;have d:=lO _ _ _ (cX _) a;by_cases b:∃w p,av r'= .word w p
  ·obtain⟨w,p,b⟩:=b;rw[b];have f:lh R (e.st r pd)=lh R (e.st r' pd):=by unfold lh a_;refine(e6 ((k3 e).some h a)).trans (Eq.symm ((e6 ((k3 e).some c d)).trans ?_));rfl
   rw[f];exact(MF hA bc c d b).mono g
  ·have i:decide ((jo (av r')).1=3)=false:=by grind[decide_eq_false_iff_not,ME]
   have f:lh R (e.st r pd)=bb (kL (e.st r' pd)) (λx=>(x.1,x.2.1,pd,x.2.2.2.1,e.op,x.2.2.2.2.2)) λy=>Empty.elim y:=by unfold lh a_;refine(e6 ((k3 e).some h a)).trans ?_;simp only[i,e8,aK];rfl
   rw[f];refine MG (x:=x) c d (λhk=>by rw[hk]) (λhk=>?_) λ_=> .inr rfl;grind
theorem FK:dl [] 0=some []:=by simp[dl]
theorem Sy(q:UInt8)(a:q=0\/q=34)(c:UInt8)(u:aa):dl (92::c::u) q=if c=10 then dl u q else if q=0\/c=36\/c=34\/c=92\/c=96 then(dl u q).map (c::·) else(dl (c::u) q).map (92::·):=by rw[dl];grind
theorem akx(q:UInt8)(a:q=0\/q=34):dl [92] q=none:=by rw[dl];rcases a with rfl|rfl<;>simp
theorem MH(q:UInt8)(a:q=0\/q=34)(b:UInt8)(c:b=36\/b=96)(u:aa):dl (b::u) q=none:=by rw[dl.eq_def];grind
theorem YN(u:aa):dl (34::u) 34=dl u 0:=by grind[dl.eq_def]
theorem C2(u:aa):dl (34::u) 0=dl u 34:=by grind[dl.eq_def]
theorem Sz(u:aa):dl (39::u) 0=dl u 39:=by grind[dl.eq_def]
theorem I9(q:UInt8)(a:q=0\/q=34)(b:UInt8)(ad:b≠92)(c:b≠36)(d:b≠96)(e:b≠34)(f:q=0->b≠39)(u:aa):dl (b::u) q=(dl u q).map (b::·):=by rw[dl.eq_def];grind
theorem SA(c:UInt8)(u:aa):dl (92::c::u) 34=(dl u 34).map (AN c++·):=by
 rw[Sy 34 (.inr rfl)];unfold AN;by_cases h:c=36\/c=34\/c=92\/c=96
 ·grind
 ·rw[aS h];by_cases a:c=10
  ·simp_all
  ·rw[aS a,aS a,aS (by grind)];simp only[not_or] at h;rw[I9 34 (.inr rfl) c h.2.2.1 h.1 h.2.2.2 h.2.1 (λb=>absurd b (by decide))];cases dl u 34<;>rfl
theorem MI(t:aa):eE (34::t)= .closed [] t:=by simp[eE.eq_def]
theorem SB(b:UInt8)(a:b=36\/b=96)(t:aa):eE (b::t)= .part:=by rw[eE.eq_def];grind
theorem SC:eE [92]= .part:=by rfl
theorem MJ(c:UInt8)(u:aa):eE (92::c::u)=(eE u).add (AN c):=by rfl
theorem MK(b:UInt8)(ad:b≠34)(a:¬(b=36\/b=96))(c:b≠92)(t:aa):eE (b::t)=(eE t).add [b]:=by grind[eE.eq_def]
theorem YO:∀(n:Nat)(t:aa),t.length<=n->match eE t with
  | .closed o r=>∃a,t=a++r/\∀v,dl (a++v) 34=(dl v 0).map (o++·)
  | .open_ o=>dl (t++[34]) 34=some o
  | .part=>dl (t++[34]) 34=none:=by
 intro n;induction n with
 |zero=>intro t h;have:t=[]:=nH.1 (by omega);subst this;show dl [34] 34=some [];rw[YN,FK]
 |succ n i=>
  intro t ax;cases t with
  |nil=>grind
  |cons b t=>
   have j:t.length<=n:=by grind
   have d:∀(x u p:aa),u.length<=n->b::t=p++u->eE (b::t)=(eE u).add x->(∀v,dl (p++v) 34=(dl v 34).map (x++·))->match eE (b::t) with
     | .closed o r=>∃a,b::t=a++r/\∀v,dl (a++v) 34=(dl v 0).map (o++·)
     | .open_ o=>dl (b::t++[34]) 34=some o
     | .part=>dl (b::t++[34]) 34=none:=by
    intro x u p hu he k aE;have:=i u hu;rw[k];cases hk:eE u with
    |closed o r=>rw[hk] at this;obtain⟨a,rfl,l⟩:=this;refine⟨p++a,by grind,λv=>?_⟩;rw[jc,aE,l];cases dl v 0<;>simp
    |part=>grind[jl.add,List.append_assoc]
    |open_ o=>grind[jl.add,List.append_assoc]
   by_cases e:b=34
   ·subst e;rw[MI];exact⟨[34],rfl,λv=>by simp[YN]⟩
   by_cases aB:b=36\/b=96
   ·rw[SB b aB];exact MH 34 (.inr rfl) b aB _
   by_cases f:b=92
   ·subst f;cases t with
    |nil=>simp[SC,dl,SA]
    |cons c u=>exact d (AN c) u [92,c] (by grind) rfl (MJ c u) λv=>SA c v
   ·have g:b≠36/\b≠96:=by grind
    refine d [b] t [b] j rfl (MK b e aB f t) λv=>?_;show dl (b::v) 34=_;rw[I9 34 (.inr rfl) b f g.1 g.2 e (λm=>absurd m (by decide))];rfl
theorem I_:∀(t:aa),match gd t with
  |some r=>∃a,t=a++39::r/\a=t.take (t.length-r.length-1)/\∀v,dl (a++39::v) 39=(dl v 0).map (a++·)
  |none=>dl t 39=none
 |[]=>by show dl [] 39=none;simp[dl]
 |b::t=>by
  have c:=I_ t;unfold gd;by_cases d:b=39
  ·subst d;rw[bo rfl];refine⟨[],rfl,by simp,λv=>?_⟩;show dl (39::v) 39=_;rw[dl.eq_def];simp
  ·rw[aS d]
   have aE:∀v,dl (b::v) 39=(dl v 39).map (b::·):=by grind[dl.eq_def]
   cases e:gd t with
   |none=>grind
   |some r=>
    rw[e] at c;obtain⟨a,ad,g,f⟩:=c;have hl:t.length=a.length+1+r.length:=by grind
    refine⟨b::a,by grind,?_,λv=>?_⟩
    ·have h:(b::t).length-r.length-1=(t.length-r.length-1)+1:=by grind
     grind
    ·show dl (b::(a++39::v)) 39=_;rw[aE,f];cases dl v 0<;>rfl
def gf:aa->Option (aa×aa)
 |[]=>some ([],[])
 |b::t=>if c3 (b::t) then some (b::t,[]) else
  if b=92 then match t with
   |[]=>some ([],[])
   |c::u=>gf u
  else if b=39 then match h:gd t with
   |none=>none
   |some r=>gf r
  else if b=36\/b=96 then none else
  if b=34 then match h:eE t with
   | .part=>some ([],[34])
   | .open_ o=>some ([],[34])
   | .closed o r=>gf r
  else gf t
termination_by r=>r.length
decreasing_by
 all_goals simp_wf
 ·omega
 ·have:=yW t r h;omega
 ·have:=Fg t o r h;omega
theorem YP:∀(n:Nat)(r:aa),r.length<=n->match gf r with
  |none=>dt r=none
  |some (q,a)=>∃w,r=w++q/\dt r=(dl (w++a) 0).map λd=>(d,q,a):=by
 intro n;induction n with
 |zero=>intro r h;have:r=[]:=nH.1 (by omega);subst this;rw[gf,dt];exact⟨[],rfl,by simp[FK]⟩
 |succ n C=>
  intro r ax;cases r with
  |nil=>grind
  |cons b t=>
   have D:t.length<=n:=by grind
   have go:∀(u p x:aa),u.length<=n->b::t=p++u->gf (b::t)=gf u->dt (b::t)=(dt u).map (λq=>(x++q.1,q.2))->(∀v,dl (p++v) 0=(dl v 0).map (x++·))->match gf (b::t) with
     |none=>dt (b::t)=none
     |some (q,a)=>∃w,b::t=w++q/\dt (b::t)=(dl (w++a) 0).map λd=>(d,q,a):=by
    intro u p x hu he ad k l;have:=C u hu;rw[ad,k];cases e:gf u with
    |none=>grind
    |some y=>obtain⟨q,a⟩:=y;rw[e] at this;obtain⟨w,rfl,E⟩:=this;refine⟨p++w,by grind,?_⟩;rw[E,jc,l];cases dl (w++a) 0<;>rfl
   by_cases F:c3 (b::t)=true
   ·have f:gf (b::t)=some (b::t,[]):=by rw[gf.eq_def];grind
    have g:dt (b::t)=some ([],b::t,[]):=by rw[dt.eq_def];grind
    rw[f,g];exact⟨[],rfl,by simp[FK]⟩
   by_cases m:b=92
   ·subst m;cases t with
    |nil=>
     have f:gf [92]=some ([],[]):=by rw[gf.eq_def];grind
     have g:dt [92]=none:=by rw[dt.eq_def];grind
     rw[f,g];exact⟨[92],rfl,by rw[rl,akx 0 (.inl rfl)];rfl⟩
    |cons c u=>
     refine go u [92,c] (if c=10 then [] else [c]) (by grind) rfl (by rw[gf.eq_def];grind) (by rw[dt.eq_def];grind) λv=>?_;show dl (92::c::v) 0=_;rw[Sy 0 (.inl rfl)];by_cases aF:c=10
     ·simp[aF]
     grind
   by_cases s:b=39
   ·subst s;have z:=I_ t;cases e:gd t with
    |none=>
     have f:gf (39::t)=none:=by rw[gf.eq_def];grind
     have g:dt (39::t)=none:=by rw[dt.eq_def];grind
     grind
    |some r=>
     rw[e] at z;obtain⟨i,ad,k,l⟩:=z
     refine go r (39::i++[39]) i (by grind) (by grind) (by
      rw[gf.eq_def];grind) (by
      rw[dt.eq_def];grind) λv=>?_
     grind[Sz]
   by_cases aB:b=36\/b=96
   ·have f:gf (b::t)=none:=by rw[gf.eq_def];grind
    have g:dt (b::t)=none:=by rw[dt.eq_def];grind
    grind
   by_cases A:b=34
   ·subst A;have j:=YO _ t (cX _);cases e:eE t with
    |closed o r=>
     rw[e] at j;obtain⟨i,ad,k⟩:=j
     refine go r (34::i) o (by grind) (by grind) (by
      rw[gf.eq_def];grind) (by
      rw[dt.eq_def];grind) λv=>?_
     grind[dl,C2]
    |part=>
     rw[e] at j;have f:gf (34::t)=some ([],[34]):=by rw[gf.eq_def];grind
     have g:dt (34::t)=none:=by rw[dt.eq_def];grind
     grind[dl,C2]
    |open_ o=>
     rw[e] at j;have f:gf (34::t)=some ([],[34]):=by rw[gf.eq_def];grind
     have g:dt (34::t)=some (o,[],[34]):=by rw[dt.eq_def];grind
     grind[dl,C2]
   ·have B:b≠36/\b≠96:=by grind
    refine go t [b] [b] D rfl (by rw[gf.eq_def];grind) (by rw[dt.eq_def];grind) λv=>?_;show dl (b::v) 0=_;rw[I9 0 (.inl rfl) b m B.1 B.2 A (λ_=>s)];rfl
def tF(S a:aa):jl->aa×Int
 | .closed o r=>(a++o,az S r)
 |_=>([], -1)
theorem YQ(S a x:aa)(q:jl):tF S a (q.add x)=tF S (a++x) q:=by cases q<;>simp[jl.add,tF]
theorem aky{S:aa}(di:S.length<=1000000):∀(n:Nat)(r a:aa),r.length<n->r<:+S->a.length+r.length<=2000000->fixF (sn S λ_=>some ([],(-1))) n (a,az S r)=some (tF S a (eE r)):=by
 intro n;induction n with
 |zero=>omega
 |succ n f=>
  intro r a ax d p;rw[e5];generalize fixF (sn S _) n=k at f;unfold sn a_;cases r with
  |nil=>simp[iu,eE,tF]
  |cons b t=>
   have q:t.length<n:=by grind
   have s:(b::t).length=t.length+1:=rfl;have i:=iR di d;simp only[nc d,bA,aK];rw[b9 ⟨(hY d).1,trivial⟩];simp only[jD d,i,n4,qw,n3,mM];by_cases g:b=34
   ·grind[MI,tF]
   simp only[g,bF,aR];by_cases aB:b=36\/b=96
   ·rw[SB b aB];rcases aB with rfl|rfl<;>simp[tF]
   have h:b≠36/\b≠96:=by grind
   simp only[h.1,h.2,bF,aR];by_cases e:b=92
   ·subst e;simp only[bA,aK];cases t with
    |nil=>simp[iu,SC,tF]
    |cons c u=>
     have bc:¬az S (c::u)=(S.length:Int):=by simp[y1]
     have j:=iR di (d_ d);have l:(c::u).length=u.length+1:=rfl;have m:u.length<n:=by omega
     simp only[bc,bF,aR];rw[b9 (hY (d_ d))];simp only[jD (d_ d),j,pR];rw[MJ,YQ];have v:=λx (w:x.length<=2)=>f u (a++x) m (d_ (d_ d)) (by grind);unfold AN;by_cases aF:c=36\/c=34\/c=92\/c=96
     ·rw[bo aF];have:(bif bif bif decide (c=36) then true else decide (c=34) then true else decide (c=92) then true else decide (c=96))=true:=by grind
      rw[this];simp only[aK];grind[b9,List.length_singleton]
     ·rw[aS aF];have:(bif bif bif decide (c=36) then true else decide (c=34) then true else decide (c=92) then true else decide (c=96))=false:=by grind
      rw[this];by_cases o:c=10
      ·grind
      ·simp only[o,bF,e8,aK,aR,cl];grind[b9,List.length_cons,List.length_nil]
   ·simp only[e,bF,aR];rw[b9 ⟨(hY d).1,trivial⟩,b9 (by grind),MK b g aB e,YQ];grind[d_,List.length_append,List.length_singleton]
theorem akz{S r:aa}(di:S.length<=1000000)(a:r<:+S):Ch S (az S r) []=some (tF S [] (eE r)):=by unfold Ch a_;grind[eO,aky,lz,Nat.le_trans,List.length_nil]
def YR(S:aa)(st:Int)(pd:aq)(op:bt)(j:aa×Int->Option (bq an an))(y:Option (bq an an)):Option (aa×aa)->Prop
 |none=>∃s:an,y=some (.inl (2,st,s))
 |some (q,b)=>q<:+S/\∃a,(a=az S q\/q=[]/\a=(S.length:Int)+1)/\y=j (b,a)
theorem akA{x0:an}{S:aa}{st a2 a3:Int}{j:aa×Int->Option (bq an an)}(di:S.length<=1000000):∀(n:Nat)(r:aa),r.length+1<n->r<:+S->
  YR S st x0.2.2.1 x0.2.2.2.2.1 j (fixF (yz x0 S st a2 a3 j) n ([],az S r)) (gf r):=by
 intro n;induction n with
 |zero=>omega
 |succ n h=>
  intro r ax d
  have i:∀(l:aa)(p:Int),n≠0->((S.length:Int)<=p/\p<=(S.length:Int)+1)->fixF (yz x0 S st a2 a3 j) n (l,p)=j (l,p):=by
   intro l p D aB
   obtain⟨m,rfl⟩:∃m,n=m+1:=⟨n-1,by omega⟩
   rw[e5];unfold yz;dsimp only;have:wT S p=some true:=by simp_all[wT,bA,aK,cT,a9]
   rw[this,aP rfl];rfl
  rw[e5];generalize fixF (yz x0 S st a2 a3 j) n=k at h i;unfold yz a_;dsimp only;rw[Sp di d,aP rfl];have E:=eO d;cases r with
  |nil=>rw[gf];exact⟨d,_,.inl rfl,by rfl⟩
  |cons b t=>
   have F:(b::t).length=t.length+1:=rfl;have G:t.length+1<n:=by omega
   have A:=iR di d;by_cases B:c3 (b::t)=true
   ·rw[B];have a:gf (b::t)=some (b::t,[]):=by rw[gf.eq_def];grind
    rw[a];exact⟨d,_,.inl rfl,by simp⟩
   have C:c3 (b::t)=false:=by grind
   rw[C];simp only[e8,aK,bA];rw[b9 (hY d)];simp only[jD d,mM,q_,qw,n3,n4,A];by_cases s:b=92
   ·subst s;simp only[bA,aK];cases t with
    |nil=>
     have a:gf [92]=some ([],[]):=by rw[gf.eq_def];grind
     rw[a];have:W (az S [92]+2)=(S.length:Int)+1:=by grind[az,dW,List.length_singleton]
     rw[this];exact⟨oK,_,.inr ⟨rfl,rfl⟩,i _ _ (by omega) (by omega)⟩
    |cons c u=>
     have a:gf (92::c::u)=gf u:=by rw[gf.eq_def];grind
     have v:W (az S (92::c::u)+2)=az S u:=kB (w:=[92,c]) di d;grind[List.length_cons,d_]
   simp only[s,bF,aR];by_cases x:b=39
   ·subst x;simp only[bA,aK];rw[YD di (d_ d),aP rfl];cases f:gd t with
    |none=>
     have a:gf (39::t)=none:=by rw[gf.eq_def];grind
     rw[a];simp only[k4,show((-1:Int)<0) from by decide,bA,aK];exact⟨_,rfl⟩
    |some e=>
     have a:gf (39::t)=gf e:=by rw[gf.eq_def];grind
     rw[a];have g:=(AR _ _ f).trans (d_ d);have h0:¬az S e<0:=by grind[eO,az]
     simp only[k4,h0,bF,aR];exact h e (by have:=yW t e f;omega) g
   simp only[x,bF,aR];by_cases aB:b=36\/b=96
   ·have a:gf (b::t)=none:=by rw[gf.eq_def];grind
    rw[a];rcases aB with rfl|rfl
    ·simp only[bA,aK];exact⟨_,rfl⟩
    ·simp only[show¬((96:UInt8)=36) by decide,bA,bF,aK,aR];exact⟨_,rfl⟩
   have y:b≠36/\b≠96:=by grind
   simp only[y.1,y.2,bF,aR];by_cases z:b=34
   ·subst z;simp only[bA,aK];rw[akz di (d_ d),aP rfl]
    have H:∀q,eE t=q->(∀o r,q≠ .closed o r)->YR S st x0.2.2.1 x0.2.2.2.2.1 j (bif decide ((tF S [] q).2<0) then k ([34],(S.length:Int)) else k ([],(tF S [] q).2)) (gf (34::t)):=by
     intro q g aF;have a:gf (34::t)=some ([],[34]):=by rw[gf.eq_def];grind
     rw[a];have v:(tF S [] q).2= -1:=by cases q with
      |closed o r=>grind
      |_=>rfl
     rw[v];simp only[show((-1:Int)<0) from by decide,bA,aK];exact⟨oK,_,.inl (iu S).symm,i _ _ (by omega) (by omega)⟩
    cases f:eE t with
    |closed o e=>
     have a:gf (34::t)=gf e:=by rw[gf.eq_def];grind
     rw[a];have g:=(RS _ _ _ _ (cX _) f).trans (d_ d);have h0:¬az S e<0:=by grind[eO,az]
     simp only[tF,h0,bF,aR];exact h e (by have:=Fg t o e f;omega) g
    |part=>grind
    |open_ o=>grind
   ·have a:gf (b::t)=gf t:=by rw[gf.eq_def];grind
    rw[a];simp only[z,bF,aR];grind[d_]
theorem ML(s:aa)(b:UInt8):(0<=Lib.indexByte s b)↔s.contains b=true:=by
 induction s with
 |nil=>simp[Lib.indexByte]
 |cons c t a=>unfold Lib.indexByte;grind
def AW(m:Option aa):aa×Bool:=match m with
 |some d=>if d.contains 10 then([],false) else(d,true)
 |none=>([],false)
theorem SD(l:aa)(hl:(l.length:Int)<=1048576):w5 l=some (AW (dl l 0)):=by
 rw[aj8 l hl];unfold n2 AW;cases dl l 0 with
 |none=>rfl
 |some s=>
  simp only[sY];by_cases h:s.contains 10=true
  ·simp_all[bo,ML]
  simp_all[aS,ML]
theorem akB(l:aa)(hl:(l.length:Int)<=200000000):EX l=some (AW (dl l 0)):=by
 rw[aj7 l hl];unfold n2 AW;cases dl l 0 with
 |none=>rfl
 |some s=>
  simp only[sY];by_cases h:s.contains 10=true
  ·simp_all[bo,ML]
  simp_all[aS,ML]
theorem YS(r q a:aa)(h:gf r=some (q,a)):a.length<=1:=by
 fun_induction gf r<;>simp_all
 all_goals grind
theorem YT{e:cI}{r:aa}{pd:aq}(tabs:Bool)(h:dR e r pd)(T:pd.length+r.length<e.S.length):aV e r (hr tabs r pd) (λ_=>e.st) (yA (e.st r pd) tabs):=by
 unfold hr;cases f:bx r with
 |none=>unfold yA a_;exact(((k3 e).none h f).bind λ_=> .inr rfl).rQ
 |some r'=>
  have v:=dV f;have a:=h.mono v;have z:=lO _ _ _ (cX _) f;simp only;by_cases m:∃w p,av r'= .word w p
  ·obtain⟨w,p,m⟩:=m;rw[m];simp only;unfold yA a_;refine aV.dX ?_ (e6 ((k3 e).some h f));have A:(jo (av r')).1=3:=by rw[m];rfl
   simp only[A,bA,gW,aR];generalize K:(λx:aa×Int=>_)=j;have g:=akA (x0:=e.st r pd) (S:=e.S) (st:=az e.S r') (a2:=e.ne) (a3:=e.ka) (j:=j) h.b0 bC r' (by have:=eO a.sfx;have:=h.b0;grind[gi]) a.sfx;have i:=YP _ r' (cX _);show aV e r _ _ (fixF (yz (e.st r pd) e.S (az e.S r') e.ne e.ka j) bC ([],az e.S r'));generalize fixF (yz (e.st r pd) e.S (az e.S r') e.ne e.ka j) bC ([],az e.S r')=y at g;cases B:gf r' with
   |none=>rw[B] at g i;obtain⟨s,rfl⟩:=g;simp only at i;rw[i];exact⟨a.sfx,s,rfl⟩
   |some x=>
    obtain⟨q,b⟩:=x;rw[B] at g i;obtain⟨c,G,aE⟩:=i;obtain⟨L,k,aB,rfl⟩:=g;have C:q<:+r':=⟨c,G.symm⟩;have M:min k (e.S.length:Int)=az e.S q:=by
     have:= @o5 q e.S;rcases aB with rfl|⟨rfl,rfl⟩
     ·omega
     grind[iu]
    have N:b_ e.S (az e.S r') (az e.S q)=c:=by rw[I4 a.sfx C,G];simp
    have U:=eO a.sfx;have H:r'.length=c.length+q.length:=by grind
    have O:=v.length_le;have V:=h.b0;have W:b.length<=1:=YS _ _ _ B;have D:((c++b).length:Int)<=1048576:=by grind
    rw[<-K];have E:min k ((e.st r' pd).1.length:Int)=az e.S q:=M;simp only[E];have I:az e.S r'<=az e.S q/\0<=az e.S r':=by grind[az]
    refine aV.dX ?_ (b9 ⟨I.2,I.1,o5⟩);show aV e r _ _ (a9 ((((b_ e.S (az e.S r') (az e.S q)).length+b.length:Nat):Int)<=9223372036854775807) (aw (w5 (b_ e.S (az e.S r') (az e.S q)++b)) _));rw[N];refine aV.dX ?_ (b9 (by omega));rw[aE];cases F:dl (c++b) 0 with
    |none=>
     have l:w5 (c++b)=some ([],false):=by rw[SD _ D,F];rfl
     refine aV.dX ?_ (aP l);simp only[Option.map_none,e8,aK];refine aV.dX ?_ (b9 (λ_ n=>absurd n (by simp)));exact⟨a.sfx,_,rfl⟩
    |some d=>
     simp only[r3];by_cases t:d.contains 10=true
     ·have l:w5 (c++b)=some ([],false):=by rw[SD _ D,F];exact mj some (bo t)
      refine aV.dX ?_ (aP l);rw[bo t];simp only[e8,aK];refine aV.dX ?_ (b9 (λ_ n=>absurd n (by simp)));exact⟨a.sfx,_,rfl⟩
     have l:w5 (c++b)=some (d,true):=by rw[SD _ D,F];exact mj some (aS t)
     refine aV.dX ?_ (aP l);rw[aS t];simp only[gW,aR];have bf:(bif tabs then !decide (d=[]) else false)=true->(true:Bool)=true->(0:Int)<=0/\(0:Int)<(d.length:Int):=by
      intro n _;cases d with
      |nil=>grind
      |cons x y=>simp
     refine aV.dX ?_ (b9 (by grind))
     have P:(bif bif tabs then !decide (d=[]) else false then decide (((at' d 0).toNat:Int)=9) else false)=decide (tabs=true/\d.head?=some 9):=by
      cases tabs with
      |false=>simp
      |true=>
       cases d with
       |nil=>simp
       |cons x y=>simp[at',I2]
     rw[P];by_cases u:tabs=true/\d.head?=some 9
     ·rw[bo u];simp only[u,nI,bA,aK];exact⟨a.sfx,_,rfl⟩
     rw[aS u];simp only[u,bF,aR];by_cases kl:b=[]
     ·subst kl;simp only[ne_eq,not_true,cl,bA,gW,aR];by_cases J:q=[]
      ·subst J;rw[bo rfl];have hle:decide ((e.S.length:Int)<=k)=true:=by
        rcases aB with rfl|⟨_,rfl⟩
        ·simp[iu]
        grind
       refine aV.dX ?_ (show(bif decide ((e.S.length:Int)<=k) then _ else _)=_ by rw[hle]);exact⟨_,rfl,by simp[cI.st]⟩
      ·rw[aS J];have Q:k=az e.S q:=by grind
       subst Q;have hle:decide ((e.S.length:Int)<=az e.S q)=false:=by grind[az,y1,o5]
       refine aV.dX ?_ (show(bif decide ((e.S.length:Int)<=az e.S q) then _ else _)=_ by rw[hle]);have X:=h.Su;have Y:=C.length_le;refine aV.dX ?_ (b9 (show pd.length+[(d,tabs)].length<=536870912 by grind));exact⟨C.trans v,⟨h.b0,L,by grind,by have:=h.ops;omega⟩,rfl⟩
     ·rw[bo kl];simp only[kl,bF,e8,aK];exact Mz rfl rfl h.xn λ_=>rfl
  ·have A:decide ((jo (av r')).1=3)=false:=by grind[decide_eq_false_iff_not,ME]
   have R:yA (e.st r pd) tabs=bb (kL (e.st r' pd)) (λx=>(x.1,x.2.1,pd,x.2.2.2.1,e.op,x.2.2.2.2.2)) λy=>Empty.elim y:=by unfold yA a_;refine(e6 ((k3 e).some h f)).trans ?_;simp only[A,e8,aK];rfl
   rw[R];cases hk:av r' with
   |word w p=>grind
   |eof=>exact(((tB a z).1 hk).bind λ_=> .inr rfl).rQ
   |line=>exact⟨a.sfx,_,hI ((tB a z).2 (by grind))⟩
   |op o=>exact⟨a.sfx,_,hI ((tB a z).2 (by grind))⟩
theorem YW(b:UInt8):Ew (b.toNat:Int)=some (cd b):=by
 unfold Ew Af cd;have ad:((48:Int)<=(b.toNat:Int))=((48:UInt8)<=b):=by apply propext;rw[DH];grind
 have a:((b.toNat:Int)<=(57:Int))=(b<=(57:UInt8)):=by apply propext;rw[DH];grind
 grind[aw]
theorem akD(w:aa)(d:w.length<=1000000):EB w=some (!decide (w=[])&&w.all cd):=by
 have a:∀(n:Nat)(r:aa),r.length<n->r<:+w->fixF (H4 w λ_=>some (!(decide (w=[])))) n (az w r)=some (!decide (w=[])&&r.all cd):=by
  intro n;induction n with
  |zero=>omega
  |succ n e=>
   intro r ax c;rw[e5];generalize fixF (H4 w _) n=k at e;unfold H4;cases r with
   |nil=>simp[iu]
   |cons b t=>
    have f:=iR d c;simp only[nc c,bA,aK];rw[b9 ⟨(hY c).1,trivial⟩,jD c,YW,aP rfl,f];cases g:cd b with
    |false=>grind
    |true=>simp only[gW,aR];grind[List.length_cons,d_]
 unfold EB a_;have:=a bC w (lz d) fQ;grind[I1]
theorem AX{b:UInt8}(h:cd b=true):ga b=false/\b≠10/\b≠92/\b≠39/\b≠34/\b≠96/\b≠36/\b≠35/\o2 b=false:=by
 have ad:(48:UInt8)<=b/\b<=(57:UInt8):=by grind[cd]
 rw[DH,DH] at ad;have a:(48:UInt8).toNat=48:=rfl;have c:(57:UInt8).toNat=57:=rfl;rw[a,c] at ad;have d:b=UInt8.ofNat b.toNat:=by simp
 generalize b.toNat=n at*;subst d;have:n=48\/n=49\/n=50\/n=51\/n=52\/n=53\/n=54\/n=55\/n=56\/n=57:=by omega
 rcases this with rfl|rfl|rfl|rfl|rfl|rfl|rfl|rfl|rfl|rfl<;>decide
theorem YX{b:UInt8}{t:aa}(h:cd b=true):c3 (b::t)=false:=by obtain⟨ad,a,_,_,_,_,_,_,c⟩:=AX h;show(ga b||b==10||bs (b::t)!=[])=false;grind[oB]
theorem akE{b:UInt8}{t:aa}(h:cd b=true):gb (b::t)=false:=by simp_all[AX,sI]
theorem YY:∀(r:aa),c3 (r.dropWhile cd)=true->c8 r=(r.takeWhile cd,true)
 |[],_=>by decide
 |b::t,h=>by
  cases a:cd b with
  |true=>rw[Uq a] at h;obtain⟨ad,c,d,e,f,g,i,j,k⟩:=AX a;unfold c8;simp_all[YX,aS,akE,YY,List.takeWhile_cons_of_pos]
  |false=>simp_all[JW,c8,bo,Uu]
theorem SG:∀(r w:aa),c8 r=(w,true)->c3 (r.drop w.length)=true
 |[],w,h=>by simp[c8] at h;subst h;rfl
 |b::t,w,h=>by
  unfold c8 at h;split at h
  ·rename_i a;cases h;exact a
  ·split at h
   ·cases h
   ·split at h
    ·rename_i w' c;cases h;exact SG t w' c
    ·cases h
def uT(r:aa):aa:=match av r with
 | .word w true=>if(!decide (w=[])&&w.all cd) then r.drop w.length else r
 |_=>r
theorem akF{r:aa}(d:bx r=some r):(e2 (bs (r.dropWhile cd))=true->uT r=r.dropWhile cd)/\e2 (bs (uT r))=e2 (bs (r.dropWhile cd)):=by
 have g:e2 []=false:=by decide
 by_cases i:c3 (r.dropWhile cd)=true
 ·have:uT r=r.dropWhile cd:=by
   cases r with
   |nil=>decide
   |cons b t=>
    cases e:cd b with
    |true=>
     obtain⟨ad,y,_,_,_,_,_,_,z⟩:=AX e;have a:av (b::t)= .word ((b::t).takeWhile cd) true:=by show(if b=10 then Tok.line else if bs (b::t)≠[] then .op (bs (b::t)) else .word (c8 (b::t)).1 (c8 (b::t)).2)=_;simp_all[aS,oB,YY]
     unfold uT;rw[a];simp only;have j:¬(b::t).takeWhile cd=[]:=by simp_all
     have k:((b::t).takeWhile cd).all cd=true:=List.all_takeWhile;rw[k];simp only[j,bF,e8,Bool.and_self,cD];have:=Ut (p:=cd) (l:=b::t);grind
    |false=>
     rw[JW (by grind)] at i⊢;unfold uT;cases a:av (b::t) with
     |word w p=>
      have m:ga b=false:=by
       cases n:ga b with
       |false=>rfl
       |true=>rw[FE n] at d;have:=(dV d).length_le;grind
      grind[IU]
     |_=>rfl
  grind
 ·have o:c3 (r.dropWhile cd)=false:=by grind
  have q:bs (r.dropWhile cd)=[]:=by
   cases A:r.dropWhile cd with
   |nil=>decide
   |cons c u=>grind[c3,Bool.or_eq_false_iff]
  rw[q,g];refine⟨λh=>absurd h (by decide),?_⟩;have s:uT r=r:=by
   unfold uT;cases a:av r with
   |word w p=>
    cases p with
    |true=>
     simp only;by_cases x:(!decide (w=[])&&w.all cd)=true
     ·exfalso;simp only[hj] at x;cases r with
      |nil=>grind[av]
      |cons b t=>
       have aB:c8 (b::t)=(w,true):=by have B:(if b=10 then Tok.line else if bs (b::t)≠[] then .op (bs (b::t)) else .word (c8 (b::t)).1 (c8 (b::t)).2)= .word w true:=a;grind
       obtain⟨v,f⟩:=(Fo _ _ aB).1;have he:=SG _ _ aB;rw[<-f,pf] at he;rw[<-f,List.dropWhile_append_of_pos (by grind)] at o;cases v with
       |nil=>simp_all
       |cons c u=>grind[cd,YX,List.dropWhile_cons_of_neg]
     grind
    |false=>rfl
   |_=>rfl
  rw[s];cases r with
  |nil=>simp_all
  |cons b t=>
   cases e:cd b with
   |true=>simp_all[oB,AX]
   |false=>simp_all
theorem SH{o:aa}(h:e2 o=true):1<=o.length:=by
 cases o with
 |nil=>exact absurd h (by decide)
 |cons a b=>simp
theorem Jc{R:bk}{n:Nat}(hA:tE R n){e:cI}(bc:e.ne=30- (n:Int)):qy e (dF (ba false n)) (λb r pd=>(b,e.st r pd)) (yB R):=by
 intro r pd h;unfold dF;cases d:bx r with
 |none=>
  have:fJ r pd=Go.Eng.b7 [] r pd:=by grind[fJ]
  rw[dh (nd:=(cP [] pd []).1) (ds:=(cP [] pd []).2) this];unfold yB;exact(((k3 e).none h d).bind λ_=> .inr rfl).rQ
 |some r'=>
  have g:=dV d;have f:=h.mono g;have I:=lO _ _ _ (cX _) d;obtain⟨i,xu⟩:=akF I;have J:r'.dropWhile cd<:+r':=CQ;have K:uT r'<:+r':=by grind[uT,List.drop_suffix]
  have Y:=eO f.sfx;have j:=h.b0;unfold yB a_;refine aV.dX ?_ (e6 ((k3 e).some h d));have L:∀(k:Int->Option (bq an (Bool×an)))(y:Option (bq an (Bool×an))),y=(cT ((bif(decide ((jo (av r')).1=3)) then(jo (av r')).2.2 else false)=true) (EB (jo (av r')).2.1) false λ(M:Bool)=>
    (bif(bif(bif(decide ((jo (av r')).1=3)) then(jo (av r')).2.2 else false) then M else false) then
    k (W (az e.S r'+((jo (av r')).2.1.length:Int)))
    else k (az e.S r')))->y=k (az e.S (uT r')):=by
   intro k y N;rw[N];unfold uT;cases O:av r' with
   |word w p=>
    cases p with
    |false=>rfl
    |true=>
     have l:=(qu O).1;have P:w.length<=1000000:=by grind
     simp only[jo,bA,aK];rw[akD w P,fY,bo trivial];cases aF:(!decide (w=[])&&w.all cd) with
     |false=>simp
     |true=>obtain⟨q,rfl⟩:=l;simp only[aK,cD,pf];rw[kB j f.sfx]
   |_=>rfl
  refine aV.dX ?_ (L (λs=>aw (z6 e.S s) λ(c:aa)=>
   (aw (EC c) λ(Q:Bool)=>
   (bif(!Q) then
   some (.inr (false,e.st r' pd))
   else
   (bif(bif(decide (c=([60,60]:aa))) then true else(decide (c=([60,60,45]:aa)))) then
   (bb (yA (e.S,(W (s+(c.length:Int))),pd,e.ne,e.op,e.ka) (decide (c=([60,60,45]:aa)))) (λx=>x) λ(t:an)=>
   some (.inr (true,t)))
   else
   (bb (lh R (e.S,(W (s+(c.length:Int))),pd,e.ne,e.op,e.ka)) (λx=>x) λ(S:an)=>
   some (.inr (true,S))))))) _ rfl)
  refine aV.dX ?_ (aP (So j (K.trans f.sfx)));refine aV.dX ?_ (aP (akk _));by_cases u:e2 (bs (r'.dropWhile cd))=true
  ·have z:fJ r pd= .ok (some (bs (r'.dropWhile cd))) ((r'.dropWhile cd).drop (bs (r'.dropWhile cd)).length) pd:=by simp_all[fJ,bo]
   rw[aZ z,i u];rw[u];simp only[gW,aR];have D:=J.trans g;have A:=h.mono D;generalize r'.dropWhile cd=q at*;have l:bs q<+:q:=RQ;have ad:=SH u;generalize Z:bs q=o at*;obtain⟨v,rfl⟩:=l;rw[pf];have E:v<:+o++v:=gY o v;have B:=A.mono E;have T:W (az e.S (o++v)+(o.length:Int))=az e.S v:=kB j A.sfx;simp only[T]
   have C:∀(m:ak Unit)(y:Option (bq an an)),aV e v (m v pd) (λ_=>e.st) y->aV e r (ae m (λ_=>aW true) v pd) (λb r pd=>(b,e.st r pd)) (bb y (λx=>x) λt=>some (.inr (true,t))):=by intro m y hm;exact aV.iF c4.id (hm.mono (E.trans D)) (λ_=>rfl) λa r1 aH _ U V=>⟨U,V,rfl⟩
   have F:pd.length+v.length<e.S.length:=by have:=A.jS;grind
   by_cases G:o=[60,60]
   ·subst G;simp only[bA,aK,cD,show¬(([60,60]:aa)=[60,60,45]) by decide,bF];exact C _ _ (YT false B F)
   ·by_cases H:o=[60,60,45]
    ·subst H;simp only[bA,aK,cD,show¬(([60,60,45]:aa)=[60,60]) by decide,bF,aR,cl];exact C _ _ (YT true B F)
    ·simp only[G,H,bF,aR,cl];exact C _ _ (Sx hA bc _ v pd B)
  ·have z:fJ r pd= .ok none r' pd:=by simp_all[fJ,aS]
   have X:e2 (bs (uT r'))=false:=by grind
   rw[aZ z,X];exact⟨g,f,rfl⟩
theorem Y0{R:bk}{n:Nat}(hA:tE R n){e:cI}(bc:e.ne=30- (n:Int)):qy e (gV (ba false n)) (λ_=>e.st) (ED R):=by
 intro r pd h;unfold gV ED a_;refine aV.rep (en:=λ_ r pd=>e.st r pd) (λk s r1 a ad hk=>?_) bC () r pd (lz (lQ (eO h.sfx) h.b0)) h;unfold QI;refine aV.iF c4.k (Jc hA bc r1 a ad) (λ_=>rfl) λb c i d f g=>?_;cases b with
 |false=>exact aV.inr f g rfl
 |true=>
  rw[bo rfl];by_cases hl:c.length<r1.length
  ·grind[aV.inl]
  ·exact absurd (sD (xo false n▸(pQ false n).dl) d) hl
theorem mi(fr:Bool)(n:Nat):hU (ba fr n):=xo fr n▸(pQ fr n).dl
theorem aV.tst{α b β c:Type}{C:dw α->dw b}(i:c4 C){e:cI}{r0 r:aa}{pd:aq}{x:aa}{k:Tok->ak α}{f:Tok->β}{F:an->Option (bq an (β×an))}{cv:b->aa->aq->c}{g:an->an}{K:β×an->Option (bq an c)}
  (d:oD e f F) (h:dR e r pd)
  (hk:∀r',bx r=some r'->r'<:+r->dR e r' pd->bx r'=some r'->aV e r0 (C (k (av r') r' pd)) cv (K (f (av r'),e.st r' pd))) (bf:∀st,(g st).2.2.2.2.1=st.2.2.2.2.1\/(g st).2.2.2.2.1=e.op:=by intro _;first|exact .inl rfl|exact .inr rfl):
  aV e r0 (C (Go.Eng.ae (bQ x) k r pd)) cv (bb (F (e.st r pd)) g K):=by
 cases a:bx r with
 |none=>rw[dh (iE a),i.more];exact((d.none h a).bind bf).rQ
 |some r'=>rw[aZ (cB a),e6 (d.some h a)];exact hk r' a (dV a) (h.mono (dV a)) (lO _ _ _ (cX _) a)
theorem SL{b:Tok->Bool}{n:Nat}{r:aa}{pd:aq}{a:Unit}{r':aa}{d:aq}(h:na b n r pd= .ok a r' d):d=pd:=by
 unfold na at h;obtain⟨t,r1,e,ad,c⟩:=b3 h;obtain⟨_,_,rfl⟩:=I8 ad;split at c
 ·grind[b7]
 ·split at c
  ·cases c;rfl
  ·cases c
theorem SM{b:Tok->Bool}{n:Nat}{r:aa}{pd:aq}{op:bt}{nd:aa}{ds:aq}(h:na b n r pd= .more op nd ds):op=[]:=by
 unfold na at h;cases a:bx r with
 |none=>rw[dh (nd:=(cP [] pd []).1) (ds:=(cP [] pd []).2) (op:=[]) (by rw[iE a];rfl)] at h;grind
 |some r'=>
  rw[aZ (cB a)] at h;split at h
  ·grind[b7]
  ·split at h<;>cases h
theorem aV.SN{α g i β j:Type}{C:dw g->dw i}(d:c4 C){e:cI}{r0 r:aa}{pd:aq}{m:ak α}{k:α->ak g}{cv:α->aa->aq->β}{cv':i->aa->aq->j}{y:Option (bq an β)}{k':β->Option (bq an j)}{f:an->an}
  (h:aV e r0 (m r pd) cv y) (hm:∀op nd ds,m r pd= .more op nd ds->op=[]) (hf:∀st,(f st).2.2.2.2.1=st.2.2.2.2.1\/(f st).2.2.2.2.1=e.op) (hk:∀a r1 b,m r pd= .ok a r1 b->r1<:+r0->dR e r1 b->aV e r0 (C (k a r1 b)) cv' (k' (cv a r1 b))):
  aV e r0 (C (Go.Eng.ae m k r pd)) cv' (bb y f k'):=by
 unfold Go.Eng.ae;cases c:m r pd with
 |ok a r1 b=>rw[c] at h;obtain⟨ad,l,rfl⟩:=h;exact hk a r1 b c ad l
 |more op nd ds=>rw[c] at h;obtain⟨st,rfl,l⟩:=h;rw[d.more];have:=hm op nd ds c;subst this;refine⟨f st,rfl,?_⟩;grind
 |bad q=>rw[c] at h;obtain⟨ad,st,rfl⟩:=h;rw[d.bad];exact⟨ad,f st,rfl⟩
 |deep q=>rw[d.deep];trivial
theorem akH{α:Type}{m:ak α}{x r:aa}{pd:aq}{op:bt}{nd:aa}{ds:aq}(h:m.aM x r pd= .more op nd ds):∃a b,m r pd= .more op a b:=by unfold ak.aM at h;grind
theorem aV.res{α d f:Type}{C:dw α->dw d}(i:c4 C){e:cI}{r0 r:aa}{pd:aq}{w x:aa}{k:Unit->ak α}{cv:d->aa->aq->f}{g:an->an}{K:an->Option (bq an f)}
  (j:0<w.length) (h:dR e r pd) (h0:r<:+r0) (hk:∀r1,r1<:+r->dR e r1 pd->r1.length<r.length->aV e r0 (C (k () r1 pd)) cv (K (e.st r1 pd))) (bf:∀st,(g st).2.2.2.2.1=st.2.2.2.2.1\/(g st).2.2.2.2.1=e.op:=by intro _;first|exact .inl rfl|exact .inr rfl):
  aV e r0 (C (Go.Eng.ae ((cY w).aM x) k r pd)) cv (bb (nr (e.st r pd) w) g K):=by
 refine aV.SN i ((aV.aM (x:=x) (I5 w h)).mono h0) (λop nd ds b=>by obtain⟨_,_,b⟩:=akH b;exact SM b) bf λa r1 m c ad l=>?_;have:=SL (jC.1 c);subst this;exact hk r1 ((ar.res _).sfx (jC.1 c)) l (RV j (jC.1 c))
theorem Y1{α:Type}(m:ak α):m.aM []=m:=by
 funext r pd
 unfold ak.aM;cases m r pd<;>rfl
theorem aV.MN{α a b:Type}{C:dw α->dw a}(c:c4 C){e:cI}{r0 r:aa}{pd:aq}{w:aa}{k:Unit->ak α}{cv:a->aa->aq->b}{g:an->an}{K:an->Option (bq an b)}
  (d:0<w.length) (h:dR e r pd) (h0:r<:+r0) (hk:∀r1,r1<:+r->dR e r1 pd->r1.length<r.length->aV e r0 (C (k () r1 pd)) cv (K (e.st r1 pd))) (bf:∀st,(g st).2.2.2.2.1=st.2.2.2.2.1\/(g st).2.2.2.2.1=e.op:=by intro _;first|exact .inl rfl|exact .inr rfl):
  aV e r0 (C (Go.Eng.ae (cY w) k r pd)) cv (bb (nr (e.st r pd) w) g K):=by
 have:=aV.res (x:=[]) c d h h0 hk bf;grind[Y1]
theorem aV.Y2{e:cI}{r0 r:aa}{pd:aq}{w:aa}{g:an->an}{K:an->Option (bq an an)}(h:dR e r pd)(h0:r<:+r0)(i:∀r1,K (e.st r1 pd)=some (.inr (e.st r1 pd)))(bf:∀st,(g st).2.2.2.2.1=st.2.2.2.2.1\/(g st).2.2.2.2.1=e.op:=by intro _;first|exact .inl rfl|exact .inr rfl):
  aV e r0 (cY w r pd) (λ_=>e.st) (bb (nr (e.st r pd) w) g K):=by
 have:=aV.SN (C:=λx=>x) (k:=λ_=>aW ()) (cv':=λ_=>e.st) (f:=g) (k':=K) c4.id ((I5 w h).mono h0) (λop nd ds b=>SM b) bf λa r1 j c ad d=>⟨ad,d,by rw[SL c];grind⟩;grind[FI]
theorem aV.akI{e:cI}{r0 r:aa}{pd:aq}{w:aa}{g:an->an}{K:an->Option (bq an an)}(h:dR e r pd)(h0:r<:+r0)(i:∀r1,K (e.st r1 pd)=some (.inr (e.st r1 pd)))(bf:∀st,(g st).2.2.2.2.1=st.2.2.2.2.1\/(g st).2.2.2.2.1=e.op:=by intro _;first|exact .inl rfl|exact .inr rfl):
  aV e r0 (jR w r pd) (λ_=>e.st) (bb (sh (e.st r pd) w) g K):=by
 have:=aV.SN (C:=λx=>x) (k:=λ_=>aW ()) (cv':=λ_=>e.st) (f:=g) (k':=K) c4.id ((Mv w h).mono h0) (λop nd ds b=>SM b) bf λa r1 j c ad d=>⟨ad,d,by rw[SL c];grind⟩;grind[FI]
theorem aV.ls{α d f:Type}{C:dw α->dw d}(i:c4 C){R:bk}{n:Nat}(bj:xp R n){e:cI}(bc:e.ne=30- (n:Int)){r0 r:aa}{pd:aq}{c:Ctx}{no:Bool}{x:aa}{k:Nat->ak α}{cv:d->aa->aq->f}{g:an->an}{K:Int×an->Option (bq an f)}
  (h:dR e r pd) (h0:r<:+r0) (hk:∀a r1 b,r1<:+r->dR e r1 b->aV e r0 (C (k a r1 b)) cv (K ((a:Int),e.st r1 b))) (bf:∀st,(g st).2.2.2.2.1=st.2.2.2.2.1:=by intro _;rfl) (j:c≠ .text:=by simp):
  aV e r0 (C (Go.Eng.ae (((a1 false n).ls c no).aM x) k r pd)) cv (bb (R.ks (e.st r pd) (C0 c) no) g K):=
 aV.iF i ((aV.aM (x:=x) (bj.im e c no j bc r pd h)).mono h0) bf λa r1 b l ad m=>hk a r1 b (((pQ false n).ls c no).sfx (jC.1 l)) m
theorem aV.lines{α c d:Type}{C:dw α->dw c}(i:c4 C){e:cI}{r0 r:aa}{pd:aq}{x:aa}{k:Bool->ak α}{cv:c->aa->aq->d}{g:an->an}{K:Bool×an->Option (bq an d)}
  (h:dR e r pd) (h0:r<:+r0) (hk:∀a r1 b,cU r pd= .ok a r1 b->r1<:+r->dR e r1 b->aV e r0 (C (k a r1 b)) cv (K (a,e.st r1 b))) (bf:∀st,(g st).2.2.2.2.1=st.2.2.2.2.1:=by intro _;rfl):
  aV e r0 (C (Go.Eng.ae (cU.aM x) k r pd)) cv (bb (lf (e.st r pd)) g K):=
 aV.iF i ((aV.aM (x:=x) (YA h)).mono h0) bf λa r1 b f ad j=>hk a r1 b (jC.1 f) (ar.lines.sfx (jC.1 f)) j
theorem aV.AY{α c d:Type}{C:dw α->dw c}(f:c4 C){e:cI}{r0 r:aa}{pd:aq}{k:Bool->ak α}{cv:c->aa->aq->d}{g:an->an}{K:Bool×an->Option (bq an d)}
  (h:dR e r pd) (h0:r<:+r0) (hk:∀a r1 b,cU r pd= .ok a r1 b->r1<:+r->dR e r1 b->aV e r0 (C (k a r1 b)) cv (K (a,e.st r1 b))) (bf:∀st,(g st).2.2.2.2.1=st.2.2.2.2.1:=by intro _;rfl):
  aV e r0 (C (Go.Eng.ae cU k r pd)) cv (bb (lf (e.st r pd)) g K):=by
 have:=aV.lines (x:=[]) f h h0 hk bf;grind[Y1]
theorem MO{R:bk}{n:Nat}(hA:tE R n){e:cI}(bc:e.ne=30- (n:Int)):qy e (hH false (ba false n)) (λ_=>e.st) (Ao R):=by
 intro r pd h;unfold hH Ao;refine aV.rep (en:=λ_ r pd=>e.st r pd) (λk s r1 q ad hk=>?_) bC () r pd (lz (lQ (eO h.sfx) h.b0)) h;unfold QK a_;refine aV.iF c4.k (Jc hA bc r1 q ad) (λ_=>rfl) λb u l v d m=>?_;cases b with
 |true=>have hl:=sD (mi false n) v;rw[bo rfl];exact aV.inl hl (hk () u l d m hl)
 |false=>
  rw[aS (by simp)];dsimp only[cond_false];refine aV.tst c4.k (k3 e) m λa C f g i=>?_;by_cases c:∃w p,av a= .word w p
  ·obtain⟨w,p,c⟩:=c;rw[c];refine aV.iF c4.k ((MF hA bc g i c).mono (f.trans d)) (λ_=>rfl) λ_ D E x F G=>?_;have j:a≠[]:=by rintro rfl;grind[av]
   have z:c3 a=false:=by
    cases a with
    |nil=>grind
    |cons b t=>
     refine IU ⟨w,p,c⟩ ?_;cases A:ga b with
     |false=>rfl
     |true=>rw[FE A] at i;have:=(dV i).length_le;grind
   have hl:=vU (mi false n) j z x;grind[aV.inl]
  ·have B:decide ((jo (av a)).1=3)=false:=by grind[decide_eq_false_iff_not,ME]
   refine aV.dX (y:=some (.inr (e.st a l))) ?_ (by simp only[B,e8,aK];rfl);cases H:av a with
   |word w p=>grind
   |op o=>simp only[ew,false_and,cl];exact aV.inr (f.trans d) g rfl
   |_=>exact aV.inr (f.trans d) g rfl
theorem FM(a b:UInt8):((a.toNat:Int)<=(b.toNat:Int))↔a<=b:=by simp[DH]
theorem SO(b:UInt8):((97:Int)<=(b.toNat:Int))↔97<=b:=FM 97 b
theorem SP(b:UInt8):((b.toNat:Int)<=122)↔b<=122:=FM b 122
theorem Y3(b:UInt8):((65:Int)<=(b.toNat:Int))↔65<=b:=FM 65 b
theorem Y4(b:UInt8):((b.toNat:Int)<=90)↔b<=90:=FM b 90
theorem SQ(b:UInt8):((48:Int)<=(b.toNat:Int))↔48<=b:=FM 48 b
theorem SR(b:UInt8):((b.toNat:Int)<=57)↔b<=57:=FM b 57
theorem Y5(b:UInt8):((b.toNat:Int)=95)↔b=95:=ra (c:=95)
theorem akK(b:UInt8):HZ (b.toNat:Int)=some (decide (97<=b)&&decide (b<=122)):=by simp[HZ,Af,aw,SO,SP]
theorem akL(b:UInt8):H0 (b.toNat:Int)=some (decide (65<=b)&&decide (b<=90)):=by simp[H0,Af,aw,Y3,Y4]
def FN(first:Bool)(b:UInt8):Bool:=yV b||(!first&&cd b)
theorem MP{w:aa}(d:w.length<=1000000){j:Unit->Option Bool}{k:Int->Option Bool}{b:UInt8}{t:aa}(a:b::t<:+w):
  Ag w j k (az w (b::t))=(bif FN (decide (b::t=w)) b then k (az w t) else some false)/\AB w j k (az w (b::t))=(bif FN (decide (b::t=w)) b then k (az w t) else some false):=by
 have h0:decide (az w (b::t)=0)=decide (b::t=w):=by
  by_cases h:b::t=w
  ·grind[I1]
  ·have:az w (b::t)≠0:=by intro e;refine h (a.eq_of_length ?_);grind[az]
   grind
 have c:=iR d a;constructor
 ·unfold Ag;simp only[nc a,bA,aK];rw[b9 ⟨(hY a).1,trivial⟩];simp only[jD a,akK,akL,YW,fY,h0,c,Y5];rw[aP rfl];unfold FN yV;grind
 ·unfold AB;have bf:=hY a;have f:0<=az w (b::t)/\az w (b::t)<(w.length:Int):=bf;simp only[nc a,bA,aK,bf.1,nI,implies_true];simp only[a9,cD,jD a,h0,c,Y5,SO,SP,Y3,Y4,SQ,SR];unfold FN yV cd;grind
theorem akM{w:aa}(d:w.length<=1000000){j:Unit->Option Bool}(i:j ()=some (!decide (w=[]))):∀(n:Nat)(r:aa),r.length<n->r<:+w->r≠w->fixF (Ag w j) n (az w r)=some (r.all λc=>yV c||cd c)/\fixF (AB w j) n (az w r)=some (r.all λc=>yV c||cd c):=by
 intro n;induction n with
 |zero=>omega
 |succ n e=>
  intro r ax a bc;rw[e5,e5];cases r with
  |nil=>grind[Ag,iu,AB]
  |cons b t=>
   have f:t≠w:=by grind
   obtain⟨g,h⟩:=e t (by grind) (d_ a) f;rw[(MP d a).1,(MP d a).2,g,h];grind[decide,FN,yV,cd]
theorem y7(w:aa)(a:w.length<=1000000):Ah w=some (me w)/\AD w=some (me w):=by
 have e:=I1 w
 have d:∀j:Unit->Option Bool,j ()=some (!decide (w=[]))->fixF (Ag w j) bC 0=some (me w)/\fixF (AB w j) bC 0=some (me w):=by
  intro j f
  obtain⟨n,ax⟩:∃n,bC=n+1:=⟨bC-1,by rw[gi]⟩
  rw[ax,e5,e5];cases w with
  |nil=>grind[Ag,me,AB]
  |cons b t=>
   have bc:t≠b::t:=by simp
   have c:t.length<n:=by grind[lz,List.length_cons,gi]
   obtain⟨g,h⟩:=akM a f n t c (ee b t) bc;rw[<-e,(MP a fQ).1,(MP a fQ).2,g,h];grind[FN,me,yV]
 constructor
 ·unfold Ah a_;exact(d (λ_=>some (!(decide (w=[])))) rfl).1
 ·unfold AD a_;refine(d (λ_=>some (decide (0<(w.length:Int)))) ?_).2;cases w<;>simp
section
variable{R:bk}{n:Nat}(bj:xp R n){e:cI}(bc:e.ne=30- (n:Int))
include bj bc
theorem SS(x:aa):qy e (iP (a1 false n) x) (λ_=>e.st) (ti R):=by intro r pd h;unfold iP ti;refine aV.res (C:=λx=>x) c4.id (by decide) h fQ λr1 s1 b _=>?_;refine aV.ls (c:= .done) (C:=λx=>x) c4.id bj bc b s1 λa f g s2 d=>?_;exact aV.Y2 d (s2.trans s1) λi=>rfl
theorem akO:qy e (q6 (a1 false n)) (λ_=>e.st) (Ez R):=by
 intro r pd h;unfold q6 Ez a_;refine aV.rep (en:=λ_ r pd=>e.st r pd) (λk s r1 M ad hk=>?_) bC () r pd (lz (lQ (eO h.sfx) h.b0)) h;unfold Qs;refine aV.ls (c:= .rL) c4.k bj bc ad fQ λa N O s2 F=>?_;refine aV.MN c4.k (by decide) F s2 λP C G Q=>?_;refine aV.ls (c:= .qo) c4.k bj bc G (C.trans s2) λa S D H I=>?_;dsimp only;refine aV.tst c4.k (rb e _) I λd T J j K=>?_;have i:=J.trans (H.trans (C.trans s2));dsimp only;by_cases he:cG (av d) il=true
 ·rw[bo he];have t:cG (av d) [101,108,105,102]=true:=he;rw[t];simp only[aR,gW];refine aV.MN c4.k (by decide) j i λu l v w=>?_;have hl:u.length<r1.length:=by grind
  exact aV.inl hl (hk () u D (l.trans i) v hl)
 ·rw[aS he];have t:cG (av d) [101,108,105,102]=false:=GC.2 he;rw[t];simp only[aK,e8];have E:∀(f:Unit->ak (Unit⊕Unit))(g:aa)(b:aq),g<:+r1->dR e g b->aV e r1 (cO f r1 (ae (cY fe) (λ_=>aW (.inr ())) g b)) (λ_=>e.st)
    (bb (nr (e.st g b) [102,105]) (λx=>(x.1,x.2.1,b,x.2.2.2.1,e.op,x.2.2.2.2.2)) λm=>some (.inr (m.1,m.2.1,b,m.2.2.2.1,e.op,m.2.2.2.2.2))):=by
   intro f g b o y;refine aV.MN c4.k (by decide) y o λU z A L=>?_;exact aV.inr (z.trans o) A rfl
  have p:=(rb e [101,108,115,101]).some j K;by_cases q:cG (av d) hR=true
  ·rw[bo q];have B:cG (av d) [101,108,115,101]=true:=q;rw[B] at p;refine aV.dX ?_ (e6 p);dsimp only[cond_true];refine aV.MN c4.k (by decide) j i λu l v w=>?_;refine aV.ls (c:= .jY) c4.k bj bc v (l.trans i) λa g b o y=>?_;exact E _ g b (o.trans (l.trans i)) y
  ·rw[aS q];have B:cG (av d) [101,108,115,101]=false:=GC.2 q;rw[B] at p;refine aV.dX ?_ (e6 p);dsimp only[cond_false];exact E _ d D i j
end
theorem y8{r:aa}(a:bx r=some r){w:aa}{p:Bool}(c:av r= .word w p):r≠[]/\c3 r=false:=by
 cases r with
 |nil=>grind[av]
 |cons b t=>
  refine⟨by simp,IU ⟨w,p,c⟩ ?_⟩;cases d:ga b with
  |false=>rfl
  |true=>rw[FE d] at a;have:=(dV a).length_le;grind
theorem akS{α j l:Type}{C:dw α->dw j}(i:c4 C){e:cI}{r0 r:aa}{pd:aq}{x:aa}{k:ak α}{cv:j->aa->aq->l}{g:an->an}{K:an->Option (bq an l)}(h:dR e r pd)
  (hk:∀r1,r1<:+r->dR e r1 pd->aV e r0 (C (k r1 pd)) cv (K (e.st r1 pd))) (bf:∀st,(g st).2.2.2.2.1=st.2.2.2.2.1\/(g st).2.2.2.2.1=e.op:=by intro _;first|exact .inl rfl|exact .inr rfl):
  aV e r0 (C (Go.Eng.ae (bQ x) (λt=>match t with
   | .eof=>b7 x
   | .word w true=>if me w then Go.Eng.ae (b2 w.length) λ_=>k else bK
   |_=>bK) r pd)) cv (bb (sm (e.st r pd)) g K):=by
 cases b:bx r with
 |none=>rw[dh (iE b),i.more];unfold sm;exact((((k3 e).none h b).bind λ_=> .inl rfl).bind bf).rQ
 |some r'=>
  rw[aZ (cB b)];have n:=dV b;have c:=h.mono n;have s:=lO _ _ _ (cX _) b;have hm:=(k3 e).some h b
  have d:∀(m:ak α),(av r'= .eof->m=b7 x)->(av r'≠ .eof->m=bK)->sm (e.st r pd)=bb (kL (e.st r' pd)) (λx=>x) (λy=>Empty.elim y)->aV e r0 (C (m r' pd)) cv (bb (sm (e.st r pd)) g K):=by
   intro m ad v z;rw[z];by_cases a:av r'= .eof
   ·rw[ad a];unfold b7;rw[i.more];exact((((tB c s).1 a).bind λ_=> .inl rfl).bind bf).rQ
   ·rw[v a];unfold bK;rw[i.bad];exact⟨c.sfx,_,hI (hI ((tB c s).2 a))⟩
  cases a:av r' with
  |word w p=>
   cases p with
   |true=>
    have u:w.length<=1000000:=by have:=(qu a).1.length_le;have:=eO c.sfx;have:=h.b0;omega
    have A:=(qu a).1;by_cases ax:me w=true
    ·simp only;rw[bo ax];have B:sm (e.st r pd)=some (.inr (e.st (r'.drop w.length) pd)):=by unfold sm a_;refine(e6 hm).trans ?_;rw[a];simp only[jo,bA,gW,aR];rw[(y7 w u).1,fY,bo trivial,ax];show some (Sum.inr (e.S,W (az e.S r'+(w.length:Int)),pd,e.ne,e.op,e.ka))=_;obtain⟨q,rfl⟩:=A;rw[pf,kB h.b0 c.sfx];rfl
     rw[B,e6 rfl];exact hk _ ((lP _ _).trans n) (c.mono (lP _ _))
    ·simp only;rw[aS ax];refine d bK (λf=>by grind) (λ_=>rfl) ?_;unfold sm a_;refine(e6 hm).trans ?_;rw[a];simp only[jo,bA,gW,aR];have D:me w=false:=by grind
     rw[(y7 w u).1,fY,bo trivial,D];rfl
   |false=>refine d bK (λf=>by grind) (λ_=>rfl) ?_;unfold sm a_;refine(e6 hm).trans ?_;rw[a];rfl
  |eof=>refine d (b7 x) (λ_=>rfl) (λf=>absurd a f) ?_;unfold sm a_;refine(e6 hm).trans ?_;rw[a];rfl
  |line=>refine d bK (λf=>by grind) (λ_=>rfl) ?_;unfold sm a_;refine(e6 hm).trans ?_;rw[a];rfl
  |op o=>refine d bK (λf=>by grind) (λ_=>rfl) ?_;unfold sm a_;refine(e6 hm).trans ?_;rw[a];rfl
noncomputable def C5:an->Option (bq an an):=λy=>bb (nq y [59]) (λx=>(x.1,x.2.1,y.2.2.1,x.2.2.2.1,y.2.2.2.2.1,x.2.2.2.2.2)) λz=>bif z.1 then some (.inr (z.2.1,W (z.2.2.1+1),y.2.2.1,z.2.2.2.2.1,y.2.2.2.2.1,z.2.2.2.2.2.2)) else
 bb (l9 (z.2.1,z.2.2.1,y.2.2.1,z.2.2.2.2.1,y.2.2.2.2.1,z.2.2.2.2.2.2)) (λx=>(x.1,x.2.1,y.2.2.1,x.2.2.2.1,y.2.2.2.2.1,x.2.2.2.2.2)) λu=>bif !(decide (u.1.1=1)) then bb (kL (u.2.1,u.2.2.1,y.2.2.1,u.2.2.2.2.1,y.2.2.2.2.1,u.2.2.2.2.2.2)) (λx=>(x.1,x.2.1,y.2.2.1,x.2.2.2.1,y.2.2.2.2.1,x.2.2.2.2.2)) (λy=>Empty.elim y)
  else some (.inr (u.2.1,u.2.2.1,y.2.2.1,u.2.2.2.2.1,y.2.2.2.2.1,u.2.2.2.2.2.2))
section
variable{R:bk}{n:Nat}(hA:tE R n){e:cI}(bc:e.ne=30- (n:Int))
include hA bc
theorem akT:
  ∀(r:aa)(pd:aq),dR e r pd->aV e r (pN (ba false n) r pd) (λ_=>e.st) (fixF (vH R C5) bC (e.st r pd)):=by
 intro r pd h;unfold pN;refine aV.rep (en:=λ_ r pd=>e.st r pd) (λk s r1 c ad hk=>?_) bC () r pd (lz (lQ (eO h.sfx) h.b0)) h;unfold vH C5;refine aV.tst c4.k (k3 e) ad λa I s2 b g=>?_;dsimp only;by_cases i:∃w p,av a= .word w p
 ·obtain⟨w,p,i⟩:=i;rw[i];simp only[jo,bA,aK];refine aV.iF c4.k ((MF hA bc b g i).mono s2) (λ_=>rfl) λ_ B J C K L=>?_;obtain⟨D,E⟩:=y8 g i;have hl:B.length<r1.length:=by have:=vU (mi false n) D E C;grind
  grind[aV.inl]
 ·have F:decide ((jo (av a)).1=3)=false:=by grind[decide_eq_false_iff_not,ME]
  simp only[F,aR];refine aV.dX ?_ (e6 ((rR e [59]).some b g));dsimp only;have aB:=(k3 e).some b g;have l:∀(m:ak (Unit⊕Unit))(f:Unit->ak (Unit⊕Unit)),av a≠ .line->av a≠ .op [59]->(av a= .eof->m=b7 [])->(av a≠ .eof->m=bK)->aV e r1 (cO f r1 (m a c)) (λ_=>e.st)
    (bb (l9 (e.st a c)) (λx=>(x.1,x.2.1,c,x.2.2.2.1,e.op,x.2.2.2.2.2)) λu=>bif !(decide (u.1.1=1)) then bb (kL (u.2.1,u.2.2.1,c,u.2.2.2.2.1,e.op,u.2.2.2.2.2.2)) (λx=>(x.1,x.2.1,c,x.2.2.2.1,e.op,x.2.2.2.2.2)) (λy=>Empty.elim y) else some (.inr (u.2.1,u.2.2.1,c,u.2.2.2.2.1,e.op,u.2.2.2.2.2.2))):=by
   intro m f M N G H;refine aV.dX ?_ (e6 aB);have:decide ((jo (av a)).1=1)=false:=by
    rw[GN];cases d:av a with
    |line=>grind
    |_=>simp[jo]
   simp only[this,e8,aK];by_cases d:av a= .eof
   ·rw[G d];exact(((tB b g).1 d).bind λ_=> .inr rfl).rQ
   ·rw[H d];exact⟨b.sfx,_,hI ((tB b g).2 d)⟩
  cases d:av a with
  |word w p=>grind
  |eof=>
   have:=l (b7 []) (λ_=>ae (bQ []) λt=>match t with
    | .eof=>b7 []
    | .word _ _=>ae (cQ (ba false n)) λ_=>aW (.inl ())
    | .line=>aW (.inr ())
    | .op o=>if o=[59] then ae (b2 1) λ_=>aW (.inr ()) else bK) (by grind) (by grind) (λ_=>rfl) (λv=>absurd d v)
   exact this
  |line=>
   refine aV.dX (y:=some (.inr (e.st a c))) ?_ ?_
   ·exact aV.inr s2 b rfl
   ·have j:((Tok.line==Tok.op [59]):Bool)=false:=by simp
    rw[j];simp only[aR];refine(e6 aB).trans ?_;rw[d];rfl
  |op o=>
   by_cases z:o=[59]
   ·subst z;simp only[beq_self_eq_true,aK,cD];obtain⟨q,rfl⟩:=(iq d).2.1;have A:q<:+[59]++q:=gY [59] q;refine aV.dX (y:=some (.inr (e.st q c))) ?_ ?_
    ·exact aV.inr (A.trans s2) (b.mono A) rfl
    ·show some (Sum.inr (e.S,W (az e.S ([59]++q)+1),c,e.ne,e.op,e.ka))=_;have:=kB (w:=[59]) (t:=q) b.b0 b.sfx;rw[show(([59]:aa).length:Int)=1 from rfl] at this;rw[this];rfl
   ·have j:((Tok.op o==Tok.op [59]):Bool)=false:=by grind
    rw[j];simp only[aR,aS z];exact l bK _ (by grind) (by grind) (λv=>by grind) (λ_=>rfl)
end
theorem oE{σ τ α β b:Type}{m:Option (bq σ α)}{f:σ->τ}{k:α->Option (bq τ β)}{K:β->Option (bq τ b)}:bb (bb m f k) (λx=>x) K=bb m f (λa=>bb (k a) (λx=>x) K):=by unfold bb;grind
theorem Y7{R:bk}{J:an->Option (bq an an)}{K:an->Option (bq an an)}:∀(n:Nat)(x:an),fixF (vH R λy=>bb (J y) (λx=>x) K) n x=bb (fixF (vH R J) n x) (λx=>x) K
 |0,x=>rfl
 |n+1,x=>by
  rw[e5,e5];have a:=Y7 (R:=R) (J:=J) (K:=K) n;generalize fixF (vH R λy=>bb (J y) (λx=>x) K) n=b at a;generalize fixF (vH R J) n=c at a;unfold vH;dsimp only;rw[oE];congr 1
  funext y
  cases decide (y.1.1=3) with
  |true=>simp_all[aK,oE]
  |false=>rfl
theorem aV.Y8{α β b:Type}{m:ak α}{x:aa}{k:α->ak β}{e:cI}{r0 r:aa}{pd:aq}{cv:β->aa->aq->b}{y:Option (bq an b)}(h:aV e r0 (Go.Eng.ae m k r pd) cv y):aV e r0 (Go.Eng.ae (m.aM x) k r pd) cv y:=by
 unfold Go.Eng.ae ak.aM at*;cases hm:m r pd with
 |ok a r1 c=>grind
 |more op nd ds=>rw[hm] at h;exact h
 |bad q=>grind
 |deep q=>trivial
theorem akU(K:an->Option (bq an an))(y:an):bb (C5 y) (λx=>x) K=bb (nq y [59]) (λx=>(x.1,x.2.1,y.2.2.1,x.2.2.2.1,y.2.2.2.2.1,x.2.2.2.2.2)) λz=>bif z.1 then K (z.2.1,W (z.2.2.1+1),y.2.2.1,z.2.2.2.2.1,y.2.2.2.2.1,z.2.2.2.2.2.2) else
   bb (l9 (z.2.1,z.2.2.1,y.2.2.1,z.2.2.2.2.1,y.2.2.2.2.1,z.2.2.2.2.2.2)) (λx=>(x.1,x.2.1,y.2.2.1,x.2.2.2.1,y.2.2.2.2.1,x.2.2.2.2.2)) λu=>bif !(decide (u.1.1=1)) then bb (kL (u.2.1,u.2.2.1,y.2.2.1,u.2.2.2.2.1,y.2.2.2.2.1,u.2.2.2.2.2.2)) (λx=>(x.1,x.2.1,y.2.2.1,x.2.2.2.1,y.2.2.2.2.1,x.2.2.2.2.2)) (λy=>Empty.elim y)
    else K (u.2.1,u.2.2.1,y.2.2.1,u.2.2.2.2.1,y.2.2.2.2.1,u.2.2.2.2.2.2):=by
 unfold C5;rw[oE];congr 1
 funext z
 cases z.1 with
 |true=>rfl
 |false=>
  simp only[aR];rw[oE];congr 1
  funext u
  cases decide (u.1.1=1) with
  |true=>rfl
  |false=>simp only[e8,aK];grind[oE,Empty.elim]
theorem akV{R:bk}{n:Nat}(hA:tE R n)(bj:xp R n){e:cI}(bc:e.ne=30- (n:Int)):qy e (pO (a1 false n) (ba false n)) (λ_=>e.st) (Ex R):=by
 intro r pd h;unfold Ex;refine akS (C:=λx=>x) c4.id h λr1 s1 E=>?_;refine aV.Y8 ?_;rw[kA];refine aV.tst (C:=λx=>x) c4.id (rR e [59]) E λk U s2 g V=>?_;dsimp only;rw[yZ];by_cases l:av k= .op [59]
 ·rw[bo l];have m:((av k==Tok.op [59]):Bool)=true:=by grind
  rw[m];simp only[aK];obtain⟨q,rfl⟩:=(iq l).2.1;have o:q<:+[59]++q:=gY [59] q;have F:W (az e.S ([59]++q)+1)=az e.S q:=kB (w:=[59]) g.b0 g.sfx;rw[kA];show aV e r (ae (ae cU λ_=>aW ()) (λ_=>iP (a1 false n) er) q pd) _ (bb (lf (e.S,W (az e.S ([59]++q)+1),pd,e.ne,e.op,e.ka)) _ _);rw[F,kA];refine aV.AY (C:=λx=>x) c4.id (g.mono o) (o.trans (s2.trans s1)) λb p c _ s t=>?_;dsimp only;refine aV.dX ((SS bj bc _ p c t).mono (s.trans (o.trans (s2.trans s1)))) ?_;generalize ti R (e.st p c)=y;unfold bb;grind
 ·rw[aS l];have m:((av k==Tok.op [59]):Bool)=false:=by grind
  rw[m];simp only[aR];rw[kA];refine aV.AY (C:=λx=>x) c4.id g (s2.trans s1) λb p c _ s t=>?_;dsimp only;unfold a_
  have A:∀a d,a<:+r->dR e a d->aV e r (iP (a1 false n) er a d) (λ_=>e.st) (bb (ti R (e.st a d)) (λx=>x) λy=>some (.inr y)):=by intro a d i f;refine aV.dX ((SS bj bc _ a d f).mono i) ?_;generalize ti R (e.st a d)=y;unfold bb;grind
  have B:=s.trans (s2.trans s1);rw[kA];refine aV.tst (C:=λx=>x) c4.id (rb e _) t λa X i f G=>?_;dsimp only;rw[yZ];by_cases j:cG (av a) fB=true
  ·rw[bo j];have u:cG (av a) [105,110]=true:=j;rw[u];simp only[aK];have v:av a= .word [105,110] true:=by grind[cG]
   have H:nr (e.st a c) [105,110]=some (.inr (e.st (a.drop 2) c)):=by
    have:=I5 [105,110] f;have I:cY [105,110] a c= .ok () (a.drop 2) c:=by unfold cY na;rw[aZ (cB G),v];rfl
    rw[I] at this;exact this.2.2
   refine aV.dX ?_ (e6 H);have aE:a.drop 2<:+a:=lP _ _;rw[kA];show aV e r (ae (ae (pN (ba false n)) λ_=>ae cU λ_=>aW ()) (λ_=>iP (a1 false n) er) (a.drop 2) c) _ _;rw[kA]
   have L:∀(J K:an->Option (bq an an))(x:an),(∀y,J y=bb (C5 y) (λx=>x) K)->fixF (vH R J) bC x=bb (fixF (vH R C5) bC x) (λx=>x) K:=by intro J K x M;have:J=λy=>bb (C5 y) (λx=>x) K:=funext M;grind[Y7]
   refine aV.dX ?_ (L _ (λz=>bb (lf z) (λx=>x) λy=>bb (ti R y.2) (λx=>x) λy=>some (.inr y)) _ (λy=>(akU (λz=>bb (lf z) (λx=>x) λy=>bb (ti R y.2) (λx=>x) λy=>some (.inr y)) y).symm));have N:=aE.trans (i.trans B);refine aV.iF (C:=λx=>x) c4.id ((akT hA bc (a.drop 2) c (f.mono aE)).mono N) (λ_=>rfl) λ_ Y Z _ D O=>?_;rw[kA];refine aV.AY (C:=λx=>x) c4.id O D λb P Q _ S T=>?_;exact A P Q (S.trans D) T
  ·rw[aS j];have u:cG (av a) [105,110]=false:=GC.2 j;rw[u];simp only[aR];exact A a c (i.trans B) f
theorem Y9{J K:an->Option (bq an an)}{L:(an->Option (bq an an))->(an->Option (bq an an))->an->Option (bq an an)}
  (bj:∀(a b:an->Option (bq an an)),(∀x,a x=bb (b x) (λx=>x) K)->∀x,L (λy=>bb (J y) (λx=>x) K) a x=bb (L J b x) (λx=>x) K):
  ∀(n:Nat)(x:an),fixF (L λy=>bb (J y) (λx=>x) K) n x=bb (fixF (L J) n x) (λx=>x) K
 |0,x=>rfl
 |n+1,x=>by rw[e5,e5];exact bj _ _ (Y9 bj n) x
noncomputable def y9:an->Option (bq an an):=λy=>bb (sh y [41]) (λx=>(x.1,x.2.1,y.2.2.1,x.2.2.2.1,y.2.2.2.2.1,x.2.2.2.2.2)) λz=>some (.inr (z.1,z.2.1,y.2.2.1,z.2.2.2.1,y.2.2.2.2.1,z.2.2.2.2.2))
section
variable{R:bk}{n:Nat}(hA:tE R n){e:cI}(bc:e.ne=30- (n:Int))
include hA bc
theorem akX{α s u:Type}{C:dw α->dw s}(d:c4 C){r0 r:aa}{pd:aq}{x y:aa}{k:Unit->ak α}{cv:s->aa->aq->u}{K:an->Option (bq an u)}(h:dR e r pd)(h0:r<:+r0)
  (hk:∀r1 i,r1<:+r->r1.length<r.length->dR e r1 i->aV e r0 (C (k () r1 i)) cv (K (e.st r1 i))):
  aV e r0 (C (Go.Eng.ae (bQ x) (λt=>match t with
   | .eof=>b7 x
   | .word _ _=>Go.Eng.ae ((cQ (ba false n)).aM y) k
   |_=>bK) r pd)) cv (bb (lh R (e.st r pd)) (λx=>x) K):=by
 have b:=(Sx hA bc x r pd h).mono h0;unfold jQ at b;unfold Go.Eng.ae at b⊢;cases aB:bQ x r pd with
 |ok t r1 i=>
  rw[aB] at b;simp only at b⊢;obtain⟨m,rfl,rfl⟩:=I8 aB;have v:=lO _ _ _ (cX _) m;cases j:av r1 with
  |word w p=>
   rw[j] at b;simp only at b⊢;unfold ak.aM;cases l:cQ (ba false n) r1 i with
   |ok a z A=>rw[l] at b;obtain⟨c,f,B⟩:=b;rw[e6 B];obtain⟨D,E⟩:=y8 v j;have F:=vU (mi false n) D E l;have G:=(dV m).length_le;exact hk z A (((ar.word (mi false n)).sfx l).trans (dV m)) (by omega) f
   |more op nd ds=>rw[l] at b;obtain⟨st,c,f⟩:=b;simp only;rw[d.more];exact⟨st,hI c,f⟩
   |bad q=>rw[l] at b;obtain⟨g,st,c⟩:=b;simp only;rw[d.bad];exact⟨g,st,hI c⟩
   |deep q=>simp only;rw[d.deep];trivial
  |eof=>rw[j] at b;unfold b7 at b⊢;simp only at b⊢;obtain⟨st,c,f⟩:=b;rw[d.more];exact⟨st,hI c,f⟩
  |line=>rw[j] at b;unfold bK at b⊢;obtain⟨g,st,c⟩:=b;simp only;rw[d.bad];exact⟨g,st,hI c⟩
  |op o=>rw[j] at b;unfold bK at b⊢;obtain⟨g,st,c⟩:=b;simp only;rw[d.bad];exact⟨g,st,hI c⟩
 |more op nd ds=>rw[aB] at b;obtain⟨st,c,f⟩:=b;simp only;rw[d.more];exact⟨st,hI c,f⟩
 |bad q=>rw[aB] at b;obtain⟨g,st,c⟩:=b;simp only;rw[d.bad];exact⟨g,st,hI c⟩
 |deep q=>simp only;rw[d.deep];trivial
theorem akY:qy e (kZ (ba false n)) (λ_=>e.st) (λx=>bb (lh R x) (λx=>x) λy=>fixF (vG R y9) bC y):=by
 have j:∀(N:Nat)(r:aa)(pd:aq),r.length<N->dR e r pd->aV e r (kZ (ba false n) r pd) (λ_=>e.st) (bb (lh R (e.st r pd)) (λx=>x) λy=>fixF (vG R y9) N y):=by
  intro N;induction N with
  |zero=>omega
  |succ N v=>
   intro r pd O h;unfold kZ;rw[cH];refine akX hA bc c4.k h fQ λr1 b s1 P E=>?_;rw[e5];generalize hk:fixF (vG R y9) N=k at v;unfold vG y9;refine aV.tst c4.k (rR e [124]) E λa Q s2 g A=>?_;dsimp only;have B:=s2.trans s1;have l:∀(m:ak (Unit⊕Unit))(f:Unit->ak (Unit⊕Unit))(c:Bool),av a≠ .op [41]->c=false->(av a= .eof->m=b7 [41])->(av a≠ .eof->m=bK)->aV e r (cO f r (m a b)) (λ_=>e.st)
     (bif c then bb (lh R (e.S,W (az e.S a+1),b,e.ne,e.op,e.ka)) (λx=>x) (λy=>k y) else bb (sh (e.st a b) [41]) (λx=>(x.1,x.2.1,b,x.2.2.2.1,e.op,x.2.2.2.2.2)) λz=>some (.inr (z.1,z.2.1,b,z.2.2.2.1,e.op,z.2.2.2.2.2))):=by
    intro m f c F G H I;subst G;simp only[aR];have i:=Mv [41] g;have bc:∀q,av a=q->q≠ .op [41]:=λq s=>s▸F
    unfold jR na at i;rw[aZ (cB A)] at i;by_cases d:av a= .eof
    ·rw[H d];rw[bo d] at i;obtain⟨st,u,S⟩:=i;exact⟨_,hI u,by simp⟩
    ·rw[I d];rw[aS d,aS (by grind)] at i;obtain⟨J,st,u⟩:=i;exact⟨J,_,hI u⟩
   cases d:av a with
   |word w p=>exact l bK _ _ (by grind) (by simp) (λt=>by grind) (λ_=>rfl)
   |eof=>exact l (b7 [41]) _ _ (by grind) (by simp) (λ_=>rfl) (λt=>absurd d t)
   |line=>exact l bK _ _ (by grind) (by simp) (λt=>by grind) (λ_=>rfl)
   |op o=>
    by_cases ad:o=[124]
    ·subst ad;simp only[beq_self_eq_true,aK,cD];obtain⟨q,rfl⟩:=(iq d).2.1;have s:q<:+[124]++q:=gY [124] q;have K:W (az e.S ([124]++q)+1)=az e.S q:=kB (w:=[124]) g.b0 g.sfx;have hl:q.length<r.length:=by grind
     have a8:=v q b (by omega) (g.mono s);show aV e r (cO _ r (ae (b2 1) (λ_=>aW (.inl ())) ([124]++q) b)) _ (bb (lh R (e.S,W (az e.S ([124]++q)+1),b,e.ne,e.op,e.ka)) _ _);rw[K];exact aV.inl hl (a8.mono (s.trans B))
    ·by_cases C:o=[41]
     ·subst C;have L:((Tok.op [41]==Tok.op [124]):Bool)=false:=by simp
      rw[L];simp only[aR,cD,show¬(([41]:aa)=[124]) by decide,cl];obtain⟨D,M⟩:=YI g A d;refine aV.dX (y:=some (.inr (e.st (a.drop 1) b))) ?_ ?_
      ·exact aV.inr (D.trans B) (g.mono D) rfl
      ·exact(e6 M).trans rfl
     ·simp only[aS ad,aS C];exact l bK _ _ (by grind) (by grind) (λt=>by grind) (λ_=>rfl)
 intro r pd h;exact j bC r pd (lz (lQ (eO h.sfx) h.b0)) h
end
def Jf(l:dU)(D:ak Unit):ak (Unit⊕Unit):=ae (bQ []) λt=>if t= .eof then b7 [] else if cG t ev then ae (b2 4) λ_=>aW (.inr ()) else
 ae ((if t= .op [40] then b2 1 else aW ())) λ_=>ae (kZ D) λ_=>ae (l.ls .item true) λ_=>ae (bQ []) λt=>if t= .op [59,59] then ae (b2 2) λ_=>aW (.inl ()) else aW (.inl ())
def uU(l:dU)(D:ak Unit):Unit->ak (Unit⊕Unit):=λ_=>ae cU λ_=>Jf l D
theorem akZ(l:dU)(D:ak Unit):nA l D=cb (uU l D) ():=rfl
noncomputable def Jg:an->Option (bq an an):=λy=>bb (nr y ev) (λx=>(x.1,x.2.1,y.2.2.1,x.2.2.2.1,y.2.2.2.2.1,x.2.2.2.2.2)) λz=>some (.inr (z.1,z.2.1,y.2.2.1,z.2.2.2.1,y.2.2.2.2.1,z.2.2.2.2.2))
theorem MQ{r:aa}{pd:aq}(a:bx r=some r)(b:av r≠ .line):cU r pd= .ok false r pd:=by rw[sE,cH,rM a b];rfl
theorem A0(fr:Bool)(n:Nat):∃ao,(a1 fr n).ls=λc no=>oz ao c no:=by
 cases n with
 |zero=>exact⟨_,rfl⟩
 |succ n=>exact⟨_,rfl⟩
theorem ak0{e:cI}{v:aa}{pd:aq}{w:aa}(h:dR e v pd)(b:bx v=some v)(c:av v= .word w true):cY w v pd= .ok () (v.drop w.length) pd/\v.drop w.length<:+v/\nr (e.st v pd) w=some (.inr (e.st (v.drop w.length) pd)):=by
 have a:cY w v pd= .ok () (v.drop w.length) pd:=by unfold cY na;rw[aZ (cB b),c];simp[cG,b2]
 have:=I5 w h;rw[a] at this;exact⟨a,this.1,this.2.2⟩
theorem C6{σ α:Type}(y:Option (bq σ α)):bb y (λx=>x) (λa=>some (.inr a))=y:=by unfold bb;grind
section
variable{R:bk}{n:Nat}(hA:tE R n)(bj:xp R n){e:cI}(bc:e.ne=30- (n:Int))
include hA bj bc
theorem ak1:∀(N:Nat)(r0 r:aa)(pd:aq),r<:+r0->r.length<N->dR e r pd->aV e r0 (cO (uU (a1 false n) (ba false n)) r0 (Jf (a1 false n) (ba false n) r pd)) (λ_=>e.st) (fixF (HU R Jg) N (e.st r pd)):=by
 intro N;induction N with
 |zero=>omega
 |succ N O=>
  intro r0 r pd C n1 h;rw[e5];generalize fixF (HU R Jg) N=k at O;unfold HU a_;unfold Jf;refine aV.tst c4.k (rb e _) h λr1 qq s1 l D=>?_;dsimp only;have P:=s1.trans C
  have Q:∀(c:aa)(v:aq),c<:+r0->dR e c v->bx c=some c->cG (av c) ev=true->aV e r0 (cO (uU (a1 false n) (ba false n)) r0 (ae (b2 4) (λ_=>aW (.inr ())) c v)) (λ_=>e.st) (Jg (e.st c v)):=by
   intro c v s2 A Z ht;have uS:av c= .word ev true:=by grind[cG]
   obtain⟨_,S,aX⟩:=ak0 A Z uS;unfold Jg;rw[e6 aX];exact aV.inr (S.trans s2) (A.mono S) rfl
  by_cases he:cG (av r1) ev=true
  ·have ax:av r1≠ .eof:=by intro o;rw[o] at he;cases he
   have E:cG (av r1) [101,115,97,99]=true:=he;rw[aS ax,bo he,E];simp only[gW,aR];exact Q r1 pd P l D he
  have E:cG (av r1) [101,115,97,99]=false:=GC.2 he;rw[E,aS he];simp only[e8,aK];refine aV.dX ?_ (e6 ((rR e [40]).some l D));dsimp only;have T:∀c,c<:+r1->dR e c pd->aV e r0 (cO (uU (a1 false n) (ba false n)) r0 (ae (kZ (ba false n)) (λ_=>ae ((a1 false n).ls .item true) λ_=>ae (bQ []) λt=>if t= .op [59,59] then ae (b2 2) λ_=>aW (.inl ()) else aW (.inl ())) c pd)) (λ_=>e.st)
    (bb (lh R (e.st c pd)) (λx=>x) λy=>fixF (vG R (λy=>bb (y9 y) (λx=>x) λCa=>(bb (R.ks Ca 8 true) (λx=>x) λ(Wk,i)=>(bb (nq i ([59,59]:aa)) (λx=>(x.1,x.2.1,i.2.2.1,x.2.2.2.1,i.2.2.2.2.1,x.2.2.2.2.2)) λ(Cb,f)=>(bif(!Cb) then Jg (f.1,f.2.1,i.2.2.1,f.2.2.2.1,i.2.2.2.2.1,f.2.2.2.2.2) else(bb (lf (f.1,(W (f.2.1+2)),i.2.2.1,f.2.2.2.1,i.2.2.2.2.1,f.2.2.2.2.2)) (λx=>x) λ(Wl,m)=>k (m.1,m.2.1,m.2.2.1,m.2.2.2.1,m.2.2.2.2.1,m.2.2.2.2.2))))))) bC y):=by
   intro c s2 A
   have a4:∀(K:an->Option (bq an an)),(bb (lh R (e.st c pd)) (λx=>x) λy=>fixF (vG R (λy=>bb (y9 y) (λx=>x) K)) bC y)=bb (bb (lh R (e.st c pd)) (λx=>x) λy=>fixF (vG R y9) bC y) (λx=>x) K:=by
    intro K;rw[oE];congr 1
    funext y
    refine Y9 (L:=vG R) (λcq ct hk x=>?_) bC y;unfold vG;dsimp only;rw[oE];congr 1
    funext z
    cases z.1 with
    |true=>simp_all[aK,oE]
    |false=>rfl
   rw[a4];refine aV.iF c4.k ((akY hA bc c pd A).mono (s2.trans P)) (λ_=>rfl) λ_ B b5 MR jy eY=>?_;have Ft:=RY (mi false n) MR;have arC:B.length<r.length:=by grind
   have arD:B.length<r0.length:=by grind
   obtain⟨ao,e7⟩:=A0 false n;have Vf:=bj.im e .item true (by simp) bc B b5 eY;refine aV.iF c4.k (Vf.mono jy) (λ_=>rfl) λa d g F U p=>?_;dsimp only;have arE:=((pQ false n).ls .item true).sfx F;rw[e7] at F;obtain⟨s,t4⟩:=y4 (by simp) F;rw[aZ (cB s)];refine aV.dX ?_ (e6 ((rR e [59,59]).some p s));dsimp only;by_cases G:av d= .op [59,59]
   ·rw[bo G];have j:((av d==Tok.op [59,59]):Bool)=true:=by grind
    rw[j];simp only[gW,aR];obtain⟨q,rfl⟩:=(iq G).2.1;have u:q<:+[59,59]++q:=gY [59,59] q;have H:W (az e.S ([59,59]++q)+2)=az e.S q:=kB (w:=[59,59]) p.b0 p.sfx;have arF:q.length<B.length:=by grind
    show aV e r0 (cO _ r0 (.ok (.inl ()) q g)) _ (bb (lf (e.S,W (az e.S ([59,59]++q)+2),g,e.ne,e.op,e.ka)) _ _);rw[H];have I:=p.mono u;have J:cO (uU (a1 false n) (ba false n)) r0 (.ok (.inl ()) q g)=cb (uU (a1 false n) (ba false n)) () q g:=by show(if q.length<r0.length then _ else _)=_;grind
    rw[J,cH];refine aV.mono ?_ ((u.trans U));unfold uU;refine aV.AY c4.k I fQ λb eL lu _ nE mw=>?_;exact O q eL lu nE (by grind) mw
   ·rw[aS G];have j:((av d==Tok.op [59,59]):Bool)=false:=by grind
    rw[j];simp only[e8,aK];have V:cG (av d) ev=true:=by grind[dT]
    have X:av d≠ .line/\av d≠ .eof:=by grind[av,ev,cG]
    have nF:d.length<r0.length:=by grind
    have J:cO (uU (a1 false n) (ba false n)) r0 (aW (.inl ()) d g)=cO (uU (a1 false n) (ba false n)) d (ae (b2 4) (λ_=>aW (.inr ())) d g):=by show(if d.length<r0.length then _ else _)=_;rw[bo nF,cH];congr 1;show ae cU (λ_=>Jf (a1 false n) (ba false n)) d g=_;rw[aZ (MQ s X.1)];unfold Jf;rw[aZ (cB s),aS X.2,bo V]
    rw[J];have:=Q d g U p s V;exact this
  by_cases aB:av r1= .op [40]
  ·have j:((av r1==Tok.op [40]):Bool)=true:=by grind
   rw[bo aB,aS (by grind),j];simp only[cond_true];obtain⟨q,rfl⟩:=(iq aB).2.1;have u:q<:+[40]++q:=List.suffix_append [40] q;have H:W (az e.S ([40]++q)+1)=az e.S q:=kB (w:=[40]) l.b0 l.sfx;have:=T q u (l.mono u);show aV e r0 (cO _ r0 (ae (kZ (ba false n)) _ q pd)) _ (bb (lh R (e.S,W (az e.S ([40]++q)+1),pd,e.ne,e.op,e.ka)) _ _);rw[H];refine aV.dX this ?_;congr 1
   funext y
   congr 2
   funext z
   unfold y9;rw[oE];rfl
  ·have j:((av r1==Tok.op [40]):Bool)=false:=by grind
   rw[j];simp only[aR];have M:=T r1 fQ l;have bp:∀(y Y:Option (bq an an)),Y=y->aV e r0 (cO (uU (a1 false n) (ba false n)) r0 (ae (kZ (ba false n)) (λ_=>ae ((a1 false n).ls .item true) λ_=>ae (bQ []) λt=>if t= .op [59,59] then ae (b2 2) λ_=>aW (.inl ()) else aW (.inl ())) r1 pd)) (λ_=>e.st) y->
     aV e r0 (cO (uU (a1 false n) (ba false n)) r0 ((if av r1= .eof then b7 [] else ae (if av r1= .op [40] then b2 1 else aW ()) λ_=>ae (kZ (ba false n)) λ_=>ae ((a1 false n).ls .item true) λ_=>ae (bQ []) λt=>if t= .op [59,59] then ae (b2 2) λ_=>aW (.inl ()) else aW (.inl ()):ak (Unit⊕Unit)) r1 pd)) (λ_=>e.st) Y:=by
    rintro y _ rfl o;by_cases hf:av r1= .eof
    ·rw[bo hf]
     have aB:∃nd ds,kZ (ba false n) r1 pd= .more [] nd ds:=by unfold kZ;rw[cH,aZ (cB D),hf];exact⟨_,_,rfl⟩
     obtain⟨nd,ds,aB⟩:=aB;rw[dh aB] at o;exact o
    ·rw[aS hf,aS aB];exact o
   refine bp _ _ ?_ M;congr 1
   funext y
   congr 2
   funext z
   unfold y9;rw[oE];rfl
theorem ak5:qy e (q7 (a1 false n) (ba false n)) (λ_=>e.st) (Eu R):=by
 intro r pd h;unfold Eu;have a:=Sx hA bc ([120,32]++fB++[10]++ev) r pd h;unfold q7;unfold jQ at a;cases aB:bQ ([120,32]++fB++[10]++ev) r pd with
 |more op nd ds=>rw[dh aB] at a⊢;obtain⟨st,c,i⟩:=a;exact⟨st,hI c,i⟩
 |bad q=>rw[g5 aB] at a⊢;obtain⟨g,st,c⟩:=a;exact⟨g,st,hI c⟩
 |deep q=>
  have:ae (bQ ([120,32]++fB++[10]++ev)) (λt=>match t with
   | .eof=>b7 ([120,32]++fB++[10]++ev)
   | .word _ _=>cQ (ba false n)
   |_=>bK) r pd= .deep q:=by grind[ae]
  unfold ae;rw[aB];trivial
 |ok t r1 K=>
  rw[aZ aB] at a⊢;obtain⟨A,rfl,rfl⟩:=I8 aB;have s1:=dV A;cases k:av r1 with
  |eof=>rw[k] at a;obtain⟨st,c,i⟩:=a;exact⟨st,hI c,i⟩
  |line=>rw[k] at a;obtain⟨g,st,c⟩:=a;exact⟨g,st,hI c⟩
  |op o=>rw[k] at a;obtain⟨g,st,c⟩:=a;exact⟨g,st,hI c⟩
  |word w p=>
   rw[k] at a;dsimp only at a⊢;refine aV.Y8 ?_;rw[kA];refine aV.iF (C:=λx=>x) c4.id a (λ_=>rfl) λ_ L M _ s2 B=>?_;rw[kA];refine aV.AY (C:=λx=>x) c4.id B s2 λb y m _ D s=>?_;dsimp only;rw[kA];have E:=D.trans s2;cases j:bx y with
   |none=>rw[dh (iE j)];unfold nr;exact((((rb e _).none s j).bind λ_=> .inl rfl).bind λ_=> .inr rfl).rQ
   |some d=>
    rw[aZ (cB j)];have z:=dV j;have F:=s.mono z;have N:=lO _ _ _ (cX _) j;have f:=I5 [105,110] s;have he:cY [105,110] y m=(if av d= .eof then b7 [] else if cG (av d) [105,110] then b2 2 else bK:ak Unit) d m:=by unfold cY na;grind[aZ,cB]
    rw[he] at f;by_cases ad:av d= .eof
    ·rw[bo ad] at f⊢;obtain⟨st,c,i⟩:=f;exact⟨_,hI c,by simp;rfl⟩
    rw[aS ad] at f⊢;rw[show ae (aW (av d)) (λt=>if cG t fB=true then ae (b2 2) λ_=>(nA (a1 false n) (ba false n)).aM (10::ev) else bK)=(if cG (av d) fB=true then ae (b2 2) λ_=>(nA (a1 false n) (ba false n)).aM (10::ev) else bK) from rfl];by_cases l:cG (av d) fB=true
    ·have u:cG (av d) [105,110]=true:=l;rw[bo u] at f;rw[bo l];obtain⟨c,i,G⟩:=f;refine aV.dX ?_ (e6 G);have aE:d.drop 2<:+d:=lP _ _;show aV e r ((nA (a1 false n) (ba false n)).aM (10::ev) (d.drop 2) m) _ _;refine aV.aM ?_;rw[akZ,cH];refine aV.mono ?_ (aE.trans (z.trans E));unfold uU;refine aV.AY c4.k (F.mono aE) fQ λb H I _ J v=>?_;have:=ak1 hA bj bc bC (d.drop 2) H I J (lz (lQ (eO v.sfx) v.b0)) v;exact this
    ·have u:¬cG (av d) [105,110]=true:=l;rw[aS u] at f;rw[aS l];obtain⟨g,st,c⟩:=f;exact⟨g,_,hI c⟩
end
theorem Zd{t:Tok}(h:hG t=true):(jo t).2.1=mH t/\0<(mH t).length:=by
 cases t with
 |eof=>cases h
 |line=>cases h
 |op o=>
  have:o=[40]:=by grind[hG]
  subst this;decide
 |word w p=>
  cases p with
  |false=>cases h
  |true=>
   refine⟨rfl,?_⟩;cases w with
   |nil=>exact absurd h (by decide)
   |cons a b=>simp[mH]
def C7(l:dU)(t:Tok):ak Unit:=match t with
 | .op _=>ae ((l.ls .paren false).aM [41]) λ_=>jR [41]
 | .word w _=>
  if w=[123] then ae ((l.ls .q5 false).aM [10,125]) λ_=>cY [125]
  else if w=m_ then q6 l
  else if w=ny then pO l l.dl
  else if w=pL then q7 l l.dl
  else ae ((l.ls .pM false).aM er) λ_=>iP l er
 |_=>bK
theorem Ze{l:dU}{t:Tok}(h:hG t=true)(r:aa)(pd:aq):hS l t r pd=C7 l t (r.drop (mH t).length) pd:=by
 cases t with
 |eof=>cases h
 |line=>cases h
 |op o=>rfl
 |word w p=>rfl
theorem Zf{R:bk}{n:Nat}(ax:n<=30)(hA:∀m,n=m+1->tE R m/\xp R m){e:cI}(bc:e.ne=30- (n:Int)){r:aa}{pd:aq}(h:dR e r pd)(K:bx r=some r)(aF:hG (av r)=true):
  aV e r ((a1 false n).cp (av r) r pd) (λ_=>e.st) (Ce R (e.st r pd)):=by
 cases n with
 |zero=>trivial
 |succ m=>
  obtain⟨E,g⟩:=hA m rfl;obtain⟨L,SI⟩:=Zd aF;have M:mH (av r)<+:r:=by
   cases b:av r with
   |eof=>rw[b] at aF;cases aF
   |line=>rw[b] at aF;cases aF
   |op o=>
    rw[b] at aF;have:o=[40]:=by grind[hG]
    subst this;exact(iq b).2.1
   |word w p=>
    rw[b] at aF;cases p with
    |false=>cases aF
    |true=>exact(qu b).1
  unfold Ce a_;refine aV.dX ?_ (e6 ((k3 e).some h K));dsimp only;rw[L];generalize l:mH (av r)=x at*;have N:=MA (p:=az e.S r) (x:=x) h (by omega) (by omega);refine aV.dX ?_ (e6 N);show aV e r ((hS (a1 false m) (av r)).named (mH (av r)) r pd) _ _;rw[l];obtain⟨q,rfl⟩:=M;have d:q<:+x++q:=gY x q;have hl:q.length<(x++q).length:=by grind
  have O:W (az e.S (x++q)+(x.length:Int))=az e.S q:=kB h.b0 h.sfx;have j:=h.fv (x:=x) d hl;have P:(((e.fv x).st (x++q) pd).1,(W (((e.fv x).st (x++q) pd).2.1+(x.length:Int))),((e.fv x).st (x++q) pd).2.2.1,((e.fv x).st (x++q) pd).2.2.2.1,((e.fv x).st (x++q) pd).2.2.2.2.1,((e.fv x).st (x++q) pd).2.2.2.2.2)=(e.fv x).st q pd:=by show(e.S,W (az e.S (x++q)+(x.length:Int)),pd,e.ne+1,e.op++[x],e.ka)=_;rw[O];rfl
  rw[P];have i:(e.fv x).ne=30- (m:Int):=by show e.ne+1=_;omega
  have Q:hS (a1 false m) (av (x++q)) (x++q) pd=C7 (a1 false m) (av (x++q)) q pd:=by grind[Ze,List.drop_left]
  have f:∀(y:Option (bq an an))(z:Option (bq an an)),aV (e.fv x) (x++q) (C7 (a1 false m) (av (x++q)) q pd) (λ_=>(e.fv x).st) y->z=bb y (λx=>x) (λy=>aw (uo y) λy=>some (.inr y))->aV e (x++q) ((hS (a1 false m) (av (x++q))).named x (x++q) pd) (λ_=>e.st) z:=by
   rintro y _ F rfl;rw[<-Q] at F;have k:=F.named;cases hk:((hS (a1 false m) (av (x++q))).named x) (x++q) pd with
   |ok a r1 S=>rw[hk] at k;obtain⟨s,t,T⟩:=k;refine⟨s,t.out,?_⟩;rw[e6 T];exact(aP (MB (r:=r1) (pd:=S) (x:=x) h.xn (show 0<=e.ne by omega) (by omega))).trans rfl
   |more op nd ds=>rw[hk] at k;obtain⟨st,s,t⟩:=k;exact⟨st,hI s,t⟩
   |bad U=>rw[hk] at k;obtain⟨s,st,t⟩:=k;exact⟨s,st,hI t⟩
   |deep U=>trivial
  have G:(a1 false m).dl=ba false m:=xo false m;cases b:av (x++q) with
  |eof=>rw[b] at aF;cases aF
  |line=>rw[b] at aF;cases aF
  |op o=>
   rw[b] at aF f l;have v:x=[40]:=l.symm;subst v;simp only[bA,aK];refine f (bb (R.ks ((e.fv [40]).st q pd) 1 false) (λx=>x) λy=>bb (sh y.2 [41]) (λx=>(x.1,x.2.1,y.2.2.2.1,x.2.2.2.1,y.2.2.2.2.2.1,x.2.2.2.2.2)) λz=>some (.inr (z.1,z.2.1,y.2.2.2.1,z.2.2.2.1,y.2.2.2.2.2.1,z.2.2.2.2.2))) _ ?_ ?_
   ·refine aV.ls (c:= .paren) (C:=λx=>x) c4.id g i j d λa A B s2 u=>?_;exact aV.akI u (s2.trans d) λV=>rfl
   ·rw[oE];congr 1
    funext y
    rw[oE];rfl
  |word w p=>
   rw[b] at aF f l;have v:x=w:=l.symm;subst v;have D:q4 x=true:=by
    cases p with
    |true=>exact aF
    |false=>cases aF
   have X:decide (x=[40])=false:=by rw[GN];rintro rfl;exact absurd D (by decide)
   simp only[X,aR];by_cases ad:x=[123]
   ·subst ad;simp only[bA,aK];refine f (bb (R.ks ((e.fv [123]).st q pd) 2 false) (λx=>x) λy=>bb (nr y.2 [125]) (λx=>(x.1,x.2.1,y.2.2.2.1,x.2.2.2.1,y.2.2.2.2.2.1,x.2.2.2.2.2)) λz=>some (.inr (z.1,z.2.1,y.2.2.2.1,z.2.2.2.1,y.2.2.2.2.2.1,z.2.2.2.2.2))) _ ?_ ?_
    ·refine aV.ls (c:= .q5) (C:=λx=>x) c4.id g i j d λa A B s2 u=>?_;exact aV.Y2 u (s2.trans d) λV=>rfl
    ·rw[oE];congr 1
     funext y
     rw[oE];rfl
   simp only[ad,bF,aR];by_cases H:x=m_
   ·subst H;rw[show decide (m_=[105,102])=true from rfl];simp only[aK];refine f (Ez R ((e.fv m_).st q pd)) _ ((akO g i q pd j).mono d) ?_;rfl
   have Y:decide (x=[105,102])=false:=GN.2 H;rw[Y];simp only[aR];by_cases I:x=ny
   ·subst I;rw[show decide (ny=[102,111,114])=true from rfl];simp only[aK];refine f (Ex R ((e.fv ny).st q pd)) _ ?_ rfl;have:=(akV E g i q pd j).mono d;rw[<-G] at this;exact this
   have Z:decide (x=[102,111,114])=false:=GN.2 I;rw[Z];simp only[aR];by_cases J:x=pL
   ·subst J;rw[show decide (pL=[99,97,115,101])=true from rfl];simp only[aK];refine f (Eu R ((e.fv pL).st q pd)) _ ?_ rfl;have:=(ak5 E g i q pd j).mono d;rw[<-G] at this;exact this
   have VF:decide (x=[99,97,115,101])=false:=GN.2 J;rw[VF];simp only[aR];refine f (bb (R.ks ((e.fv x).st q pd) 6 false) (λx=>x) λy=>bb (ti R y.2) (λx=>x) λz=>some (.inr z)) _ ?_ ?_
   ·have:C7 (a1 false m) (.word x p)=ae (((a1 false m).ls .pM false).aM er) λ_=>iP (a1 false m) er:=by simp_all[C7,aS]
    rw[this];refine aV.ls (c:= .pM) (C:=λx=>x) c4.id g i j d λa A B s2 u=>?_;dsimp only;rw[C6];exact(SS g i _ A B u).mono (s2.trans d)
   ·rw[oE];congr 1
    funext y
    rw[oE];rfl
def v9(R:bk)(n:Nat):Prop:=∀m,m<=n->tE R m
theorem v9.at{R:bk}{n:Nat}(h:v9 R n):tE R n:=h n (cX _)
theorem v9.low{R:bk}{n:Nat}(h:v9 R n):∀m,n=m+1->tE R m/\xp R m:=λm hm=>⟨h m (by omega),(h n (cX _)).ls m hm⟩
def jz(fr:Bool):Nat->Option dU
 |0=>none
 |n+1=>some (a1 fr n)
theorem Zh(fr:Bool)(n:Nat):(a1 fr n).cp=sA (jz fr n):=by cases n<;>rfl
theorem FR(fr:Bool)(n:Nat):ba fr n=dM (jz fr n):=by cases n<;>rfl
theorem ak7{R:bk}{n:Nat}(hA:v9 R n){e:cI}(bc:e.ne=30- (n:Int)){u:aa}{pd:aq}(h:dR e (40::u) pd):
  aV e (40::u) (mf false (jz false n) (40::u) pd) (λ_=>e.st) (H9 R (e.st (40::u) pd)):=by
 have hle:=hA.at.le;cases n with
 |zero=>trivial
 |succ m=>
  cases m with
  |zero=>trivial
  |succ k=>
   show aV e (40::u) (mf false (some (a1 false (k+1))) (40::u) pd) _ _;unfold mf;dsimp only;rw[bo (show(a1 false (k+1)).has=true from rfl)];unfold H9 a_;have MT:W (e.ne+2)=e.ne+2:=dW (by omega) (by omega);have N:decide (30<W ((e.st (40::u) pd).2.2.2.1+2))=false:=by show decide (30<W (e.ne+2))=false;grind
   rw[N];simp only[aR];have O:=MA (p:=az e.S (40::u)) (x:=[102,40,41]) h (by omega) (by omega);refine aV.dX ?_ (e6 O);have hu:u<:+40::u:=ee 40 u;have q:=h.fv (x:=[102,40,41]) hu (by simp);have P:W (az e.S (40::u)+1)=az e.S u:=iR h.b0 h.sfx;have Q:(e.fv [102,40,41]).ne=30- ((k+1:Nat):Int):=by show e.ne+1=_;omega
   have S:(((e.fv [102,40,41]).st (40::u) pd).1,(W (((e.fv [102,40,41]).st (40::u) pd).2.1+1)),((e.fv [102,40,41]).st (40::u) pd).2.2.1,((e.fv [102,40,41]).st (40::u) pd).2.2.2.1,((e.fv [102,40,41]).st (40::u) pd).2.2.2.2.1,((e.fv [102,40,41]).st (40::u) pd).2.2.2.2.2)=(e.fv [102,40,41]).st u pd:=by show(e.S,W (az e.S (40::u)+1),pd,e.ne+1,e.op++[[102,40,41]],e.ka)=_;rw[P];rfl
   rw[S];generalize T:(ae (b2 1) λ_=>ae (bQ [41,32,123,32,120,10,125]) λt=>if t= .eof then b7 [41,32,123,32,120,10,125] else if t= .op [41] then
    ae (b2 1) λ_=>ae (cU.aM [123,32,120,10,125]) λ_=>ae (bQ [123,32,120,10,125]) λt=>if t= .eof then b7 [123,32,120,10,125] else
     if hG t then ae ((a1 false (k+1)).cp t) λ_=>if false=true then(a1 false (k+1)).rd else aW () else bK
    else bK:ak Unit)=B
   have U:∀K:an->Option (bq an an),(∀r1 c,K ((e.fv [102,40,41]).st r1 c)=some (.inr (e.st r1 c)))->
     ∀y,aV (e.fv [102,40,41]) (40::u) (B (40::u) pd) (λ_=>(e.fv [102,40,41]).st) y->aV e (40::u) ((B.named [102,40,41]) (40::u) pd) (λ_=>e.st) (bb y (λx=>x) K):=by
    intro K lE y V;have f:=V.named;cases hk:(B.named [102,40,41]) (40::u) pd with
    |ok a r1 c=>rw[hk] at f;obtain⟨g,l,A⟩:=f;exact⟨g,l.out,by grind[e6]⟩
    |more op nd ds=>rw[hk] at f;obtain⟨st,g,l⟩:=f;exact⟨st,hI g,l⟩
    |bad X=>rw[hk] at f;obtain⟨g,st,l⟩:=f;exact⟨g,st,hI l⟩
    |deep X=>trivial
   have D:∀r1 c,(aw (uo ((e.fv [102,40,41]).st r1 c)) λ(E:an)=>(some (.inr E):Option (bq an an)))=some (.inr (e.st r1 c)):=λr1 c=>
    (aP (MB (r:=r1) (pd:=c) (x:=[102,40,41]) h.xn (show 0<=e.ne by omega) (by omega))).trans rfl
   have F:=U (λY=>aw (uo Y) λ(E:an)=>some (.inr E)) D
    (bb (sh ((e.fv [102,40,41]).st u pd) ([41]:aa)) (λx=>(x.1,x.2.1,pd,x.2.2.2.1,e.op++[[102,40,41]],x.2.2.2.2.2)) λ(s:an)=>
     (bb (lf (s.1,s.2.1,pd,s.2.2.2.1,e.op++[[102,40,41]],s.2.2.2.2.2)) (λx=>x) λy=>
     (bb (Em y.2) (λx=>(x.1,x.2.1,y.2.2.2.1,x.2.2.2.1,y.2.2.2.2.2.1,x.2.2.2.2.2)) λz=>
     (bif(!z.1) then
     bb (kL (z.2.1,z.2.2.1,y.2.2.2.1,z.2.2.2.2.1,y.2.2.2.2.2.1,z.2.2.2.2.2.2)) (λx=>(x.1,x.2.1,y.2.2.2.1,x.2.2.2.1,y.2.2.2.2.2.1,x.2.2.2.2.2)) λy=>Empty.elim y
     else
     Ce R (z.2.1,z.2.2.1,y.2.2.2.1,z.2.2.2.2.1,y.2.2.2.2.2.1,z.2.2.2.2.2.2)))))
   have G:=F (by
    rw[<-T];show aV (e.fv [102,40,41]) (40::u) (ae (bQ [41,32,123,32,120,10,125]) _ u pd) _ _;have Z:=q;cases i:bx u with
    |none=>rw[dh (iE i)];unfold sh;exact((((rR _ _).none q i).bind λ_=> .inl rfl).bind λ_=> .inr rfl).rQ
    |some r1=>
     rw[aZ (cB i)];have s1:=dV i;have v1:=q.mono s1;have g:=lO _ _ _ (cX _) i;have d:=Mv [41] q;have he:jR [41] u pd=(if av r1= .eof then b7 [] else if(av r1==Tok.op [41])=true then b2 1 else bK:ak Unit) r1 pd:=by unfold jR na;rw[aZ (cB i)];rfl
     rw[he] at d;by_cases ad:av r1= .eof
     ·rw[bo ad] at d⊢;obtain⟨st,v,aX⟩:=d;exact⟨_,hI v,by simp;rfl⟩
     rw[aS ad] at d⊢;by_cases I:av r1= .op [41]
     ·rw[bo (by grind)] at d;rw[if_pos I];obtain⟨v,aX,gC⟩:=d;refine aV.dX ?_ (e6 gC);have aE:r1.drop 1<:+r1:=List.drop_suffix _ _;show aV (e.fv [102,40,41]) (40::u) (ae (cU.aM [123,32,120,10,125]) _ (r1.drop 1) pd) _ _;have J:r1.drop 1<:+40::u:=aE.trans (s1.trans hu);refine aV.lines (C:=λx=>x) c4.id (v1.mono aE) J λb aC dv _ s2 v2=>?_;refine aV.tst (C:=λx=>x) c4.id (YB _) v2 λL rN jy M A=>?_;dsimp only;cases aF:hG (av L) with
      |true=>
       have ax:av L≠ .eof:=by intro o;rw[o] at aF;cases aF
       rw[aS ax];simp only[cD,gW,aR,ew,cl]
       have:=Zf (R:=R) (n:=k+1) (by omega) (λm hm=>by
        have H:v9 R (k+1):=λj bY=>hA j (by omega);exact H.low m hm) Q M A aF
       rw[FI];exact this.mono (jy.trans (s2.trans J))
      |false=>simp only[e8,aK,ew,cl];exact MG (x:=[123,32,120,10,125]) M A (λo=>bo o) (λo=>aS o) λ_=> .inr rfl
     ·rw[aS (by grind)] at d;rw[if_neg I];obtain⟨n6,st,v⟩:=d;exact⟨n6,_,hI v⟩)
   refine aV.dX G ?_;rw[oE];congr 1
   funext y
   rw[oE];congr 1
   funext z
   rw[oE];congr 1
   funext w
   cases w.1 with
   |true=>rfl
   |false=>simp only[Bool.not_false,cond_true];rw[oE];grind
theorem uV{D:ak Unit}{r r':aa}{pd:aq}(b:bx r=some r')(ax:e2 (bs (r'.dropWhile cd))=false):dF D r pd= .ok false r' pd:=by
 have a:fJ r pd= .ok none r' pd:=by simp_all[fJ,aS]
 unfold dF;rw[aZ a];rfl
theorem Zi{D:ak Unit}{r r':aa}{pd:aq}(d:bx r=some r')(ax:e2 (bs (r'.dropWhile cd))=true){b:Bool}{r1:aa}{a:aq}(h:dF D r pd= .ok b r1 a):b=true:=by
 have c:fJ r pd= .ok (some (bs (r'.dropWhile cd))) ((r'.dropWhile cd).drop (bs (r'.dropWhile cd)).length) pd:=by simp_all[fJ,bo]
 unfold dF at h;rw[aZ c] at h;obtain⟨_,_,_,_,h⟩:=b3 h;cases h;rfl
theorem alb{b:UInt8}{t:aa}(h:bs (b::t)≠[]):cd b=false:=by
 cases a:cd b with
 |false=>rfl
 |true=>simp_all[absurd,oB,AX]
theorem Zj{R:bk}{n:Nat}(hA:v9 R n){e:cI}(bc:e.ne=30- (n:Int)):qy e (gm false (jz false n) (ba false n)) (λ_=>e.st) (Ap R):=by
 intro r pd h;unfold gm Ap;have a:=hA.at;refine aV.tst (C:=λx=>x) c4.id (YB e) h λr1 qq s1 c d=>?_;dsimp only;by_cases aF:hG (av r1)=true
 ·have ax:av r1≠ .eof:=by intro g;rw[g] at aF;cases aF
  rw[aS ax,bo aF,aF];simp only[aK];have J:=Zf (R:=R) (n:=n) a.le (λm hm=>hA.low m hm) bc c d aF;rw[Zh] at J;refine aV.iF (C:=λx=>x) c4.id (J.mono s1) (λ_=>rfl) λ_ l q _ s2 i=>?_;rw[C6];exact(Y0 a bc l q i).mono s2
 have E:hG (av r1)=false:=by grind
 rw[E];simp only[aR,ew,cl];refine aV.dX ?_ (e6 ((k3 e).some c d));dsimp only;unfold a_;have F:∀(m:ak Unit)(z:Bool)(K:an->Option (bq an an)),e2 (bs (r1.dropWhile cd))=false->(av r1= .eof->m=b7 [120])->(av r1≠ .eof->m=bK)->z=false->aV e r (m r1 pd) (λ_=>e.st)
   (bif z then bb (kL ((e.st r1 pd).1,(e.st r1 pd).2.1,(e.st r pd).2.2.1,(e.st r1 pd).2.2.2.1,(e.st r pd).2.2.2.2.1,(e.st r1 pd).2.2.2.2.2)) (λx=>(x.1,x.2.1,(e.st r pd).2.2.1,x.2.2.2.1,(e.st r pd).2.2.2.2.1,x.2.2.2.2.2)) λy=>Empty.elim y
    else bb (yB R ((e.st r1 pd).1,(e.st r1 pd).2.1,(e.st r pd).2.2.1,(e.st r1 pd).2.2.2.1,(e.st r pd).2.2.2.2.1,(e.st r1 pd).2.2.2.2.2)) (λx=>x) λw=>bif w.1 then bb (Ao R w.2) (λx=>x) (λO=>some (.inr O)) else
     bb (kL w.2) (λx=>(x.1,x.2.1,w.2.2.2.1,x.2.2.2.1,w.2.2.2.2.2.1,x.2.2.2.2.2)) λy=>Empty.elim y):=by
  rintro m _ K v P Q rfl;simp only[aR];have j:=Jc a bc r1 pd c;rw[uV d v] at j;refine aV.dX ?_ (e6 j.2.2);simp only[aR];exact MG (x:=[120]) c d P Q λ_=> .inr rfl
 have S:e2 []=false:=by decide
 cases f:av r1 with
 |eof=>
  have mN:r1=[]:=by
   cases r1 with
   |nil=>rfl
   |cons b t=>exfalso;have uS:(if b=10 then Tok.line else if bs (b::t)≠[] then .op (bs (b::t)) else .word (c8 (b::t)).1 (c8 (b::t)).2)=Tok.eof:=f;grind
  simp only[jo,cT,show¬((0:Int)=3) by decide,bF,aR,cD,ew,cl,e8,aK];have:=F (b7 [120]) false (λ_=>none) (by simp_all[bs,lq,xS,List.isPrefixOf]) (λ_=>rfl) (λg=>absurd f g) rfl;exact this
 |line=>obtain⟨t,rfl⟩:=vY f;simp only[jo,cT,show¬((1:Int)=3) by decide,bF,aR,cD,ew,cl,e8,aK,reduceCtorEq];have ej:bs (10::t)=[]:=oB (by decide);have:=F bK false (λ_=>none) (by rfl) (λg=>by grind) (λ_=>rfl) rfl;exact this
 |op o=>
  simp only[jo,cT,show¬((2:Int)=3) by decide,bF,aR,cD,ew,cl,e8,aK,reduceCtorEq];have T:=(iq f).1;have C3:r1.dropWhile cd=r1:=by
   cases r1 with
   |nil=>rfl
   |cons b t=>exact JW (by rw[alb (b:=b) (t:=t) (by rw[<-T];exact(iq f).2.2.2)];simp)
  by_cases v:e2 o=true
  ·rw[bo v];have j:=Jc a bc r1 pd c;refine aV.iF (C:=λx=>x) c4.id (j.mono s1) (λ_=>rfl) λb l q A s2 i=>?_;have s:=Zi d (by grind) A;subst s;simp only[aK];rw[C6];exact(MO a bc l q i).mono s2
  ·rw[aS v];have:=F bK false (λ_=>none) (by grind) (λg=>by grind) (λ_=>rfl) rfl;exact this
 |word w p=>
  simp only[jo,bA,aK,reduceCtorEq,cl,gW,aR];rw[akj,fY];have U:(bif p then(if p=true then rK w else false) else false)=(p&&rK w):=by simp
  rw[U];cases MU:(p&&rK w) with
  |true=>simp only[aK,cD];exact MG (x:=[]) c d (λg=>by grind) (λ_=>rfl) λ_=> .inr rfl
  |false=>
   simp only[aR,ew,cl];have j:=Jc a bc r1 pd c;refine aV.iF (C:=λx=>x) c4.id (j.mono s1) (λ_=>rfl) λb l q A s2 i=>?_;cases b with
   |true=>simp only[aK,cD];rw[C6];exact(MO a bc l q i).mono s2
   |false=>
    simp only[aR,ew,cl];have V:e2 (bs (r1.dropWhile cd))=false:=by grind[e2,bs,cd,Zi]
    rw[uV d V] at A;cases A;refine aV.iF (C:=λx=>x) c4.id ((MF a bc i d f).mono s2) (λ_=>rfl) λ_ G B _ H L=>?_;have W:aV e r (hH false (ba false n) G B) (λ_=>e.st) (bb (Ao R (e.st G B)) (λx=>x) λX=>some (.inr X)):=by rw[C6];exact(MO a bc G B L).mono H
    have Y:Ah w=some (me w)\/p=false:=by
     cases p with
     |false=>simp
     |true=>left;have:=(qu f).1.length_le;have:=eO c.sfx;have:=h.b0;grind[y7]
    have Z:∀(k:Bool->Option (bq an an)),cT (p=true) (Ah w) false k=k (p&&me w):=by
     intro k;rcases Y with ad|rfl
     ·grind[fY]
     rfl
    refine aV.dX ?_ (Z _);cases A1:(p&&me w) with
    |false=>simp_all[aV.dX,Yw,aR,ew,cl]
    |true=>
     have aB:p=true:=by grind
     subst aB;refine aV.dX ?_ (y2 rfl);simp only[cD];refine aV.tst (C:=λx=>x) c4.id (rR e [40]) L λD AZ M N i4=>?_;dsimp only[cond_true];by_cases I:av D= .op [40]
     ·have s:((av D==Tok.op [40]):Bool)=true:=by grind
      rw[bo I,s];simp only[aK];obtain⟨u,rfl⟩:=(iq I).2.1;refine aV.iF (C:=λx=>x) c4.id ((ak7 hA bc N).mono (M.trans H)) (λ_=>rfl) λ_ eL lu _ nE mw=>?_;rw[C6];exact(Y0 a bc eL lu mw).mono nE
     ·have s:((av D==Tok.op [40]):Bool)=false:=by grind
      rw[aS I,s];simp only[aR];rw[C6];exact(MO a bc D B N).mono (M.trans H)
theorem SW{e:cI}{r o:aa}{pd:aq}(v:dR e r pd)(b:av r= .op o):r.drop o.length<:+r/\(r.drop o.length).length<r.length/\dR e (r.drop o.length) pd/\W (az e.S r+(o.length:Int))=az e.S (r.drop o.length):=by obtain⟨_,⟨q,rfl⟩,_,bc⟩:=iq b;have hl:0<o.length:=N0.2 bc;rw[pf];have a:q<:+o++q:=gY o q;exact⟨a,by grind,v.mono a,kB v.b0 v.sfx⟩
def rf(fr:Bool)(n:Nat):ak Unit:=gm fr (jz fr n) (ba fr n)
theorem Zk(fr:Bool)(n:Nat):ar (rf fr n):=by
 unfold rf;refine ar.command (λl hl=>?_) (mi fr n);cases n with
 |zero=>cases hl
 |succ m=>cases hl;simp[pQ]
theorem Zl(fr:Bool)(n:Nat):ar (fu (rf fr n)):=ar.pipe (Zk fr n)
section
variable{R:bk}{n:Nat}(hA:v9 R n){e:cI}(bc:e.ne=30- (n:Int))
include hA bc
theorem Zm:qy e (fu (rf false n)) (λ_=>e.st) (Ck R):=by
 intro r pd h;unfold fu Ck a_;refine aV.tst (C:=λx=>x) c4.id (rb e [33]) h λr1 X s1 d Y=>?_;dsimp only;have u:∀c,c<:+r->dR e c pd->aV e r (ae (rf false n) (λ_=>cb (λ_=>ae (bQ []) λt=>if t= .op [124] then ae (b2 1) λ_=>ae (cU.aM [120]) λ_=>ae (rf false n) λ_=>aW (.inl ()) else aW (.inr ())) ()) c pd) (λ_=>e.st)
   (bb (Ap R (e.st c pd)) (λx=>x) λ(E:an)=>fixF (Lo R λy=>some (.inr y)) bC E):=by
  intro c s2 F;refine aV.iF (C:=λx=>x) c4.id ((Zj hA bc c pd F).mono s2) (λ_=>rfl) λ_ G H _ I f=>?_;refine aV.mono ?_ I;refine aV.rep (en:=λ_ r pd=>e.st r pd) (λk s g v J hk=>?_) bC () G H (lz (lQ (eO f.sfx) f.b0)) f;unfold Lo;refine aV.tst c4.k (rR e [124]) J λa Z i z i5=>?_;dsimp only;by_cases j:av a= .op [124]
  ·have l:((av a==Tok.op [124]):Bool)=true:=by grind
   rw[bo j,l];simp only[aK];obtain⟨m,K,A,B⟩:=SW z j;show aV e g (cO _ g (ae (cU.aM [120]) _ (a.drop 1) v)) _ (bb (lf (e.S,W (az e.S a+1),v,e.ne,e.op,e.ka)) _ _);rw[show([124]:aa).length=1 from rfl] at m K A B;have L:W (az e.S a+1)=az e.S (a.drop 1):=B;rw[L];refine aV.lines c4.k A (m.trans i) λb M N _ O P=>?_;have Q:=O.trans (m.trans i);refine aV.iF c4.k ((Zj hA bc M N P).mono Q) (λ_=>rfl) λ_ S q8 T FP Je=>?_;have U:S.length<g.length:=by have cV:=((Zk false n).sfx T).length_le;grind
   grind[aV.inl]
  ·have l:((av a==Tok.op [124]):Bool)=false:=by grind
   rw[aS j,l];exact aV.inr i z rfl
 by_cases o:cG (av r1) [33]=true
 ·rw[bo o,o];simp only[aK];have p:av r1= .word [33] true:=by grind[cG]
  obtain⟨q,rfl⟩:=(qu p).1;have D:q<:+[33]++q:=gY [33] q;have V:W (az e.S ([33]++q)+1)=az e.S q:=kB (w:=[33]) d.b0 d.sfx;have:=u q (D.trans s1) (d.mono D);show aV e r (ae (rf false n) _ q pd) _ (bb (Ap R (e.S,W (az e.S ([33]++q)+1),pd,e.ne,e.op,e.ka)) _ _);rw[V];exact this
 ·have p:cG (av r1) [33]=false:=by grind
  rw[aS o,p];exact u r1 s1 d
theorem SY:qy e (hs (fu (rf false n))) (λ_=>e.st) (Aq R):=by
 intro r pd h;unfold hs Aq a_;refine aV.iF (C:=λx=>x) c4.id (Zm hA bc r pd h) (λ_=>rfl) λ_ z A _ B f=>?_;refine aV.mono ?_ B;refine aV.rep (en:=λ_ r pd=>e.st r pd) (λk s c g D hk=>?_) bC () z A (lz (lQ (eO f.sfx) f.b0)) f;unfold QN;refine aV.tst c4.k (rR e [38,38]) D λa S i j E=>?_;dsimp only;have q:∀o:aa,o.length=2->av a= .op o->aV e c (cO (λ_=>ae (bQ []) λt=>if t= .op [38,38]\/t= .op [124,124] then ae (b2 2) λ_=>ae (cU.aM [120]) λ_=>ae (fu (rf false n)) λ_=>aW (.inl ()) else aW (.inr ())) c (ae (b2 2) (λ_=>ae (cU.aM [120]) λ_=>ae (fu (rf false n)) λ_=>aW (.inl ())) a g)) (λ_=>e.st)
   (bb (lf (e.S,W (az e.S a+2),g,e.ne,e.op,e.ka)) (λx=>x) λy=>bb (Ck R y.2) (λx=>x) λF=>k F):=by
  intro o G d;obtain⟨l,H,u,v⟩:=SW j d;rw[G] at l H u v;have I:W (az e.S a+2)=az e.S (a.drop 2):=v;rw[I];show aV e c (cO _ c (ae (cU.aM [120]) _ (a.drop 2) g)) _ _;refine aV.lines c4.k u (l.trans i) λb J K _ L M=>?_;have N:=L.trans (l.trans i);refine aV.iF c4.k ((Zm hA bc J K M).mono N) (λ_=>rfl) λ_ O T P U V=>?_;have Q:O.length<c.length:=by have X:=((Zl false n).sfx P).length_le;grind
  grind[aV.inl]
 by_cases d:av a= .op [38,38]
 ·have m:((av a==Tok.op [38,38]):Bool)=true:=by grind
  rw[bo (.inl d),m];simp only[nk,tU,cl,aK];exact q _ rfl d
 ·have m:((av a==Tok.op [38,38]):Bool)=false:=by grind
  rw[m];refine aV.dX ?_ ((y2 rfl).trans (e6 ((rR e [124,124]).some j E)));dsimp only;by_cases w:av a= .op [124,124]
  ·have p:((av a==Tok.op [124,124]):Bool)=true:=by grind
   rw[bo (.inr w),p];simp only[aK,aR];exact q _ rfl w
  ·have p:((av a==Tok.op [124,124]):Bool)=false:=by grind
   rw[aS (by grind),p];simp only[cond_false];exact aV.inr i j rfl
end
def mP(fr:Bool)(n:Nat):ak Unit:=hs (fu (rf fr n))
theorem ale(fr:Bool)(n:Nat):ar (mP fr n):=ar.pP (Zl fr n)
theorem Zn(fr:Bool)(n:Nat)(c:Ctx)(no:Bool):(a1 fr n).ls c no=oz (mP fr n) c no:=by cases n<;>rfl
theorem Zo{c:Ctx}:dT c .eof=decide (c= .text):=by cases c<;>simp[dT,cG]
theorem alf{r:aa}{pd:aq}{b:Bool}{r':aa}{a:aq}(c:bx r=some r)(h:cU r pd= .ok b r' a):(av r= .line->b=true/\r'.length<r.length)/\(av r≠ .line->b=false/\r'=r/\a=pd):=by
 constructor
 ·intro d;obtain⟨t,rfl⟩:=vY d;refine⟨?_,XT h⟩;rw[sE,cH,uP c] at h;unfold cO at h;cases hm:ae jj (λ_=>(aW (.inl true):ak (Bool⊕Bool))) (10::t) pd with
  |ok x r1 g=>
   have f:x=(Sum.inl true:Bool⊕Bool):=by obtain⟨_,_,_,_,e⟩:=b3 hm;cases e;rfl
   subst f;rw[hm] at h;simp only at h;split at h
   ·have:∀(N:Nat)(r:aa)(pd:aq)(b:Bool)(r':aa)(a:aq),r.length<=N->cb h9 true r pd= .ok b r' a->b=true:=by
     intro N;induction N with
     |zero=>intro r pd b r' a i h;have:r=[]:=nH.1 (by omega);subst this;rw[cH,rM (r1:=[]) (by rw[mg]) (by decide)] at h;cases h;rfl
     |succ N k=>
      intro r pd b r' a i h;rw[cH] at h;cases c:bx r with
      |none=>have:h9 true r pd= .more [] (cP [] pd []).1 (cP [] pd []).2:=dh (iE c);rw[this] at h;cases h
      |some j=>
       by_cases d:av j= .line
       ·obtain⟨t,rfl⟩:=vY d;rw[uP c] at h;unfold cO at h;cases hm:ae jj (λ_=>(aW (.inl true):ak (Bool⊕Bool))) (10::t) pd with
        |ok x r1 g=>
         have f:x=(Sum.inl true:Bool⊕Bool):=by obtain⟨_,_,_,_,e⟩:=b3 hm;cases e;rfl
         grind
        |more _ _ _=>grind
        |bad _=>grind
        |deep _=>grind
       ·rw[rM c d] at h;cases h;rfl
    exact this _ _ _ _ _ _ (cX _) h
   grind
  |more _ _ _=>grind
  |bad _=>grind
  |deep _=>grind
 ·intro d;rw[MQ c d] at h;cases h;exact⟨rfl,rfl,rfl⟩
theorem Zp(fr:Bool)(n:Nat){r r':aa}{pd:aq}(a:bx r=some r'):mP fr n r pd=mP fr n r' pd:=by have b:=lO _ _ _ (cX _) a;unfold mP hs fu;rw[kA];rw[aZ (cB a),aZ (cB b)]
theorem Zq(fr:Bool)(n:Nat){r:aa}{pd:aq}(a:bx r=none):∃nd ds,mP fr n r pd= .more [] nd ds:=by unfold mP hs fu;rw[kA];exact⟨_,_,dh (iE a)⟩
theorem Zr(fr:Bool)(n:Nat)(pd:aq):∃nd ds,mP fr n [] pd= .more [] nd ds:=by
 have a:bx []=some []:=mg;unfold mP hs fu;rw[kA,aZ (cB a),kA];have ad:cG (av []) [33]=false:=rfl;rw[ad];simp only[ew,cl];show∃nd ds,ae (ae (rf fr n) _) _ [] pd=_
 have b:∃nd ds,rf fr n [] pd= .more [] nd ds:=by unfold rf gm;rw[aZ (cB a)];exact⟨_,_,rfl⟩
 grind[dh]
theorem Zs{R:bk}{n:Nat}(hA:v9 R n){e:cI}(bc:e.ne=30- (n:Int))(c:Ctx)(no:Bool)(FL:c≠ .text\/no=true):qy e (oz (mP false n) c no) (λa r pd=>((a:Int),e.st r pd)) (λx=>EG R x (C0 c) no):=by
 intro r pd h;rw[uO];unfold EG;refine aV.lines (C:=λx=>x) c4.id h fQ λb r1 aH _ s1 q=>?_;dsimp only;refine aV.mono ?_ s1
 have O:∀(N:Nat)(k:Nat)(r pd),r.length<N->k+r.length<=2000000->dR e r pd->aV e r (cb (eh (mP false n) c no) k r pd) (λa r pd=>((a:Int),e.st r pd)) (fixF (Ia R (C0 c) no) N ((k:Int),e.st r pd)):=by
  intro N;induction N with
  |zero=>omega
  |succ N P=>
   intro k r pd n1 hk h;rw[e5,cH];generalize fixF (Ia R (C0 c) no) N=K at P;unfold Ia a_;have hW:k<2000000->W ((k:Int)+1)=((k+1:Nat):Int):=by grind[dW]
   have Q:∀g,r≠[]->g<:+r->dR e g pd->aV e r (cO (eh (mP false n) c no) r (ae (mP false n) (λ_=>ae (bQ []) (hX c k)) g pd)) (λa r pd=>((a:Int),e.st r pd))
     (bb (Aq R (e.st g pd)) (λx=>x) λ(i:an)=>(bb (nq i ([59]:aa)) (λx=>(x.1,x.2.1,i.2.2.1,x.2.2.2.1,i.2.2.2.2.1,x.2.2.2.2.2)) λ(sr,v)=>(nk (sr=false) (nq (v.1,v.2.1,i.2.2.1,v.2.2.2.1,i.2.2.2.2.1,v.2.2.2.2.2) ([38]:aa)) (λx=>(x.1,x.2.1,i.2.2.1,x.2.2.2.1,i.2.2.2.2.1,x.2.2.2.2.2)) (false,(v.1,v.2.1,i.2.2.1,v.2.2.2.1,i.2.2.2.2.1,v.2.2.2.2.2)) λ(ki,z)=>(bif(bif sr then true else ki) then(bb (lf (z.1,(W (z.2.1+1)),i.2.2.1,z.2.2.2.1,i.2.2.2.2.1,z.2.2.2.2.2)) (λx=>x) λ(iJ,A)=>K ((W ((k:Int)+1)),A.1,A.2.1,A.2.2.1,A.2.2.2.1,A.2.2.2.2.1,A.2.2.2.2.2)) else(bb (lf (z.1,z.2.1,i.2.2.1,z.2.2.2.1,i.2.2.2.2.1,z.2.2.2.2.2)) (λx=>x) λ(oY,d)=>(bif oY then K ((W ((k:Int)+1)),d.1,d.2.1,d.2.2.1,d.2.2.2.1,d.2.2.2.2.1,d.2.2.2.2.2) else(bb (l9 d) (λx=>(x.1,x.2.1,d.2.2.1,x.2.2.2.1,d.2.2.2.2.1,x.2.2.2.2.2)) λ(m7,B)=>(nk ((decide (m7.1=3))=false) (El (B.1,B.2.1,d.2.2.1,B.2.2.2.1,d.2.2.2.2.1,B.2.2.2.2.2) (C0 c)) (λx=>(x.1,x.2.1,d.2.2.1,x.2.2.2.1,d.2.2.2.2.1,x.2.2.2.2.2)) (false,(B.1,B.2.1,d.2.2.1,B.2.2.2.1,d.2.2.2.2.1,B.2.2.2.2.2)) λ(g3,D)=>(bif(bif(decide (m7.1=3)) then true else(!g3)) then bb (kL (D.1,D.2.1,d.2.2.1,D.2.2.2.1,d.2.2.2.2.1,D.2.2.2.2.2)) (λx=>(x.1,x.2.1,d.2.2.1,x.2.2.2.1,d.2.2.2.2.1,x.2.2.2.2.2)) λy=>Empty.elim y else some (.inr ((W ((k:Int)+1)),(D.1,D.2.1,d.2.2.1,D.2.2.2.1,d.2.2.2.2.1,D.2.2.2.2.2)))))))))))):=by
    intro g mN s2 S;refine aV.iF c4.k ((SY hA bc g pd S).mono s2) (λ_=>rfl) λ_ cw s MR jy eY=>?_;have Ft:=((ale false n).sfx MR).length_le;dsimp only;refine aV.tst c4.k (rR e [59]) eY λf AZ pS j t=>?_;dsimp only;have G:=pS.trans jy;have T:av f≠ .eof->k<2000000:=by
     intro I;have:f≠[]:=by rintro rfl;exact I rfl
     grind[List.length_pos_iff]
    have Zt:∀o:aa,o.length=1->(o=[59]\/o=[38])->av f= .op o->aV e r (cO (eh (mP false n) c no) r (hX c k (.op o) f s)) (λa r pd=>((a:Int),e.st r pd))
      (bb (lf (e.S,W (az e.S f+1),s,e.ne,e.op,e.ka)) (λx=>x) λ(iJ,A)=>K ((W ((k:Int)+1)),A)):=by
     intro o U V E;obtain⟨X,cr,eK,cf⟩:=SW j E;rw[U] at X cr eK cf;have Ji:W (az e.S f+1)=az e.S (f.drop 1):=cf;rw[Ji];unfold hX;dsimp only;rw[bo V];show aV e r (cO _ r (ae cU _ (f.drop 1) s)) _ _;refine aV.AY c4.k eK (X.trans G) λb J Y _ Z mw=>?_;have A2:J.length<r.length:=by grind
     rw[hW (T (by grind))];exact aV.inl A2 ((P (k+1) J Y (by omega) (by omega) mw).mono (Z.trans (X.trans G)))
    by_cases k5:av f= .op [59]
    ·have hb:((av f==Tok.op [59]):Bool)=true:=by grind
     rw[hb,k5];simp only[nk,tU,cl,aK];exact Zt [59] rfl (.inl rfl) k5
    have hb:((av f==Tok.op [59]):Bool)=false:=by grind
    rw[hb];refine aV.dX ?_ ((y2 rfl).trans (e6 ((rR e [38]).some j t)));dsimp only;by_cases Zu:av f= .op [38]
    ·have oN:((av f==Tok.op [38]):Bool)=true:=by grind
     rw[oN,Zu];simp only[aK,aR];exact Zt [38] rfl (.inr rfl) Zu
    have oN:((av f==Tok.op [38]):Bool)=false:=by grind
    rw[oN];simp only[aR];by_cases hl:av f= .line
    ·rw[hl];unfold hX;dsimp only;refine aV.AY c4.k j G λb J Y alj Z mw=>?_;obtain⟨alk,A2⟩:=(alf t alj).1 hl;subst alk;simp only[aK];have alm:J.length<r.length:=by grind
     rw[hW (T (by grind))];exact aV.inl alm ((P (k+1) J Y (by omega) (by omega) mw).mono (Z.trans G))
    have zR:=MQ (pd:=s) t hl;have MM:=YA j;rw[zR] at MM;refine aV.dX ?_ (e6 MM.2.2);dsimp only;simp only[aR];refine aV.dX ?_ (e6 ((k3 e).some j t));dsimp only
    have Zv:∀(m:ak (Nat⊕Nat)),av f≠ .eof->m=bK->aV e r (cO (eh (mP false n) c no) r (m f s)) (λa r pd=>((a:Int),e.st r pd)) (bb (kL (e.st f s)) (λx=>(x.1,x.2.1,s,x.2.2.2.1,e.op,x.2.2.2.2.2)) λy=>(Empty.elim y:Option (bq an (Int×an)))):=by rintro m I rfl;exact⟨j.sfx,_,hI ((tB j t).2 I)⟩
    cases E:av f with
    |line=>grind
    |word w p=>simp only[jo,bA,nk,tU,cl,aK];exact Zv bK (by grind) rfl
    |op o=>
     have l:(decide ((jo (Tok.op o)).1=3))=false:=rfl;refine aV.dX ?_ ((y2 l).trans (e6 ((Sr e c).some j t)));dsimp only;rw[l,E];simp only[aR];have U:¬(o=[59]\/o=[38]):=by grind
     unfold hX;dsimp only;rw[aS U];cases y5:dT c (.op o) with
     |true=>simp only[gW,aR,cD];rw[hW (T (by grind))];exact aV.inr G j rfl
     |false=>simp only[Bool.not_false,cond_true,Bool.false_eq_true,if_false];exact Zv bK (by grind) rfl
    |eof=>
     have uQ:f=[]:=by
      cases f with
      |nil=>rfl
      |cons b u=>exfalso;have uS:(if b=10 then Tok.line else if bs (b::u)≠[] then .op (bs (b::u)) else .word (c8 (b::u)).1 (c8 (b::u)).2)=Tok.eof:=E;grind
     subst uQ;have l:(decide ((jo Tok.eof).1=3))=false:=rfl;refine aV.dX ?_ ((y2 l).trans (e6 ((Sr e c).some j t)));dsimp only;rw[l,E,Zo];simp only[aR];have mO:k<2000000:=by grind[List.length_pos_iff]
     have oe:cO (eh (mP false n) c no) r (hX c k .eof [] s)=cO (eh (mP false n) c no) [] ((if c= .text then aW (.inr (k+1)) else b7 (if no||k+1>0 then [] else [120]):ak (Nat⊕Nat)) [] s):=by show(if([]:aa).length<r.length then _ else _)=_;rw[bo (by grind),cH];congr 1;unfold eh;rw[aZ (cB t),E,if_pos rfl]
     rw[oe];by_cases aF:c= .text
     ·rw[if_pos aF];simp only[aF,decide_true,Bool.not_true,cond_false];rw[hW mO];exact⟨G,j,rfl⟩
     ·rw[if_neg aF];simp only[aF,decide_false,Bool.not_false,cond_true];exact(((tB j t).1 E).bind λ_=> .inr rfl).rQ
   unfold eh;have Sq:(0<(k:Int))↔k>0:=by omega
   have bf:(bif no then true else decide (0<(k:Int)))=(no||decide (k>0)):=by simp
   have mv:=Q;dsimp only;have arJ:bx r=none->aV e r (cO (eh (mP false n) c no) r (ae (mP false n) (λ_=>ae (bQ []) (hX c k)) r pd)) (λa r pd=>((a:Int),e.st r pd)) (bb (Aq R (e.st r pd)) (λx=>x) λ_=>none):=by intro F;obtain⟨nd,ds,ad⟩:=Zq false n (pd:=pd) F;have L:=SY hA bc r pd h;have C8:hs (fu (rf false n)) r pd= .more [] nd ds:=ad;rw[C8] at L;rw[dh ad];obtain⟨st,bD,aX⟩:=L;exact⟨st,hI bD,aX⟩
   have SZ:∀(g:aa)(H:aq)(Zw:an->Option (bq an (Int×an)))(x:dw (Nat⊕Nat)),dR e g H->(∃nd ds,mP false n g H= .more [] nd ds)->(∃nd ds,x= .more [] nd ds)->aV e r (cO (eh (mP false n) c no) r x) (λa r pd=>((a:Int),e.st r pd)) (bb (Aq R (e.st g H)) (λx=>x) Zw):=by rintro g H Zw x S ⟨nd,ds,ad⟩ ⟨arK,arL,rfl⟩;have L:=SY hA bc g H S;have C8:hs (fu (rf false n)) g H= .more [] nd ds:=ad;rw[C8] at L;obtain⟨st,bD,aX⟩:=L;exact⟨st,hI bD,aX⟩
   have pT:∀{g:aa},g<:+r->av g≠ .eof->r≠[]:=by rintro g s2 I rfl;have:g=[]:=List.suffix_nil.1 s2;subst this;exact I rfl
   cases arM:(no||decide (k>0)) with
   |true=>
    have M:(bif no then true else decide (0<(k:Int)))=true:=by grind
    refine aV.dX ?_ (y2 M);refine aV.tst c4.k (Sr e c) h λr1 qq s1 q i1=>?_;dsimp only;rw[M];simp only[aK,JU];by_cases hf:av r1= .eof
    ·rw[bo hf,hf,Zo];by_cases aF:c= .text
     ·rw[bo aF];simp only[aF,bA,aK];exact aV.inr s1 q rfl
     ·rw[aS aF];simp only[aF,bF,aR];have kN:r1=[]:=by
       cases r1 with
       |nil=>rfl
       |cons b u=>exfalso;have uS:(if b=10 then Tok.line else if bs (b::u)≠[] then .op (bs (b::u)) else .word (c8 (b::u)).1 (c8 (b::u)).2)=Tok.eof:=hf;grind
      subst kN;exact SZ [] pd _ _ q (Zr false n pd) ⟨_,_,rfl⟩
    ·rw[aS hf];cases y5:dT c (av r1) with
     |true=>simp only[aK,cD];exact aV.inr s1 q rfl
     |false=>simp only[aR,ew,cl];exact mv r1 (pT s1 hf) s1 q
   |false=>
    have M:(bif no then true else decide (0<(k:Int)))=false:=by grind
    refine aV.dX ?_ (Yw (by grind));dsimp only;rw[M];simp only[aR,Bool.false_and,ew,cl];cases F:bx r with
    |none=>rw[dh (nd:=(cP [] pd [120]).1) (ds:=(cP [] pd [120]).2) (op:=[]) (by rw[iE F];rfl)];exact SZ r pd _ _ h (Zq false n F) ⟨_,_,rfl⟩
    |some r1=>
     rw[aZ (cB F)];have s1:=dV F;by_cases hf:av r1= .eof
     ·rw[bo hf];have kN:r1=[]:=by
       cases r1 with
       |nil=>rfl
       |cons b u=>exfalso;have uS:(if b=10 then Tok.line else if bs (b::u)≠[] then .op (bs (b::u)) else .word (c8 (b::u)).1 (c8 (b::u)).2)=Tok.eof:=hf;grind
      subst kN
      have e7:∃nd ds,mP false n r pd= .more [] nd ds:=by rw[Zp false n F];simp[Zr]
      by_cases aF:c= .text
      ·grind
      ·rw[aS aF];exact SZ r pd _ _ h e7 ⟨_,_,rfl⟩
     ·rw[aS hf];have:=mv r (pT s1 hf) fQ h;have a4:ae (mP false n) (λ_=>ae (bQ []) (hX c k)) r1 pd=ae (mP false n) (λ_=>ae (bQ []) (hX c k)) r pd:=by grind[Zp,ae]
      rw[a4];exact this
 exact O bC 0 r1 aH (lz (lQ (eO q.sfx) q.b0)) (by have:=eO q.sfx;have:=q.b0;omega) q
theorem aln{k n:Nat}(hA:v9 (kM k) n):xp (kM (k+1)) n:=⟨λe c no aF bc=>by have:=Zs hA bc c no (.inl aF);intro r pd h;rw[Zn];exact this r pd h⟩
theorem jf:∀(k n:Nat),n<=30->(2*n+1<=k->C1 (kM k) n)/\(2*n+2<=k->MC (kM k) n/\xp (kM k) n):=by
 intro k;induction k with
 |zero=>omega
 |succ k b=>
  have a:∀n,n<=30->2*n<=k->Below (kM k) n:=λn ax h=>
   ⟨ax,λm hm=>((b m (by omega)).2 (by omega)).1,λm hm=>((b m (by omega)).2 (by omega)).2⟩
  intro n ax;refine⟨λh=>akt (a n ax (by omega)),λh=>⟨aku (a n ax (by omega)) ((b n ax).1 (by omega)),aln λm hm=>?_⟩⟩;exact {toBelow:=a m (by omega) (by omega),u0:=(b m (by omega)).1 (by omega)}
theorem alo{S:aa}(di:S.length<=1000000):aV ⟨S,0,[],0⟩ S (hT false 30 S) (λa r pd=>((a:Int),(⟨S,0,[],0⟩:cI).st r pd)) (sy.ks (S,0,[],0,[],0) 0 true):=by
 have b:dR ⟨S,0,[],0⟩ S []:=⟨di,fQ,by simp,by simp⟩
 have hk:∃k,bC=k+1/\62<=k:=by
  refine⟨bC-1,?_,?_⟩
  ·rw[gi]
  simp[gi]
 obtain⟨k,hk,c⟩:=hk;have hA:v9 (kM k) 30:=by intro m hm;exact {le:=by omega,u1:=λj d=>((jf k j (by omega)).2 (by omega)).1,ls:=λj d=>((jf k j (by omega)).2 (by omega)).2,u0:=(jf k m hm).1 (by omega)}
 have:=Zs hA (e:=⟨S,0,[],0⟩) (show(0:Int)=30- ((30:Nat):Int) by decide) .text true (.inr rfl) S [] b;unfold hT;rw[Zn];have f:(⟨S,0,[],0⟩:cI).st S []=(S,0,[],0,[],0):=by show(S,az S S,([]:aq),(0:Int),([]:bt),(0:Int))=_;rw[I1]
 rw[f] at this;have g:sy.ks (S,0,[],0,[],0) 0 true=EG (kM k) (S,0,[],0,[],0) 0 true:=by unfold sy;rw[hk];rfl
 rw[g];exact this
def dz(s:aa):aa:=if s.getLast?=some 10 then s else s++[10]
theorem alq(s:aa)(d:s.length<=1000000):IL s [10]=some (decide (s.getLast?=some 10)):=by
 unfold IL;rcases List.eq_nil_or_concat s with rfl|⟨t,b,rfl⟩
 ·decide
 ·rw[List.concat_eq_append] at*;have hl:(t++[b]).length=t.length+1:=by simp
  have a:W (((t++[b]).length:Int)- (([10]:aa).length:Int))=(t.length:Int):=by grind[dW,List.length_singleton]
  simp only[a];have c:b_ (t++[b]) (t.length:Int) ((t++[b]).length:Int)=[b]:=by simp[b_]
  rw[c,b9 (by omega)];have ad:(([10]:aa).length:Int)<=((t++[b]).length:Int):=by grind
  simp_all
theorem alr(s:aa)(a:s.length<=1000000):(((s.length+([10]:aa).length:Nat):Int)<=9223372036854775807):=by grind
theorem Zx(s:aa)(a:s.length<=1000000):a9 (((s.length+([10]:aa).length:Nat):Int)<=9223372036854775807) (some (s++[10]))=some (s++[10]):=by exact bo (alr s a)
theorem als(s:aa)(a:s.length<=1000000)(b:Bool):(aw (aw (some b) λ(c:Bool)=>some c) λ(d:Bool)=>
 (bif d then
 some s
 else
 (a9 (((s.length+([10]:aa).length:Nat):Int)<=9223372036854775807)<|
 some (s++([10]:aa)))))=some (bif b then s else s++[10]):=by
 cases b with
 |true=>rfl
 |false=>exact(aP (aP rfl)).trans ((aR _ _).trans (Zx s a))
theorem Zy(s:aa)(a:s.length<=1000000):CJ s=some (dz s):=by unfold CJ L9;rw[alq s a,als s a];simp[dz,bo,decide_eq_true,aS,e9]
theorem Zz(s:aa)(c:(dz s).length<=1000000):match hT false 30 (dz s) with
  | .ok a _ _=>AJ s=some (((0:Int),((dz s).length:Int)),([]:bt),(a:Int))
  | .more op _ _=>AJ s=some (((1:Int),((dz s).length:Int)),op,(0:Int))
  | .bad r=>r<:+dz s/\∃op,AJ s=some (((2:Int),az (dz s) r),op,(0:Int))
  | .deep _=>True:=by
 have hl:s.length<=(dz s).length:=by grind[dz]
 have h:=alo c;unfold AJ;rw[Zy s (by omega),aP rfl];cases aB:hT false 30 (dz s) with
 |ok a r pd=>rw[aB] at h;obtain⟨ad,b,d⟩:=h;simp only;rw[d];rfl
 |more op nd ds=>rw[aB] at h;obtain⟨st,ad,b⟩:=h;grind
 |bad r=>rw[aB] at h;obtain⟨ad,st,b⟩:=h;grind
 |deep q=>trivial
end Go.Eng
namespace Go.Eng
def et(pd:aq):Nat:=(lM pd).length
theorem ZA:∀(a b:aq),lM (a++b)=lM a++lM b
 |[],b=>rfl
 |d::a,b=>by simp[lM,ZA]
theorem ZB(a b:aq):et (a++b)=et a+et b:=by simp[et,ZA]
theorem A3:∀(x nd:aa)(ds:aq),(cP nd ds x).1.length+et (cP nd ds x).2=nd.length+et ds+x.length
 |[],nd,ds=>rfl
 |b::x,nd,ds=>by
  unfold cP;split
  ·rw[A3 x];grind[List.length_append,List.length_cons,et,lM,List.length_nil]
  ·rw[A3 x];simp only[xU,mA,DE];omega
def ea(c:Nat){α:Type}(r:aa)(pd:aq):dw α->Prop
 | .ok _ r' a=>et a+100*r'.length<=et pd+100*r.length
 | .more _ nd ds=>nd.length+et ds<=et pd+100*r.length+c
 | .bad _=>True
 | .deep _=>True
def aI(c:Nat){α:Type}(f:ak α):Prop:=∀r pd,ea c r pd (f r pd)
section
theorem aI.mono{α:Type}{c b:Nat}{f:ak α}(h:aI c f)(aF:c<=b):aI b f:=by
 intro r pd;have:=h r pd;cases hm:f r pd with
 |more op nd ds=>grind[ea]
 |ok a r1 d=>rw[hm] at this;exact this
 |bad _=>trivial
 |deep _=>trivial
theorem aI.ae{α β:Type}{c:Nat}{m:ak α}{k:α->ak β}(hm:aI c m)(hk:∀a,aI c (k a)):aI c (Go.Eng.ae m k):=by
 intro r pd;unfold Go.Eng.ae;have:=hm r pd;cases h:m r pd with
 |ok a r1 b=>rw[h] at this;simp only[ea] at this⊢;have d:=hk a r1 b;grind[ea]
 |more op nd ds=>rw[h] at this;exact this
 |bad _=>trivial
 |deep _=>trivial
theorem aI.aM{α:Type}{c:Nat}{m:ak α}(h:aI c m)(x:aa):aI (c+x.length) (m.aM x):=by
 intro r pd;unfold ak.aM;have:=h r pd;cases hm:m r pd with
 |more op nd ds=>grind[ea,A3]
 |ok a r1 b=>rw[hm] at this;exact this
 |bad _=>trivial
 |deep _=>trivial
theorem aI.named{α:Type}{c:Nat}{m:ak α}(h:aI c m)(x:aa):aI c (m.named x):=by
 intro r pd;unfold ak.named;have:=h r pd;cases hm:m r pd with
 |more op nd ds=>rw[hm] at this;exact this
 |ok a r1 b=>grind
 |bad _=>trivial
 |deep _=>trivial
theorem aI.b7{α:Type}{c:Nat}{x:aa}(h:x.length<=c):aI c (Go.Eng.b7 x:ak α):=by intro r pd;grind[Go.Eng.b7,ea,A3,List.length_nil]
theorem aI.bK{α:Type}{c:Nat}:aI c (Go.Eng.bK:ak α):=λr pd=>trivial
theorem aI.ret{α:Type}{c:Nat}(a:α):aI c (aW a):=λr pd=>cX _
theorem aI.ite{α:Type}{c:Nat}{p:Prop}[Decidable p]{f g:ak α}(hf:aI c f)(bf:aI c g):aI c (if p then f else g):=by grind
theorem aI.ia{c:Nat}{f:ak Unit}(hf:∀r pd,match f r pd with| .ok _ r' b=>r'.length<=r.length/\b=pd| .more _ nd ds=>nd.length<=c/\ds=pd|_=>True):aI c f:=by
 intro r pd;have:=hf r pd;cases hm:f r pd with
 |ok a r1 d=>rw[hm] at this;obtain⟨ad,rfl⟩:=this;grind[ea]
 |more op nd ds=>rw[hm] at this;obtain⟨ad,rfl⟩:=this;grind[ea]
 |bad _=>trivial
 |deep _=>trivial
theorem aI.dm{c:Nat}(k:Nat):aI c (b2 k):=aI.ia λr pd=>⟨by simp,rfl⟩
theorem aI.dJ{c:Nat}{x:aa}(h:x.length<=c):aI c (bQ x):=by
 intro r pd;cases a:bx r with
 |none=>rw[iE a];exact aI.b7 (α:=Tok) h r pd
 |some r'=>rw[cB a];have:=(dV a).length_le;grind[ea]
theorem aI.rep{σ α:Type}{c:Nat}{f:σ->ak (σ⊕α)}(hf:∀s,aI c (f s))(s:σ):aI c (cb f s):=by
 have d:∀(N:Nat)(s:σ)(r:aa)(pd:aq),r.length<=N->ea c r pd (cb f s r pd):=by
  intro N;induction N with
  |zero=>
   intro s r pd g;rw[cH];have:=hf s r pd;unfold cO;cases hm:f s r pd with
   |ok x r1 e=>
    rw[hm] at this;cases x with
    |inl s'=>simp only;rw[aS (by omega)];trivial
    |inr a=>exact this
   |more _ _ _=>rw[hm] at this;exact this
   |bad _=>trivial
   |deep _=>trivial
  |succ N h=>
   intro s r pd g;rw[cH];have:=hf s r pd;unfold cO;cases hm:f s r pd with
   |ok x r1 e=>
    rw[hm] at this;cases x with
    |inl s'=>
     simp only[ea] at this;simp only;split
     ·have i:=h s' r1 e (by omega);cases j:cb f s' r1 e with
      |ok b k l=>grind[ea]
      |more op nd ds=>grind[ea]
      |bad _=>trivial
      |deep _=>trivial
     ·trivial
    |inr a=>exact this
   |more _ _ _=>rw[hm] at this;exact this
   |bad _=>trivial
   |deep _=>trivial
 exactλr pd=>d _ s r pd (cX _)
theorem aI.exp{c:Nat}(b:Tok->Bool)(k:Nat):aI c (na b k):=(aI.dJ (by simp)).ae λt=>aI.ite (aI.b7 (by simp)) (aI.ite (aI.dm _) aI.bK)
theorem aI.jR{c:Nat}(o:aa):aI c (Go.Eng.jR o):=aI.exp _ _
theorem aI.cY{c:Nat}(o:aa):aI c (Go.Eng.cY o):=aI.exp _ _
theorem S0:∀(pd:aq)(t nd:aa),mc pd t= .inr nd->nd.length<=et pd
 |[],t,nd,h=>by cases h
 |d::ds,t,nd,h=>by
  unfold mc at h;split at h
  ·have:=S0 ds _ nd h;grind[et,lM,List.length_append,List.length_cons]
  ·cases h;exact cX _
theorem aI.nl{c:Nat}:aI c jj:=by
 intro r pd;cases r with
 |nil=>exact cX _
 |cons b t=>
  unfold jj;simp only;cases a:mc pd t with
  |inl r'=>have:=((vT pd t [] r' a).1).length_le;grind[ea,et,lM,List.length_nil,List.length_cons]
  |inr nd=>have:=S0 pd t nd a;grind[ea,et,lM,List.length_nil]
theorem aI.lines{c:Nat}:aI c cU:=aI.rep (λ_=>(aI.dJ (by simp)).ae λt=>aI.ite (aI.nl.ae λ_=>aI.ret _) (aI.ret _)) _
theorem aI.part{D:ak Unit}(hD:aI 10 D){dq:Option (ak Unit)}(d:∀q,dq=some q->aI 50 q):aI 11 (cE D dq):=by
 intro r pd;cases r with
 |nil=>exact cX _
 |cons b t=>
  have e:∀(f:aa->Option aa)(x:UInt8),(∀r q,f r=some q->q.length<=r.length)->ea 11 (b::t) pd (jx f [x] t pd):=by grind[jx,ea,List.length_cons,List.length_nil]
  unfold cE;simp only;split
  ·grind[ea,List.length_drop,List.length_cons]
  ·split
   ·exact e _ _ λr q g=>(c r q g)
   ·split
    ·exact hD.mono (by decide) _ _
    ·cases dq with
     |none=>grind[ea,List.length_cons]
     |some q=>
      simp only;split
      ·grind[Nat.le_of_lt,yW]
      ·split
       ·have:=d q rfl t pd;cases hm:q t pd with
        |ok a r1 i=>grind[ea,List.length_cons]
        |more op nd ds=>grind[ea,List.length_cons]
        |bad _=>trivial
        |deep _=>trivial
       grind[ea,List.length_cons]
where
 c:∀(r q:aa),g4 r=some q->q.length<=r.length:=by
  intro r q h
  have:∀(n:Nat)(r q:aa),r.length<=n->g4 r=some q->q.length<=r.length:=by
   intro n;induction n with
   |zero=>simp_all[nH,Nat.le_zero,g4]
   |succ n j=>
    intro r q ax h;cases r with
    |nil=>grind
    |cons b t=>unfold g4 at h;grind
  exact this _ r q (cX _) h
theorem aI.CV{p:ak Unit}{n:Nat}(aB:aI n p)(c:UInt8):aI n (jk c p):=by
 refine aI.rep (λ_=>?_) _;intro r pd;cases r with
 |nil=>exact aI.b7 (α:=Unit⊕Unit) (by simp) [] pd
 |cons b t=>
  simp only;split
  ·grind[ea,List.length_cons]
  ·exact(aB.ae (λ_=>aI.ret _)) _ _
end
theorem ea.mono{c:Nat}{α:Type}{r0 r:aa}{b pd:aq}{x:dw α}(h:ea c r pd x)(ad:et pd+100*r.length<=et b+100*r0.length):ea c r0 b x:=by
 cases x with
 |ok a r1 d=>grind[ea]
 |more op nd ds=>grind[ea]
 |bad _=>trivial
 |deep _=>trivial
theorem ea.p3{c b:Nat}{α:Type}{r:aa}{pd:aq}{x:dw α}(h:ea c r pd x)(ad:c<=b):ea b r pd x:=by
 cases x with
 |ok a r1 d=>exact h
 |more op nd ds=>grind[ea]
 |bad _=>trivial
 |deep _=>trivial
theorem ea.less{c b k:Nat}{α:Type}{r0 r:aa}{pd:aq}{x:dw α}(h:ea c r pd x)(hl:r.length+k<=r0.length)(aF:c<=b+100*k):ea b r0 pd x:=by
 cases x with
 |ok a r1 d=>grind[ea]
 |more op nd ds=>grind[ea]
 |bad _=>trivial
 |deep _=>trivial
theorem ea.ae{c:Nat}{α β:Type}{m:ak α}{k:α->ak β}{r v:aa}{pd:aq}(h:ea c r pd (m v pd))(hk:∀a,aI c (k a)):ea c r pd (Go.Eng.ae m k v pd):=by
 unfold Go.Eng.ae;cases hm:m v pd with
 |ok a r1 b=>rw[hm] at h;have:=hk a r1 b;exact this.mono (by grind[ea])
 |more op nd ds=>rw[hm] at h;exact h
 |bad _=>trivial
 |deep _=>trivial
theorem aI.S1{c a:Nat}{α:Type}{k:Nat}{f:ak α}(hf:aI c f){r:aa}{pd:aq}(hl:k<=r.length)(aF:c<=a+100*k):ea a r pd (Go.Eng.ae (b2 k) (λ_=>f) r pd):=
 (hf (r.drop k) pd).less (by grind) aF
section
variable{D:ak Unit}(hD:aI 10 D)
include hD
theorem aI.double:aI 50 (eN D):=((((aI.CV (n:=11) (aI.part hD (dq:=none) (λq h=>by cases h)) 34)).aM [34]).named [34]).mono (by decide)
theorem aI.y0:aI 11 (cE D (some (eN D))):=aI.part hD λq h=>by grind[aI.double]
theorem aI.param:aI 12 (q3 D):=(aI.CV (aI.y0 hD) 125).aM [125]
theorem aI.cQ:aI 11 (Go.Eng.cQ D):=by
 refine aI.rep (λ_=>?_) _;intro r pd;cases r with
 |nil=>exact aI.b7 (α:=Unit⊕Unit) (by simp) [] pd
 |cons b t=>
  simp only;split
  ·exact cX _
  ·exact((aI.y0 hD).ae (λ_=>aI.ret _)) _ _
theorem aI.jQ{x:aa}(a:x.length<=11):aI 11 (Go.Eng.jQ D x):=(aI.dJ a).ae λt=>by grind[aI.b7,aI.cQ,aI.bK]
omit hD in
theorem alv{r:aa}{x:aa×aa×aa}(h:dt r=some x):x.1.length+x.2.1.length<=r.length+1/\x.2.2.length<=1:=by
 have a:=YP _ r (cX _);cases aF:gf r with
 |none=>grind
 |some y=>
  obtain⟨q,c⟩:=y;rw[aF] at a;obtain⟨w,e,aE⟩:=a;rw[h] at aE;have f:=YS _ _ _ aF;cases b:dl (w++c) 0 with
  |none=>grind
  |some d=>rw[b] at aE;cases aE;have:=Yp _ _ (cX _) 0 d b;grind
omit hD in
theorem aI.sC{tabs:Bool}{r0 v:aa}{pd:aq}(hl:v.length+1<=r0.length):ea 10 r0 pd (hr tabs v pd):=by
 have b:∀d:aa,et (pd++[(d,tabs)])=et pd+d.length+1:=by intro d;rw[ZB];grind[et,lM]
 have ad:ea 10 r0 pd (.more [] [120] (pd++[([120],tabs)]):dw Unit):=by grind[ea,List.length_cons,List.length_nil]
 unfold hr;cases a:bx v with
 |none=>exact ad
 |some r'=>
  have c:=(dV a).length_le;simp only;cases e:av r' with
  |eof=>exact ad
  |line=>trivial
  |op o=>trivial
  |word w p=>
   simp only;cases aE:dt r' with
   |none=>trivial
   |some x=>obtain⟨d,q,f⟩:=x;obtain⟨g,h⟩:=alv aE;have i:=(RT _ _ _ (cX _) aE).length_le;grind[ea,List.length_nil]
theorem aI.jm:aI 11 (dF D):=by
 intro r pd;unfold dF;cases d:bx r with
 |none=>
  have:fJ r pd=Go.Eng.b7 [] r pd:=by grind[fJ]
  rw[dh (nd:=(cP [] pd []).1) (ds:=(cP [] pd []).2) (op:=[]) this];exact aI.b7 (α:=Bool) (x:=[]) (by simp) r pd
 |some r'=>
  have f:=(dV d).length_le;have g:(r'.dropWhile cd).length<=r'.length:=(CQ).length_le;by_cases e:e2 (bs (r'.dropWhile cd))=true
  ·have a:fJ r pd= .ok (some (bs (r'.dropWhile cd))) ((r'.dropWhile cd).drop (bs (r'.dropWhile cd)).length) pd:=by simp_all[fJ,bo]
   rw[aZ a];have ad:=SH e;have h:=RP (r:=r'.dropWhile cd);generalize r'.dropWhile cd=q at*;have hl:(q.drop (bs q).length).length+1<=r.length:=by grind
   generalize q.drop (bs q).length=v at*;simp only;refine ea.ae ?_ λ_=>aI.ret _;by_cases b:bs q=[60,60]
   ·rw[bo b];exact(aI.sC (tabs:=false) (pd:=pd) hl).p3 (by decide)
   ·rw[aS b];by_cases c:bs q=[60,60,45]
    ·rw[bo c];exact(aI.sC (tabs:=true) (pd:=pd) hl).p3 (by decide)
    ·rw[aS c];exact(aI.jQ hD (by decide) v pd).less hl (by decide)
  ·have a:fJ r pd= .ok none r' pd:=by simp_all[fJ,aS]
   rw[aZ a];show et pd+100*r'.length<=et pd+100*r.length;omega
theorem aI.mK:aI 11 (gV D):=aI.rep (λ_=>(aI.jm hD).ae λb=>aI.ret _) _
theorem aI.simple(fr:Bool):aI 11 (hH fr D):=aI.rep (λ_=>(aI.jm hD).ae λb=>aI.ite (aI.ret _) ((aI.dJ (by simp)).ae λt=>by
 cases t with
 |word _ _=>grind[aI.cQ,aI.ae,aI.ret]
 |op o=>simp[aI.ite,aI.bK,aI.ret]
 |_=>simp[aI.ret])) _
end
theorem aI.MV{c:Nat}(x:aa)(h:x.length<=c):aI c (cU.aM x):=((aI.lines (c:=0)).aM x).mono (by omega)
theorem aI.pipe{df:ak Unit}(h:aI 50 df):aI 50 (fu df):=(aI.dJ (by decide)).ae λt=>(aI.ite (aI.dm _) (aI.ret _)).ae λ_=>h.ae λ_=>
 aI.rep (λ_=>(aI.dJ (by simp)).ae λt=>aI.ite ((aI.dm _).ae λ_=>(aI.MV _ (by decide)).ae λ_=>h.ae λ_=>aI.ret _) (aI.ret _)) _
theorem aI.pP{a:ak Unit}(h:aI 50 a):aI 50 (hs a):=h.ae λ_=>
 aI.rep (λ_=>(aI.dJ (by simp)).ae λt=>aI.ite ((aI.dm _).ae λ_=>(aI.MV _ (by decide)).ae λ_=>h.ae λ_=>aI.ret _) (aI.ret _)) _
theorem aI.list{ao:ak Unit}(h:aI 50 ao)(c:Ctx)(no:Bool):aI 50 (oz ao c no):=(aI.MV _ (by grind)).ae λ_=>aI.rep (λk=>(aI.dJ (by grind)).ae λt=>
 aI.ite (aI.ite (aI.ret _) (aI.b7 (by grind))) (aI.ite (aI.ret _) (h.ae λ_=>(aI.dJ (by simp)).ae λt=>by
  cases t with
  |eof=>simp[aI.ret]
  |line=>exact aI.lines.ae λ_=>aI.ret _
  |word _ _=>exact aI.bK
  |op o=>exact aI.ite ((aI.dm _).ae λ_=>aI.lines.ae λ_=>aI.ret _) (aI.ite (aI.ret _) aI.bK)))) _
structure y_(l:dU):Prop where
 ls:∀c no,aI 50 (l.ls c no)
 pm:aI 12 l.pm
 cp:∀r pd,hG (av r)=true->ea 50 r pd (l.cp (av r) r pd)
 rd:aI 11 l.rd
 dl:aI 10 l.dl
section
variable{l:dU}(hl:y_ l)
include hl
theorem aI.body{x:aa}(a:x.length<=60):aI 60 (iP l x):=(((aI.cY (c:=0) gU).aM x).mono (by omega)).ae λ_=>(((hl.ls _ _).aM _).mono (by decide)).ae λ_=>aI.cY _
theorem aI.cond:aI 70 (q6 l):=aI.rep (λ_=>(((hl.ls _ _).aM _).mono (by decide)).ae λ_=>(aI.cY _).ae λ_=>(((hl.ls _ _).aM _).mono (by decide)).ae λ_=>(aI.dJ (by simp)).ae λt=>
 aI.ite ((aI.cY _).ae λ_=>aI.ret _) (aI.ite ((aI.cY _).ae λ_=>(((hl.ls _ _).aM _).mono (by decide)).ae λ_=>(aI.cY _).ae λ_=>aI.ret _) ((aI.cY _).ae λ_=>aI.ret _))) _
theorem aI.words:aI 11 (pN l.dl):=aI.rep (λ_=>(aI.dJ (by simp)).ae λt=>by
 cases t with
 |eof=>simp[aI.b7]
 |word _ _=>exact(aI.cQ hl.dl).ae λ_=>aI.ret _
 |line=>simp[aI.ret]
 |op o=>simp[aI.ite,aI.dm,aI.ae,aI.ret,aI.bK]) _
theorem aI.for_:aI 60 (pO l l.dl):=(aI.dJ (by decide)).ae λt=>by
 cases t with
 |eof=>exact aI.b7 (by decide)
 |word w p=>
  cases p with
  |true=>
   refine aI.ite ((aI.dm _).ae λ_=>((aI.aM (c:=11) ((aI.dJ (by simp)).ae λt=>?_) er).mono (by decide)).ae λ_=>aI.body hl (by decide)) aI.bK
   exact aI.ite ((aI.dm _).ae λ_=>aI.lines.ae λ_=>aI.ret _) (aI.lines.ae λ_=>(aI.dJ (by simp)).ae λt=>
    aI.ite ((aI.dm _).ae λ_=>(aI.words hl).ae λ_=>aI.lines.ae λ_=>aI.ret _) (aI.ret _))
  |false=>exact aI.bK
 |_=>exact aI.bK
theorem aI.xj:aI 12 (kZ l.dl):=aI.rep (λ_=>(aI.dJ (by decide)).ae λt=>by
 cases t with
 |eof=>simp[aI.b7]
 |word _ _=>
  refine((aI.cQ hl.dl).aM [41]).ae λ_=>(aI.dJ (by decide)).ae λt=>?_;cases t with
  |op o=>exact aI.ite ((aI.dm _).ae λ_=>aI.ret _) (aI.ite ((aI.dm _).ae λ_=>aI.ret _) aI.bK)
  |eof=>simp[aI.b7]
  |_=>exact aI.bK
 |_=>exact aI.bK) _
theorem aI.items:aI 50 (nA l l.dl):=aI.rep (λ_=>aI.lines.ae λ_=>(aI.dJ (by simp)).ae λt=>aI.ite (aI.b7 (by simp)) (aI.ite ((aI.dm _).ae λ_=>aI.ret _)
 ((aI.ite (aI.dm _) (aI.ret _)).ae λ_=>((aI.xj hl).mono (by decide)).ae λ_=>(hl.ls _ _).ae λ_=>(aI.dJ (by simp)).ae λt=>aI.ite ((aI.dm _).ae λ_=>aI.ret _) (aI.ret _)))) _
theorem aI.xk:aI 60 (q7 l l.dl):=(aI.dJ (by decide)).ae λt=>by
 cases t with
 |eof=>exact aI.b7 (by decide)
 |word _ _=>refine((aI.aM (c:=11) ((aI.cQ hl.dl).ae λ_=>aI.lines.ae λ_=>(aI.dJ (by simp)).ae λt=>aI.ite (aI.b7 (by simp)) (aI.ret _)) ([32]++fB++[10]++ev)).mono (by decide)).ae λt=>?_;exact aI.ite ((aI.dm _).ae λ_=>((aI.items hl).aM _).mono (by decide)) aI.bK
 |_=>exact aI.bK
theorem ea.kind{r:aa}{pd:aq}(aF:hG (av r)=true):ea 50 r pd (hS l (av r) r pd):=by
 obtain⟨c,d⟩:=Zd aF;have e:(mH (av r)).length<=r.length:=by
  cases a:av r with
  |eof=>rw[a] at aF;cases aF
  |line=>rw[a] at aF;cases aF
  |op o=>
   have:=(iq a).2.1.length_le;rw[a] at aF;have b:o=[40]:=by grind[hG]
   subst b;exact this
  |word w p=>
   rw[a] at aF;cases p with
   |false=>cases aF
   |true=>exact(qu a).1.length_le
 rw[Ze aF];have hk:aI 70 (C7 l (av r)):=by
  unfold C7;cases a:av r with
  |op o=>exact(((hl.ls _ _).aM _).mono (by decide)).ae λ_=>aI.jR _
  |word w p=>refine aI.ite ((((hl.ls _ _).aM _).mono (by decide)).ae λ_=>aI.cY _) (aI.ite (aI.cond hl) (aI.ite ((aI.for_ hl).mono (by decide)) (aI.ite ((aI.xk hl).mono (by decide)) ?_)));exact(((hl.ls _ _).aM _).mono (by decide)).ae λ_=>(aI.body hl (by decide)).mono (by decide)
  |_=>exact aI.bK
 exact(hk _ pd).less (k:=1) (by grind) (by decide)
end
theorem aI.S2:∀(t:aa)(d n:Nat),hQ d t= .more n->n<=d+t.length+2
 |[],d,n,h=>by grind[hQ]
 |b::t,d,n,h=>by have a:=aI.S2 t;unfold hQ at h;grind
theorem aI.vZ{lo:Option dU}(hl:∀l,lo=some l->y_ l):aI 10 (dM lo):=by
 intro r pd;unfold dM;split
 ·rename_i h;rw[DC] at h;obtain⟨t,rfl⟩:=h;show ea 10 _ pd (nz t pd);unfold nz;cases a:hQ 0 t with
  |ok q=>have:=(AP 0 t q a).length_le;grind[ea,List.length_append]
  |more n=>have:=aI.S2 t 0 n a;grind[ea,List.length_append,List.length_replicate,List.length_cons,List.length_nil]
  |bad q=>trivial
 ·split
  ·rename_i h;rw[DC] at h;have b:=h.length_le;cases lo with
   |none=>trivial
   |some l=>have c:=hl l rfl;have aB:aI 60 (uK l):=((((c.ls _ _).aM _).mono (by decide)).named _).ae λ_=>aI.jR _;exact aI.S1 aB (k:=2) (by omega) (by decide)
  ·split
   ·rename_i h;rw[DC] at h;have b:=h.length_le;cases lo with
    |none=>trivial
    |some l=>exact aI.S1 ((hl l rfl).pm.named _) (k:=2) (by omega) (by decide)
   grind[ea,List.length_drop]
theorem aI.function{fr:Bool}{lo:Option dU}(hl:∀l,lo=some l->y_ l){u:aa}{pd:aq}:ea 50 (40::u) pd (mf fr lo (40::u) pd):=by
 unfold mf;cases lo with
 |none=>trivial
 |some l=>
  have d:=hl l rfl;dsimp only;split
  ·have ax:∀{α:Type}{c:Nat}{m:ak α}{r:aa}{pd:aq}{x:aa},ea c r pd (m r pd)->ea c r pd (m.named x r pd):=by
    intro α c m r pd x h;unfold ak.named;cases hm:m r pd with
    |more op nd ds=>rw[hm] at h;exact h
    |ok a r1 e=>grind
    |bad _=>trivial
    |deep _=>trivial
   refine ax ?_;refine aI.S1 (c:=60) (k:=1) ?_ (by simp) (by decide);refine(aI.dJ (by decide)).ae λt=>aI.ite (aI.b7 (by decide)) (aI.ite ((aI.dm _).ae λ_=>(aI.MV _ (by decide)).ae λ_=>?_) aI.bK);intro r pd;cases b:bx r with
   |none=>rw[dh (iE b)];exact aI.b7 (α:=Unit) (by decide) r pd
   |some r'=>
    rw[aZ (cB b)];have f:=(dV b).length_le;refine ea.mono (r:=r') (pd:=pd) ?_ (by omega);split
    ·exact aI.b7 (α:=Unit) (by decide) _ _
    ·split
     ·rename_i aF;exact(ea.ae ((d.cp r' pd aF).p3 (by decide)) λ_=>aI.ite (d.rd.mono (by decide)) (aI.ret _))
     ·trivial
  ·trivial
theorem aI.command{fr:Bool}{lo:Option dU}(hl:∀l,lo=some l->y_ l):aI 50 (gm fr lo (dM lo)):=by
 have hD:=aI.vZ hl;intro r pd;unfold gm;cases c:bx r with
 |none=>rw[dh (iE c)];exact aI.b7 (α:=Unit) (by decide) r pd
 |some r'=>
  rw[aZ (cB c)];have f:=(dV c).length_le;refine ea.mono (r:=r') (pd:=pd) ?_ (by omega);by_cases ad:av r'= .eof
  ·rw[bo ad];exact aI.b7 (α:=Unit) (by decide) _ _
  rw[aS ad];by_cases aF:hG (av r')=true
  ·rw[bo aF];refine ea.ae ?_ λ_=>(aI.mK hD).mono (by decide);cases lo with
   |none=>trivial
   |some l=>
    have:=ea.kind (hl l rfl) aF (r:=r') (pd:=pd);show ea 50 r' pd ((hS l (av r')).named _ r' pd);unfold ak.named;cases hm:hS l (av r') r' pd with
    |more op nd ds=>rw[hm] at this;exact this
    |ok a r1 g=>grind
    |bad _=>trivial
    |deep _=>trivial
  ·rw[aS aF];cases h:av r' with
   |eof=>grind
   |line=>trivial
   |op o=>exact aI.ite (((aI.jm hD).mono (by decide)).ae λ_=>(aI.simple hD fr).mono (by decide)) aI.bK _ _
   |word w p=>
    refine aI.ite aI.bK (((aI.jm hD).mono (by decide)).ae λb=>aI.ite ((aI.simple hD fr).mono (by decide)) (((aI.cQ hD).mono (by decide)).ae λ_=>aI.ite ?_ ((aI.simple hD fr).mono (by decide)))) _ _;intro r pd;cases c:bx r with
    |none=>rw[dh (iE c)];exact aI.b7 (α:=Unit) (by decide) r pd
    |some e=>
     rw[aZ (cB c)];have f:=(dV c).length_le;refine ea.mono (r:=e) (pd:=pd) ?_ (by omega);by_cases d:av e= .op [40]
     ·rw[bo d];obtain⟨u,rfl⟩:=(iq d).2.1;exact ea.ae (aI.function hl) λ_=>aI.ite (aI.ret _) ((aI.mK hD).mono (by decide))
     ·rw[aS d];exact(aI.simple hD fr).mono (by decide) _ _
theorem ZC{fr:Bool}{lo:Option dU}(hl:∀l,lo=some l->y_ l)(b:Bool):y_ {ls:=oz (hs (fu (gm fr lo (dM lo)))),pm:=q3 (dM lo),cp:=sA lo,rd:=gV (dM lo),dl:=dM lo,has:=b}:=by
 have hD:=aI.vZ hl;refine⟨λc no=>aI.list (aI.pP (aI.pipe (aI.command hl))) c no,aI.param hD,λr pd aF=>?_,aI.mK hD,hD⟩;cases lo with
 |none=>trivial
 |some l=>
  have:=ea.kind (hl l rfl) aF (r:=r) (pd:=pd);show ea 50 r pd ((hS l (av r)).named _ r pd);unfold ak.named;cases hm:hS l (av r) r pd with
  |more op nd ds=>rw[hm] at this;exact this
  |ok a r1 d=>grind
  |bad _=>trivial
  |deep _=>trivial
theorem tJ(fr:Bool):∀n,y_ (a1 fr n)
 |0=>ZC (λl h=>by cases h) false
 |n+1=>ZC (λl h=>by cases h;exact tJ fr n) true
end Go.Eng
namespace Go.Eng
open Go Go.Proofs
theorem MW{S r:aa}(a:r<:+S):At (az S r) S.length=some (az S r):=by grind[At,az,eO,o5]
theorem alw{S:aa}(di:S.length<=1000000):∀(n:Nat)(r:aa),r.length<n->r<:+S->fixF (Ir S λ_=>some (-1)) n (az S r)=some (k4 S (gd r)):=by
 intro n;induction n with
 |zero=>omega
 |succ n c=>
  intro r ax a;rw[e5];generalize fixF (Ir S _) n=k at c;unfold Ir;cases r with
  |nil=>simp[iu,gd,k4]
  |cons b t=>
   have d:=iR di a;simp only[nc a,bA,aK];rw[b9 ⟨(hY a).1,trivial⟩];simp only[jD a,d,q_];unfold gd;by_cases e:b=39
   ·grind[k4]
   ·simp only[e,bF,aR,cl];grind[List.length_cons,d_]
theorem alx{S r:aa}(di:S.length<=1000000)(a:r<:+S):Cs S (az S r)=some (k4 S (gd r)):=by unfold Cs a_;rw[MW a,aP rfl];grind[alw,lz,Nat.le_trans,eO]
theorem aly{S:aa}(di:S.length<=1000000):∀(n:Nat)(r:aa),r.length+1<n->r<:+S->fixF (Cq S λ_=>some (-1)) n (az S r)=some (k4 S (g4 r)):=by
 intro n;induction n with
 |zero=>omega
 |succ n f=>
  intro r ax a;have i:=eO a;have d:n≠0->fixF (Cq S λ_=>some (-1)) n ((S.length:Int)+1)=some (-1):=by
   intro h0
   obtain⟨m,rfl⟩:∃m,n=m+1:=⟨n-1,by omega⟩
   grind[e5,Cq]
  rw[e5];generalize fixF (Cq S _) n=k at f d;unfold Cq a_;cases r with
  |nil=>simp[iu,g4,k4]
  |cons b t=>
   have g:=iR di a;have j:(b::t).length=t.length+1:=rfl;simp only[nc a,bA,aK];rw[b9 ⟨(hY a).1,trivial⟩];simp only[jD a,g,n3,mM];unfold g4;by_cases h:b=96
   ·grind[k4]
   simp only[h,bF,aR,cl];rw[b9 ⟨(hY a).1,trivial⟩];by_cases e:b=92
   ·subst e;simp only[bA,aK,cD];cases t with
    |nil=>
     have:W (az S []+1)=(S.length:Int)+1:=by grind[iu,dW]
     rw[this];exact d (by omega)
    |cons c u=>grind[iR,d_,List.length_cons]
   ·simp only[e,bF,aR,cl];grind[d_]
theorem alz{S r:aa}(di:S.length<=1000000)(a:r<:+S):Ax S (az S r)=some (k4 S (g4 r)):=by unfold Ax a_;rw[MW a,aP rfl];grind[aly,eO,gi]
theorem alA(l:aa)(hl:(l.length:Int)<=1048576)(j g:Int->Option (Int×Int))(z:∀d,j d=g d)(A:∀d,∃v,g d=some v):∀(m:Nat)(d k:Int),0<=d->d<=k->k<=2000000->(l.length:Int)-k<m->0<m->
  ∃v,fixF (L1 l j) m (d,k)=some v/\fixF (B4 l g) m (d,k)=some v:=by
 intro m;induction m with
 |zero=>omega
 |succ m o=>
  intro d k aE p B hm _;have hk:0<=k:=by omega
  simp only[fixF,L1,B4,a9,a_];by_cases ad:k<(l.length:Int)
  ·simp only[ad,hk,bA,aK,cD,nI];rw[dW (x:=k+1) (by omega) (by omega),dW (x:=k+2) (by omega) (by omega),dW (x:=d+1) (by omega) (by omega),dW (x:=d-1) (by omega) (by omega)];have h:0<=k+1:=by omega
   have a:=λ(e:Int)(ad:0<=e)(c:e<=k+1)=>o e (k+1) ad c (by omega) (by omega) (by omega);have u0:=a d (by omega) (by omega);have u1:=a (d+1) (by omega) (by omega);by_cases c:k+1<(l.length:Int)
   ·have f:¬k+1=(l.length:Int):=by omega
    simp only[c,f,h,bA,bF,aK,aR,cD,nI,implies_true];generalize ((at' l k).toNat:Int)=b;generalize ((at' l (k+1)).toNat:Int)=n;by_cases q:b=39
    ·grind
    by_cases r:b=34
    ·grind
    by_cases s:b=92
    ·grind
    by_cases t:b=96
    ·grind
    by_cases u:b=40
    ·grind
    by_cases i:b=41
    ·subst i;by_cases aB:0<d
     ·have w:=a (d-1) (by omega) (by omega);grind
     grind
    grind
   ·have y:((0:UInt8).toNat:Int)=0:=rfl;simp only[c,bF,aR,y,ew,false_implies,implies_true,cD];generalize ((at' l k).toNat:Int)=b;have f:k+1=(l.length:Int):=by omega
    simp only[f,bA];rw[<-f];by_cases q:b=39
    ·grind
    by_cases r:b=34
    ·grind
    by_cases s:b=92
    ·grind
    by_cases t:b=96
    ·grind
    by_cases u:b=40
    ·grind
    by_cases i:b=41
    ·subst i;by_cases aB:0<d
     ·have w:=a (d-1) (by omega) (by omega);grind
     grind
    grind
  ·simp only[ad,bF,aR];simp_all
theorem alC{S r:aa}(di:S.length<=1000000)(a:r<:+S):E8 S (az S r)=some (qx S (hQ 0 r)):=by
 have a8:=YE di a;have h0:0<=az S r:=by grind[eO,az]
 have hle:= @o5 r S;obtain⟨v,ad,b⟩:=alA S (by omega) (λx=>some ((-1),(W (x+2)))) (λx=>some ((-1),(W (x+2)))) (λ_=>rfl) (λd=>⟨_,rfl⟩) bC 0 (az S r) (by omega) h0 (by omega) (by grind[gi]) (by simp[gi]);have c:E8 S (az S r)=some v:=by unfold E8 a_;rw[MW a,aP rfl];exact ad
 have e:B5 S (az S r)=some v:=by unfold B5 a_;rw[I7 a,aP rfl];exact b
 grind
theorem alD{S d:aa}{tabs:Bool}{r:aa}(di:S.length<=1000000)(a:r<:+S):EN S (az S r) d tabs=some (match nx d tabs r with|some q=>az S q|none=> -1):=by
 have a8:=Yz (d:=d) (tabs:=tabs) di a;have h0:0<=az S r:=by grind[eO,az]
 have hle:= @o5 r S;obtain⟨v,r1,b⟩:=ajY S d tabs (by omega) bC (az S r) h0 hle (by grind[gi]) (by simp[gi]);have c:EN S (az S r) d tabs=some v:=by unfold EN;rw[MW a,aP rfl];exact r1
 have e:BY S (az S r) d tabs=some v:=by unfold BY;rw[I7 a,aP rfl];exact b
 grind
theorem S6{S r:aa}(di:S.length<=1000000)(a:r<:+S):yH S (az S r)=some (bs r):=by
 have ad:¬az S r<0:=by grind[eO,az]
 unfold yH LB;by_cases b:(S.length:Int)<=az S r
 ·have c:r=[]:=y1.1 (show az S r=S.length by have:= @o5 r S;omega);simp_all[bs,lq,xS,List.isPrefixOf]
 ·simp only[ad,b,bF,aR];rw[aP rfl];unfold a_;show fixF (Ik S (az S r) lq λ_=>some []) bC 0=_;rw[(Yj S (az S r) (by omega) (by omega) (by omega) lq (by decide) (by decide) (λ_=>some []) bC 0 (by omega) (by decide) (by rw[gi];decide) (by simp[gi])).1];rw[Sn a];grind[bs,Lib.hasPrefix,List.isPrefixOf,List.find?,lq]
theorem MX(w:aa)(l:bt)(hl:l.length<=1000):yI w l=some (l.contains w):=by
 have a:∀(n i:Nat),l.length-i<n->i<=l.length->fixF (Im w l λ_=>some false) n (i:Int)=some ((l.drop i).contains w):=by
  intro n;induction n with
  |zero=>omega
  |succ n b=>
   intro i ax a8;rw[e5];generalize fixF (Im w l _) n=k at b;unfold Im;by_cases c:i<l.length
   ·have d:(i:Int)<(l.length:Int):=by omega
    have e:l.drop i=at' l (i:Int)::l.drop (i+1):=by rw[NZ c];simp_all[at',Ur,Us]
    simp only[d,bA,aK];rw[b9 ⟨by omega,trivial⟩,dW (by omega) (by omega),e];by_cases he:at' l (i:Int)=w
    ·grind
    ·have:=b (i+1) (by omega) (by omega);have f:(i:Int)+1=((i+1:Nat):Int):=by omega
     simp only[he,bF,aR,f];rw[this];have:(w==at' l (i:Int))=false:=by grind
     rw[List.contains_cons,this,Bool.false_or]
   grind
 unfold yI a_;have:=a bC 0 (by grind[gi]) (by omega);grind
theorem ZE(w:aa):yJ w=some (q4 w):=by unfold yJ;rw[aP (MX w _ (by decide))];rfl
theorem ZF(w:aa):EO w=some (rK w):=by unfold EO;rw[aP (MX w _ (by decide))];rfl
theorem FV(w:aa):vP w=some (e2 w):=by unfold vP;rw[aP (MX w _ (by decide))];rfl
structure cg where
 S:aa
 ne:Int
def cg.st(e:cg)(r:aa)(pd:aq)(tr:Bool):ah:=(e.S,az e.S r,e.ne,pd,0,0,[],[],tr)
def cg.tt(e:cg)(pd:aq):ah:=(e.S,e.S.length,e.ne,pd,0,0,[],[],true)
structure cC(e:cg)(r:aa)(pd:aq):Prop where
 b0:e.S.length<=1000000
 nl:dx e.S
 Jj:e.S≠[]
 sfx:r<:+e.S
 jS:et pd+100*r.length<=100*e.S.length
theorem cC.mono{e:cg}{r r':aa}{pd:aq}(h:cC e r pd)(ad:r'<:+r):cC e r' pd:=
 ⟨h.b0,h.nl,h.Jj,ad.trans h.sfx,by have:=h.jS;grind⟩
structure n7(e:cg)(r0:aa)(st:ah):Prop where
 s:st.1=e.S
 lo:az e.S r0<=st.2.1
 a8:st.2.1<=(e.S.length:Int)+1+r0.length
 nd:st.2.2.2.2.2.2.1.length+et st.2.2.2.1<=100*e.S.length+1000
 op:st.2.2.2.2.2.2.2.1.length<=r0.length+1
def iG(q:Bool)(e:cg)(r0:aa)(nd:aa)(ds:aq)(st:ah):Prop:=
 (st.2.2.2.2.1=1/\st.2.2.2.2.2.2.1=nd/\st.2.2.2.1=ds/\n7 e r0 st/\(e.S.length:Int)<=st.2.1)\/(q=true/\nd=[]/\st=e.tt ds)
def iS(e:cg)(r0:aa)(st:ah):Prop:=st.2.2.2.2.1=2/\n7 e r0 st
def fZ(e:cg)(r:aa)(pd:aq)(st:ah):Prop:=∃tr,st=e.st r pd tr/\(r=[]->tr=false)
def bM{α β:Type}(q:Bool)(e:cg)(r0:aa)(m:dw α)(pr:β->ah)(cv:α->aa->β->Prop)(y:Option β):Prop:=∃b,y=some b/\match m with
 | .ok a r pd=>r<:+r0/\cC e r pd/\fZ e r pd (pr b)/\cv a r b
 | .more _ nd ds=>iG q e r0 nd ds (pr b)
 | .bad _=>iS e r0 (pr b)
 | .deep _=>iS e r0 (pr b)
theorem n7.mono{e:cg}{r0 r1:aa}{st:ah}(h:n7 e r0 st)(ad:r0<:+r1):n7 e r1 st:=by
 have:=ad.length_le;have a:az e.S r1<=az e.S r0:=by grind[az]
 exact⟨h.s,by have:=h.lo;omega,by have:=h.a8;omega,h.nd,by have:=h.op;omega⟩
theorem iG.mono{q:Bool}{e:cg}{r0 r1:aa}{nd:aa}{ds:aq}{st:ah}(h:iG q e r0 nd ds st)(ad:r0<:+r1):iG q e r1 nd ds st:=by
 rcases h with⟨a,b,c,d,f⟩|h
 ·exact .inl ⟨a,b,c,d.mono ad,f⟩
 ·exact .inr h
theorem iG.up{q:Bool}{e:cg}{r0:aa}{nd:aa}{ds:aq}{st:ah}(h:iG false e r0 nd ds st):iG q e r0 nd ds st:=by
 rcases h with h|h
 ·exact .inl h
 grind
theorem iG.z{e:cg}{r0:aa}{nd:aa}{ds:aq}{st:ah}(h:iG false e r0 nd ds st):st.2.2.2.2.1=1/\st.2.2.2.2.2.2.1=nd/\st.2.2.2.1=ds/\n7 e r0 st/\(e.S.length:Int)<=st.2.1:=by
 rcases h with h|h
 ·exact h
 grind
theorem iS.mono{e:cg}{r0 r1:aa}{st:ah}(h:iS e r0 st)(ad:r0<:+r1):iS e r1 st:=⟨h.1,h.2.mono ad⟩
theorem bM.mono{q:Bool}{α β:Type}{e:cg}{r0 r1:aa}{m:dw α}{pr:β->ah}{cv:α->aa->β->Prop}{y:Option β}(h:bM q e r0 m pr cv y)(ad:r0<:+r1):bM q e r1 m pr cv y:=by obtain⟨b,a,h⟩:=h;refine⟨b,a,?_⟩;grind[trans,iG.mono,iS.mono]
theorem bM.dX{q:Bool}{α β:Type}{e:cg}{r0:aa}{m:dw α}{pr:β->ah}{cv:α->aa->β->Prop}{y a:Option β}(h:bM q e r0 m pr cv y)(b:a=y):bM q e r0 m pr cv a:=b▸h
theorem bM.iF{q o:Bool}{α p s β l:Type}{C:dw p->dw s}(n:c4 C){e:cg}{r0 r:aa}{pd:aq}{m:ak α}{k:α->ak p}{pr:β->ah}{cv:α->aa->β->Prop}{i:l->ah}{cv':s->aa->l->Prop}{y:Option β}{K:β->Option l}
  (h:bM o e r0 (m r pd) pr cv y)
  (hk:∀a r1 d b,m r pd= .ok a r1 d->r1<:+r0->cC e r1 d->fZ e r1 d (pr b)->cv a r1 b->bM q e r0 (C (k a r1 d)) i cv' (K b))
  (hm:∀op nd ds b,m r pd= .more op nd ds->iG o e r0 nd ds (pr b)->∃c,K b=some c/\iG q e r0 nd ds (i c))
  (t:∀b,iS e r0 (pr b)->∃c,K b=some c/\iS e r0 (i c)):
  bM q e r0 (C (Go.Eng.ae m k r pd)) i cv' (aw y K):=by
 obtain⟨b,u,h⟩:=h;rw[u,aP rfl];unfold Go.Eng.ae;cases j:m r pd with
 |ok a r1 d=>grind
 |more op nd ds=>rw[j] at h;obtain⟨c,f,g⟩:=hm op nd ds b j h;rw[n.more];exact⟨c,f,g⟩
 |bad q=>rw[j] at h;obtain⟨c,f,g⟩:=t b h;rw[n.bad];exact⟨c,f,g⟩
 |deep q=>rw[j] at h;obtain⟨c,f,g⟩:=t b h;rw[n.deep];exact⟨c,f,g⟩
theorem wa(e:cg)(r:aa)(a b c:Int)(d:aq)(f:aa)(g:bt)(h:Bool):gw (e.S,az e.S r,a,d,b,c,f,g,h)=some (decide (r=[])):=by
 unfold gw;have:((e.S.length:Int)<=az e.S r)↔r=[]:=by rw[<-y1 (S:=e.S)];have:= @o5 r e.S;omega
 grind
theorem wb{e:cg}{r:aa}(j:r<:+e.S)(a c d:Int)(f:aq)(g:aa)(h:bt)(i:Bool):ik (e.S,az e.S r,a,f,c,d,g,h,i)=some (r.headD 0):=by
 unfold ik;rw[wa,aP rfl];cases r with
 |nil=>rfl
 |cons b t=>simp only[reduceCtorEq,bF,aR];simp_all[b9,hY,jD]
theorem S7(b:UInt8):As b=some (ga b):=by grind[As,ga,Sh,I2]
theorem Jk{e:cg}{r:aa}(a:e.S.length<=1000000)(b:r<:+e.S)(c d f:Int)(g:aq)(h:aa)(i:bt)(j:Bool):hF (e.S,az e.S r,c,g,d,f,h,i,j)=some (bs r):=by unfold hF;rw[S6 a b];rfl
theorem xw(e:cg)(pd:aq):e.tt pd=e.st [] pd true:=by rfl
def FW(e:cg)(r:aa)(pd:aq)(tr:Bool)(y:Option ah):Prop:=match bx r with
 |some r'=>∃a,y=some (e.st r' pd a)/\(a=tr\/a=true)
 |none=>y=some (e.tt pd)
theorem alE{e:cg}{x0:ah}{tr:Bool}(c:x0.1=e.S){j:Int->Option ah}(di:e.S.length<=1000000):∀(n:Nat)(r:aa),r.length<n->r<:+e.S->fixF (EJ x0 tr j) n (az e.S r)=j (az e.S (lp r)):=by
 intro n;induction n with
 |zero=>omega
 |succ n d=>
  intro r ax a;rw[e5];generalize fixF (EJ x0 tr j) n=k at d;unfold EJ;rw[c];rw[wa,aP rfl];cases r with
  |nil=>rfl
  |cons b t=>
   simp only[reduceCtorEq,bF,e8,aK];rw[b9 (λ_=>hY a),jD a,iR di a];simp only[pR];unfold lp;by_cases f:b=10
   ·grind
   ·simp only[f,bF,e8,aK,cl];grind[List.length_cons,d_]
theorem alF{e:cg}{pd:aq}(di:e.S.length<=1000000)(x0:ah)(m:∃r0 tr0,x0=e.st r0 pd tr0):∀(n:Nat)(r:aa)(tr:Bool),r.length<n->r<:+e.S->
  FW e r pd tr (fixF (Co x0 λx=>some (x0.1,x.1,x0.2.2.1,x0.2.2.2.1,x0.2.2.2.2.1,x0.2.2.2.2.2.1,x0.2.2.2.2.2.2.1,x0.2.2.2.2.2.2.2.1,x.2)) n (az e.S r,tr)):=by
 obtain⟨r0,tr0,rfl⟩:=m;intro n;induction n with
 |zero=>omega
 |succ n d=>
  intro r tr ax a;rw[e5];generalize fixF (Co (e.st r0 pd tr0) _) n=k at d;unfold Co a_;dsimp only;have he:gw ((e.st r0 pd tr0).1,az e.S r,(e.st r0 pd tr0).2.2.1,(e.st r0 pd tr0).2.2.2.1,(e.st r0 pd tr0).2.2.2.2.1,(e.st r0 pd tr0).2.2.2.2.2.1,(e.st r0 pd tr0).2.2.2.2.2.2.1,(e.st r0 pd tr0).2.2.2.2.2.2.2.1,tr)=some (decide (r=[])):=wa e r _ _ _ _ _ _ _;rw[he,aP rfl];unfold FW;cases r with
  |nil=>rw[mg];exact⟨tr,rfl,.inl rfl⟩
  |cons b t=>
   have j:t.length<n:=by grind
   simp only[reduceCtorEq,bF,e8,aK];have f:(e.st r0 pd tr0).1=e.S:=rfl;rw[f];rw[b9 (hY a),jD a,S7,aP rfl,iR di a];by_cases g:ga b=true
   ·rw[FE g,g];exact d t tr j (d_ a)
   have o:ga b=false:=by grind
   rw[o];simp only[aR,mM,Yq];by_cases l:b=92
   ·subst l;cases t with
    |nil=>
     rw[Yt];refine⟨tr,?_,.inl rfl⟩;have h0:decide (az e.S []<(e.S.length:Int))=false:=by simp[iu]
     simp only[bA,aK,h0,aR];rfl
    |cons c u=>
     simp only[bA,aK,nc (d_ a)];rw[b9 (λ_=>⟨(hY (d_ a)).1,trivial⟩),jD (d_ a)];simp only[pR];by_cases aF:c=10
     ·subst aF;have p:W (az e.S (92::10::u)+2)=az e.S u:=kB (w:=[92,10]) di a;rw[p,Sj];simp only[bA,aK];by_cases hu:u=[]
      ·subst hu;rw[bo rfl];have:=d [] true (by grind) List.nil_suffix;unfold FW at this;rw[mg] at this;obtain⟨q,ad,s⟩:=this;have:q=true:=by rcases s with rfl|rfl<;>rfl
       subst this;simp only;rw[xw];exact ad
      ·rw[aS hu];have:=d u true (by grind) (d_ (d_ a));unfold FW at this;grind
     ·rw[Si aF];simp only[aF,bF,aR,show¬((92:UInt8)=35) by decide];exact⟨tr,rfl,.inl rfl⟩
   ·have v:decide (b=92)=false:=by grind
    rw[v];simp only[aR];rw[b9 (λh=>by cases h)];by_cases i:b=35
    ·subst i;rw[Sk];simp only[bA,aK];have aE:fixF (EJ (e.st r0 pd tr0) tr λy=>k (y,tr)) bC (az e.S (35::t))=k (az e.S (lp (35::t)),tr):=alE (e:=e) rfl di _ _ (lz (lQ (eO a) di)) a;rw[aE];have:lp (35::t)=lp t:=by rfl
     rw[this];exact d _ tr (Nat.lt_of_le_of_lt (AM t) j) ((Fi t).trans (d_ a))
    ·rw[Sl g i l];simp only[i,bF,aR];exact⟨tr,rfl,.inl rfl⟩
theorem alH{e:cg}{r:aa}{pd:aq}{tr:Bool}(h:cC e r pd):FW e r pd tr (g9 (e.st r pd tr)):=by unfold g9 a_;exact alF h.b0 _ ⟨r,tr,rfl⟩ bC r tr (lz (lQ (eO h.sfx) h.b0)) h.sfx
theorem dx.ia{r S:aa}(h:dx S)(a:r<:+S):dx r:=by
 obtain⟨u,rfl⟩:=a;induction u with
 |nil=>exact h
 |cons b u c=>exact c h.tail
theorem ZG{r r':aa}(d:dx r)(k:r≠[])(a:bx r=some r'):r'≠[]:=by
 have e:∀(n:Nat)(r r':aa),r.length<=n->dx r->r≠[]->bx r=some r'->r'≠[]:=by
  intro n;induction n with
  |zero=>grind
  |succ n f=>
   intro r r' ax d k a;cases r with
   |nil=>grind
   |cons b t=>
    have l:t.length<=n:=by grind
    have g:b≠10->t≠[]:=by
     intro i h0;subst h0;rcases d with h|⟨s,h⟩
     ·cases h
     ·have:=mj List.getLast? h;grind
    by_cases i:ga b=true
    ·rw[FE i] at a;exact f t r' l d.tail (g (by rintro rfl;exact absurd i (by decide))) a
    by_cases o:b=35
    ·subst o;rw[Sk] at a;have bc:=g (by decide);have aE:lp t≠[]:=by
      have:∀t:aa,dx t->t≠[]->lp t≠[]:=by
       intro t;induction t with
       |nil=>simp
       |cons c u j=>
        intro m _;unfold lp;by_cases aF:c=10
        ·grind
        ·rw[aS aF];refine j m.tail ?_;rintro rfl;rcases m with h|⟨s,h⟩
         ·cases h
         ·have:=mj List.getLast? h;grind
      exact this t d.tail bc
     exact f _ r' (lQ (AM t) l) (d.tail.ia (Fi t)) aE a
    by_cases p:b=92
    ·subst p;have bc:=g (by decide);cases t with
     |nil=>grind
     |cons c u=>
      by_cases aF:c=10
      ·subst aF;rw[Sj] at a;by_cases hu:u=[]
       ·grind
       ·rw[aS hu] at a;exact f u r' (by grind) d.tail.tail hu a
      grind[Si]
    grind[Sl]
 exact e _ r r' (cX _) d k a
theorem xx{e:cg}{r:aa}{pd:aq}{st:ah}(h:cC e r pd)(g:fZ e r pd st):(∃r' b,bx r=some r'/\g9 st=some b/\fZ e r' pd b/\cC e r' pd/\r'<:+r/\bx r'=some r')\/(bx r=none/\g9 st=some (e.tt pd)):=by
 obtain⟨tr,rfl,k⟩:=g;have:=alH (tr:=tr) h;unfold FW at this;cases a:bx r with
 |none=>grind
 |some r'=>
  rw[a] at this;obtain⟨c,ad,l⟩:=this;have d:=dV a;refine .inl ⟨r',_,rfl,ad,⟨c,rfl,λi=>?_⟩,h.mono d,d,lO _ _ _ (cX _) a⟩;subst i;by_cases f:r=[]
  ·subst f;have j:g9 (e.st [] pd tr)=some (e.st [] pd tr):=by
    unfold g9 a_
    obtain⟨n,ax⟩:∃n,bC=n+1:=⟨bC-1,by rw[gi]⟩
    dsimp only;rw[ax,e5];unfold Co;dsimp only;have he:gw ((e.st [] pd tr).1,(e.st [] pd tr).2.1,(e.st [] pd tr).2.2.1,(e.st [] pd tr).2.2.2.1,(e.st [] pd tr).2.2.2.2.1,(e.st [] pd tr).2.2.2.2.2.1,(e.st [] pd tr).2.2.2.2.2.2.1,(e.st [] pd tr).2.2.2.2.2.2.2.1,(e.st [] pd tr).2.2.2.2.2.2.2.2)=some (decide (([]:aa)=[])):=wa e [] _ _ _ _ _ _ _;rw[he,aP rfl];rfl
   rw[j] at ad;have:=mj (λx=>x.2.2.2.2.2.2.2.2) (Option.some.inj ad);have m:tr=c:=this;grind
  ·exact absurd rfl (ZG (h.nl.ia h.sfx) f a)
theorem C9(e:cg)(pd:aq):g9 (e.tt pd)=some (e.tt pd):=by
 rw[xw];unfold g9 a_
 obtain⟨n,ax⟩:∃n,bC=n+1:=⟨bC-1,by rw[gi]⟩
 dsimp only;rw[ax,e5];unfold Co;dsimp only;have he:gw ((e.st [] pd true).1,(e.st [] pd true).2.1,(e.st [] pd true).2.2.1,(e.st [] pd true).2.2.2.1,(e.st [] pd true).2.2.2.2.1,(e.st [] pd true).2.2.2.2.2.1,(e.st [] pd true).2.2.2.2.2.2.1,(e.st [] pd true).2.2.2.2.2.2.2.1,(e.st [] pd true).2.2.2.2.2.2.2.2)=some (decide (([]:aa)=[])):=wa e [] _ _ _ _ _ _ _;rw[he,aP rfl];rfl
theorem bM.rep{q:Bool}{σ α τ β:Type}{e:cg}{f:σ->ak (σ⊕α)}{pr:β->ah}{cv:α->aa->β->Prop}{en:σ->aa->aq->τ->Prop}{body:(τ->Option β)->τ->Option β}
  (c:∀(k:τ->Option β)(s:σ)(r:aa)(pd:aq)(x:τ),cC e r pd->en s r pd x->(∀a,∃k',k a=body k' a)->(∀s' r' b a,r'<:+r->cC e r' b->r'.length<r.length->en s' r' b a->bM q e r (cb f s' r' b) pr cv (k a))->bM q e r (cO f r (f s r pd)) pr cv (body k x)):
  ∀(n:Nat)(s:σ)(r:aa)(pd:aq)(x:τ),r.length+1<n->cC e r pd->en s r pd x->bM q e r (cb f s r pd) pr cv (fixF body n x):=by
 intro n;induction n with
 |zero=>omega
 |succ n d=>
  intro s r pd x ax g he;rw[cH,e5];refine c _ s r pd x g he (λa=>?_) λs' r' b a ad h j i=>(d s' r' b a (by omega) h i).mono ad
  obtain⟨m,rfl⟩:∃m,n=m+1:=⟨n-1,by omega⟩
  exact⟨_,e5⟩
theorem bM.inl{q:Bool}{σ α β:Type}{e:cg}{f:σ->ak (σ⊕α)}{r0 r r':aa}{a:aq}{s':σ}{pr:β->ah}{cv:α->aa->β->Prop}{y:Option β}(hl:r'.length<r.length)(h:bM q e r0 (cb f s' r' a) pr cv y):bM q e r0 (cO f r (.ok (.inl s') r' a)) pr cv y:=by simp_all[cO,bo]
theorem we{e:cg}{r:aa}{pd:aq}(h:cC e r pd):r.length+1<bC:=by have:=h.b0;have:=eO h.sfx;grind[gi]
theorem MZ{α:Type}[Inhabited α]{l:List α}{i:Nat}(a8:i<l.length):l.drop i=at' l (i:Int)::l.drop (i+1):=by grind[List.drop_eq_getElem_cons,at',List.getElem?_eq_getElem]
theorem alJ{ds:aq}{j:aa->Option ah}(e:ds.length<=1000000000):∀(n i:Nat)(x:aa),ds.length-i<n->i<=ds.length->x.length+et (ds.drop i)<=1000000000->fixF (Ig ds j) n ((i:Int),x)=j (x++lM (ds.drop i)):=by
 intro n;induction n with
 |zero=>omega
 |succ n b=>
  intro i x ax a8 f;rw[e5];generalize fixF (Ig ds j) n=k at b;unfold Ig;dsimp only;by_cases c:i<ds.length
  ·have a:(i:Int)<(ds.length:Int):=by omega
   have aE:=MZ c;have hl:et (ds.drop i)=(at' ds (i:Int)).1.length+1+et (ds.drop (i+1)):=by grind[et,lM]
   simp only[a,bA,aK];rw[b9 ⟨by omega,trivial⟩,b9 (by omega),b9 (by grind)];have d:W ((i:Int)+1)=((i+1:Nat):Int):=by grind[dW]
   rw[d,b (i+1) _ (by omega) (by omega) (by grind),aE];simp[lM]
  ·have a:¬(i:Int)<(ds.length:Int):=by omega
   simp only[a,decide_false,cond_false];grind[List.drop_eq_nil_of_le,lM]
theorem alK{a:aa}{j:aq×aa->Option ah}(l:a.length<=2000000):∀(n i:Nat)(nd:aa)(ds:aq),a.length-i<n->i<=a.length->nd.length+et ds+(a.length-i)<=1000000000->ds.length<=1000000000->fixF (Ih a j) n ((i:Int),ds,nd)=j ((cP nd ds (a.drop i)).2,(cP nd ds (a.drop i)).1):=by
 intro n;induction n with
 |zero=>omega
 |succ n d=>
  intro i nd ds ax a8 m e;rw[e5];generalize fixF (Ih a j) n=k at d;unfold Ih a_;dsimp only;by_cases f:i<a.length
  ·have b:(i:Int)<(a.length:Int):=by omega
   have aE:=MZ f;have g:W ((i:Int)+1)=((i+1:Nat):Int):=by grind[dW]
   have h:b_ a (i:Int) ((i+1:Nat):Int)=[at' a (i:Int)]:=by simp_all[b_,GG]
   simp only[b,bA,aK,g];rw[b9 (by omega),h,b9 (by grind),b9 ⟨by omega,trivial⟩];simp only[pR];rw[aE];unfold cP;by_cases c:at' a (i:Int)=10
   ·rw[if_pos c];simp only[c,decide_true,cond_true];have h0:(0:Int)=((0:Nat):Int):=rfl;rw[h0,alJ e bC 0 (nd++[10]) (by grind[gi]) (by omega) (by grind)];simp only[List.drop_zero];grind[lM,List.length_append,List.length_cons,et,List.length_nil]
   grind
  ·have b:¬(i:Int)<(a.length:Int):=by omega
   simp only[b,bF,aR];rw[tV (by omega)];rfl
theorem C_(a b c f:Int)(S nd:aa)(ds:aq)(op:bt)(tr:Bool)(x:aa)(d:x.length<=2000000)(g:nd.length+et ds+x.length<=1000000000)(e:ds.length<=1000000000):
  vN (S,a,b,ds,c,f,nd,op,tr) x=some (S,a,b,(cP nd ds x).2,c,f,(cP nd ds x).1,op,tr):=by
 unfold vN a_;dsimp only;have h0:(0:Int)=((0:Nat):Int):=rfl;rw[h0,alK d bC 0 nd ds (by grind[gi]) (by omega) (by omega) e];simp
theorem tK:∀(l:aq),l.length<=et l
 |[]=>by simp
 |a::b=>by have:=tK b;simp[et,lM] at this⊢;omega
def n8(e:cg)(r0:aa)(nd:aa)(ds:aq)(st:ah):Prop:=st.2.2.2.2.1=1/\st.2.2.2.2.2.2.1=nd/\st.2.2.2.1=ds/\n7 e r0 st/\(e.S.length:Int)<=st.2.1
theorem n8.s{q:Bool}{e:cg}{r0:aa}{nd:aa}{ds:aq}{st:ah}(h:n8 e r0 nd ds st):iG q e r0 nd ds st:= .inl h
theorem n8.mono{e:cg}{r0 r1:aa}{nd:aa}{ds:aq}{st:ah}(h:n8 e r0 nd ds st)(ad:r0<:+r1):n8 e r1 nd ds st:=⟨h.1,h.2.1,h.2.2.1,h.2.2.2.1.mono ad,h.2.2.2.2⟩
theorem FX{e:cg}{pd:aq}{tr:Bool}{x:aa}(h:cC e [] pd)(b:x.length<=100):∃a,g_ (e.st [] pd tr) x=some a/\n8 e [] (cP [] pd x).1 (cP [] pd x).2 a:=by
 have aB:=h.jS;have c:=h.b0;have hl:=A3 x [] pd;simp only[DE] at hl aB;have d:=tK pd;refine⟨(e.S,az e.S [],e.ne,(cP [] pd x).2,1,0,(cP [] pd x).1,[],tr),?_,rfl,rfl,rfl,⟨rfl,u9 (az e.S []),?_,?_,?_⟩,?_⟩
 ·unfold g_ a_ cg.st;simp only[bA,aK];rw[C_ _ _ _ _ _ _ _ _ _ _ (by omega) (by grind) (by omega),aP rfl]
 ·grind[az,iu]
 ·grind
 ·simp
 simp[az,iu,u9]
theorem xy{e:cg}{r1 r0 nd:aa}{ds:aq}{st:ah}{nm x:aa}(h:n8 e r1 nd ds st)(ad:r1<:+r0)(h0:r0<:+e.S)(y:nm=[]\/r1.length<r0.length)(z:nd.length+et ds+x.length<=100*e.S.length+1000)(di:e.S.length<=1000000)(A:x.length<=1000):
  ∃k,gx st nm x=some k/\n8 e r0 (cP nd ds x).1 (cP nd ds x).2 k:=by
 obtain⟨a,b,c,d,uW,f,g,op,tr⟩:=st;obtain⟨l,m,n,r,i⟩:=h;simp only at l m n i;subst l m n;have hl:=A3 x g d;have o:=ad.length_le;have s:=h0.length_le;have B:az e.S r0<=az e.S r1:=by grind[az]
 have C:=tK d;obtain⟨p,t,u,v,w⟩:=r;simp only at p t u v w;subst p
 have q:∀j,vN (e.S,b,c,d,1,f,g,j,tr) x=some (e.S,b,c,(cP g d x).2,1,f,(cP g d x).1,j,tr):=λj=>C_ _ _ _ _ _ _ _ _ _ _ (by omega) (by omega) (by omega)
 unfold gx a_;simp only[bA,aK];by_cases ax:nm=[]
 ·subst ax;simp only[bA,gW,aR];rw[q,aP rfl];exact⟨_,rfl,rfl,rfl,rfl,⟨rfl,by grind,by grind,by grind,by grind⟩,i⟩
 ·have D:r1.length<r0.length:=by grind
  simp only[ax,bF,e8,aK];rw[b9 (by grind),q,aP rfl];exact⟨_,rfl,rfl,rfl,rfl,⟨rfl,by grind,by grind,by grind,by grind⟩,i⟩
theorem pU{st:ah}{nm x:aa}(h:st.2.2.2.2.1≠1):gx st nm x=some st:=by simp_all[gx,bF,aR]
theorem S9:∀(x nd:aa)(ds:aq),(10:UInt8)∉x->cP nd ds x=(nd++x,ds)
 |[],nd,ds,_=>by simp[cP]
 |b::x,nd,ds,h=>by have a:b≠10:=λc=>h (by grind);simp_all[cP,aS,S9]
theorem S_{q:Bool}{e:cg}{r0 r:aa}{pd:aq}{tr:Bool}{o:Option aa}{nm x:aa}(h:cC e r pd)(h0:r<:+r0)(b:∀q,o=some q->q<:+r)(c:(10:UInt8)∉x)(i:x.length<=r.length+100)(j:r0≠[])(d:∀q,o=some q->q=[]->tr=false):
  bM q e r0 (match o with|some r'=>dw.ok () r' pd|none=> .more [nm] x pd) (λst=>st) (λ_ _ _=>True) (ss (e.st r pd tr) (k4 e.S o) nm x):=by
 cases o with
 |some q=>
  have a:=b q rfl;have ad:¬az e.S q<0:=by have:=eO (a.trans h.sfx);grind[az]
  refine⟨e.st q pd tr,?_,a.trans h0,h.mono a,⟨tr,rfl,d q rfl⟩,trivial⟩;unfold ss;simp only[k4,ad,bF,aR];rfl
 |none=>
  have aB:=h.jS;have k:=h.b0;have l:=tK pd;have m:=eO h.sfx;have hm:g_ (e.st [] pd tr) x=some (e.S,az e.S [],e.ne,pd,1,0,x,[],tr):=by unfold g_ a_ cg.st;simp only[bA,aK];rw[C_ _ _ _ _ _ _ _ _ _ _ (by omega) (by grind) (by omega),aP rfl,S9 _ _ _ c];rfl
  refine⟨(e.S,az e.S [],e.ne,pd,1,0,x,[nm],tr),?_,?_⟩
  ·unfold ss;simp only[k4,show((-1:Int)<0) from by decide,decide_true,cond_true];have f:((e.st r pd tr).1,((e.st r pd tr).1.length:Int),(e.st r pd tr).2.2.1,(e.st r pd tr).2.2.2.1,(e.st r pd tr).2.2.2.2.1,(e.st r pd tr).2.2.2.2.2.1,(e.st r pd tr).2.2.2.2.2.2.1,(e.st r pd tr).2.2.2.2.2.2.2.1,(e.st r pd tr).2.2.2.2.2.2.2.2)=e.st [] pd tr:=by rfl
   rw[f,hm,aP rfl];exact b9 (by simp)
  ·have g:az e.S r0<=az e.S []:=by grind[az,List.length_nil]
   refine .inl ⟨rfl,rfl,rfl,⟨rfl,g,?_,?_,?_⟩,?_⟩
   ·grind[az,iu]
   ·grind
   ·simp
   simp[az,iu,u9]
theorem ZH{q:Bool}{e:cg}{r0 r:aa}{pd:aq}{tr:Bool}{o:Option aa}{x:UInt8}(h:cC e r pd)(h0:r<:+r0)(a:∀q,o=some q->q<:+r)(d:x≠10)(b:r0≠[])(c:∀q,o=some q->q=[]->tr=false):
  bM q e r0 (match o with|some r'=>dw.ok () r' pd|none=> .more [[x]] [x] pd) (λst=>st) (λ_ _ _=>True) (ss (e.st r pd tr) (k4 e.S o) [x] [x]):=
 S_ h h0 a (by grind) (by simp) b c
theorem alL{x0:ah}{i0:Nat}{j:aa->Option ah}(c:i0<=x0.2.2.2.1.length)(h:x0.2.2.2.1.length<=1000000000):∀(n i:Nat)(x:aa),(x0.2.2.2.1.length-i0)-i<n->i<=x0.2.2.2.1.length-i0->x.length+et ((x0.2.2.2.1.drop i0).drop i)<=1000000000->
  fixF (Ij x0 (i0:Int) j) n ((i:Int),x)=j (x++lM ((x0.2.2.2.1.drop i0).drop i)):=by
 have d:b_ x0.2.2.2.1 (i0:Int) (x0.2.2.2.1.length:Int)=x0.2.2.2.1.drop i0:=by simp[b_,GG,GM]
 have e:(x0.2.2.2.1.drop i0).length=x0.2.2.2.1.length-i0:=DD;intro n;induction n with
 |zero=>omega
 |succ n b=>
  intro i x ax a8 l;rw[e5];generalize fixF (Ij x0 (i0:Int) j) n=k at b;unfold Ij;dsimp only;rw[d];generalize x0.2.2.2.1.drop i0=ds at*;by_cases f:i<ds.length
  ·have a:(i:Int)<(ds.length:Int):=by omega
   have aE:=MZ f;have hl:et (ds.drop i)=(at' ds (i:Int)).1.length+1+et (ds.drop (i+1)):=by grind[et,lM]
   simp only[a,bA,aK];rw[b9 ⟨by omega,trivial⟩,b9 (by omega),b9 (by grind)];have g:W ((i:Int)+1)=((i+1:Nat):Int):=by grind[dW]
   rw[g,b (i+1) _ (by omega) (by omega) (by grind),aE];simp[lM]
  ·have a:¬(i:Int)<(ds.length:Int):=by omega
   simp only[a,decide_false,cond_false];grind[List.drop_eq_nil_of_le,lM]
theorem alM{e:cg}{r0:aa}{pd:aq}{tr:Bool}{j:Int->Option ah}(di:e.S.length<=1000000)(p:et pd<=100000000):∀(n i:Nat)(q:aa),pd.length-i<n->i<=pd.length->q<:+e.S->
  match mc (pd.drop i) q with
  | .inl r'=>fixF (Cp (e.st r0 pd tr) j) n ((i:Int),az e.S q)=j (az e.S r')
  | .inr nd=>fixF (Cp (e.st r0 pd tr) j) n ((i:Int),az e.S q)=some (e.S,(e.S.length:Int),e.ne,[],1,0,nd,[[60,60]],false):=by
 have r:=tK pd;intro n;induction n with
 |zero=>omega
 |succ n d=>
  intro i q ax a8 c;rw[e5];generalize fixF (Cp (e.st r0 pd tr) j) n=k at d;unfold Cp a_;dsimp only;have f:(e.st r0 pd tr).1=e.S:=rfl;have g:(e.st r0 pd tr).2.2.2.1=pd:=rfl;rw[f,g];by_cases l:i<pd.length
  ·have a:(i:Int)<(pd.length:Int):=by omega
   have aE:=MZ l;rw[aE];simp only[a,bA,aK];rw[b9 (show 0<=(i:Int)/\True from⟨by omega,trivial⟩),alD di c,aP rfl,dW (x:=(i:Int)+1) (by omega) (by omega)];unfold mc;cases m:nx (at' pd (i:Int)).1 (at' pd (i:Int)).2 q with
   |none=>
    simp only[show((-1:Int)<0) from by decide,bA,aK];rw[b9 (by omega)]
    have:=alL (x0:=e.st r0 pd tr) (i0:=i) (j:=λo=>some (e.S,(e.S.length:Int),(e.st r0 pd tr).2.2.1,[],1,(e.st r0 pd tr).2.2.2.2.2.1,o,([([60,60]:aa)]:bt),false)) a8 (by grind) bC 0 [] (by grind[gi]) (by omega) (by
     show 0+et ((pd.drop i).drop 0)<=_;rw[tW];have:et (pd.drop i)<=et pd:=by have h:=ZB (pd.take i) (pd.drop i);grind[List.take_append_drop]
     omega)
    have h0:(e.st r0 pd tr).2.2.2.2.2.2.1=[]:=rfl;rw[h0];refine Eq.trans this ?_;show some (e.S,(e.S.length:Int),e.ne,([]:aq),(1:Int),(0:Int),[]++lM ((pd.drop i).drop 0),[[60,60]],false)=_;grind
   |some b=>
    have s:b<:+e.S:=((RO _ _ _ q [] b (cX _) m).1).trans c;have h0:¬az e.S b<0:=by grind[eO,az]
    grind
  ·have a:¬(i:Int)<(pd.length:Int):=by omega
   rw[tV (by omega)];simp only[a,bF,aR];rfl
theorem ZI{q:Bool}{e:cg}{t:aa}{pd:aq}{tr:Bool}(h:cC e (10::t) pd):bM q e (10::t) (jj (10::t) pd) (λst=>st) (λ_ _ _=>True) (Au (e.st (10::t) pd tr)):=by
 have aB:=h.jS;have l:=h.b0;have c:t<:+e.S:=d_ h.sfx;have m:=eO c;have a:=alM (e:=e) (r0:=10::t) (pd:=pd) (tr:=tr) (j:=λd=>some (e.S,d,e.ne,[],0,0,[],[],false)) h.b0 (by omega) bC 0 t (by grind[tK,gi]) (by omega) c;rw[tW] at a;have i:W (az e.S (10::t)+1)=az e.S t:=iR h.b0 h.sfx;have g:Au (e.st (10::t) pd tr)=fixF (Cp (e.st (10::t) pd tr) λd=>some (e.S,d,e.ne,[],0,0,[],[],false)) bC ((0:Nat),az e.S t):=by unfold Au a_;show fixF _ bC ((0:Int),W (az e.S (10::t)+1))=_;rw[i];rfl
 unfold jj;simp only;cases b:mc pd t with
 |inl r'=>rw[b] at a;simp only at a⊢;have f:=(vT pd t [] r' b).1;have hl:=f.length_le;refine⟨e.st r' [] false,?_,f.trans (ee 10 t),⟨h.b0,h.nl,h.Jj,f.trans c,by grind[et,lM]⟩,⟨false,rfl,λ_=>rfl⟩,trivial⟩;rw[g];exact a
 |inr nd=>
  rw[b] at a;simp only at a⊢;have k:=S0 pd t nd b;refine⟨_,g.trans a,.inl ⟨rfl,rfl,rfl,⟨rfl,?_,?_,?_,?_⟩,?_⟩⟩
  ·grind[az,o5]
  ·grind
  ·grind[et,lM]
  ·simp
  simp
theorem Ta{t:aa}{pd:aq}{a:Unit}{r1:aa}{b:aq}(h:jj (10::t) pd= .ok a r1 b):r1<:+t/\b=[]:=by
 unfold jj at h;simp only at h;cases c:mc pd t with
 |inl r'=>rw[c] at h;cases h;exact⟨(vT pd t [] _ c).1,rfl⟩
 |inr nd=>grind
theorem FY{e:cg}{r:aa}{pd:aq}{st:ah}(h:cC e r pd)(C:fZ e r pd st):bM true e r (cU r pd) (λst=>st) (λ_ r' _=>bx r'=some r'/\av r'≠ .line) (ow st):=by
 unfold ow a_;have D:st.2.2.2.1=pd/\st.2.2.2.2.2.2.2.1=[]:=by obtain⟨tr,rfl,_⟩:=C;exact⟨rfl,rfl⟩
 rw[D.1,D.2]
 have J:∀(N:Nat)(b:Bool)(r:aa)(pd:aq)(st:ah),r.length+1<N->cC e r pd->fZ e r pd st->bx r=some r->∀r0:aa,r<:+r0->(av r= .line->r.length<=r0.length)->bM true e r0 (cO h9 r0 (if av r= .line then ae jj (λ_=>aW (.inl true)) r pd else .ok (.inr b) r pd)) (λst=>st) (λ_ r' _=>bx r'=some r'/\av r'≠ .line) (fixF (yL λx=>some x) N st):=by
  intro N;induction N with
  |zero=>omega
  |succ N E=>
   intro b r pd st Y s K L r0 F _;rw[e5]
   obtain⟨M,O⟩:∃M,N=M+1:=⟨N-1,by omega⟩
   have v:∀x:ah,(x.2.2.2.2.1≠0\/∃ds,x=e.tt ds)->fixF (yL λx=>some x) N x=some x:=by
    intro x G;rw[O,e5];unfold yL;dsimp only;rcases G with G|⟨ds,rfl⟩
    ·simp_all[bF,cT,ew,cl,aR]
    ·have m:ik (e.tt ds)=some 0:=by rw[xw];exact wb (e:=e) (r:=[]) oK _ _ _ _ _ _ _
     have h0:(e.tt ds).2.2.2.2.1=0:=rfl;rw[show ik ((e.tt ds).1,(e.tt ds).2.1,(e.tt ds).2.2.1,(e.tt ds).2.2.2.1,(e.tt ds).2.2.2.2.1,(e.tt ds).2.2.2.2.2.1,(e.tt ds).2.2.2.2.2.2.1,(e.tt ds).2.2.2.2.2.2.2.1,(e.tt ds).2.2.2.2.2.2.2.2)=some 0 from m];rw[fY,h0];rfl
   generalize Z:fixF (yL λx=>some x) N=k at E v;obtain⟨tr,rfl,P⟩:=K;unfold yL a_;dsimp only;have m:ik ((e.st r pd tr).1,(e.st r pd tr).2.1,(e.st r pd tr).2.2.1,(e.st r pd tr).2.2.2.1,(e.st r pd tr).2.2.2.2.1,(e.st r pd tr).2.2.2.2.2.1,(e.st r pd tr).2.2.2.2.2.2.1,(e.st r pd tr).2.2.2.2.2.2.2.1,(e.st r pd tr).2.2.2.2.2.2.2.2)=some (r.headD 0):=wb s.sfx _ _ _ _ _ _ _;rw[m,fY];have h0:(e.st r pd tr).2.2.2.2.1=0:=rfl;rw[h0];simp only[bA,cD,aK,pR];by_cases hl:av r= .line
   ·rw[bo hl];obtain⟨t,rfl⟩:=vY hl;simp only[zB,bA,aK];refine bM.iF c4.k ((ZI (q:=false) s).mono F) (λ_ r1 d c Q s1 R w _=>?_) (λop nd ds c my H=>?_) (λc p=>?_)
    ·have S:c.2.2.2.2.1=0:=by obtain⟨T,rfl,_⟩:=w;rfl
     have I:c.2.2.2.1=d/\c.2.2.2.2.2.2.2.1=[]:=by obtain⟨T,rfl,_⟩:=w;exact⟨rfl,rfl⟩
     rw[S,I.1,I.2];simp only[bA,aK];have Tc:r1.length<(10::t).length:=by have:=(Ta Q).1.length_le;grind
     have U:r1.length<r0.length:=by grind
     show bM true e r0 (cO h9 r0 (.ok (.inl true) r1 d)) _ _ _;refine bM.inl U ?_;rw[cH];rcases xx R w with⟨f,a,g,i,o,y,j,z⟩|⟨g,i⟩
     ·have A:h9 true r1 d=(if av f= .line then ae jj (λ_=>aW (.inl true)) f d else .ok (.inr true) f d):=by
       by_cases l:av f= .line
       ·obtain⟨u,rfl⟩:=vY l;simp_all[bo,uP]
       simp_all[aS,rM]
      rw[A,i,aP rfl];have B:a=(a.1,a.2.1,a.2.2.1,d,a.2.2.2.2.1,a.2.2.2.2.2.1,a.2.2.2.2.2.2.1,([]:bt),a.2.2.2.2.2.2.2.2):=by obtain⟨V,rfl,_⟩:=o;rfl
      rw[<-B];exact(E true f d a (by grind) y o z r1 j (λ_=>j.length_le)).mono s1
     ·rw[i,aP rfl];have:h9 true r1 d= .more [] (cP [] d []).1 (cP [] d []).2:=dh (iE g);rw[this];refine⟨e.tt d,?_,.inr ⟨rfl,rfl,rfl⟩⟩;exact v (e.tt d) (.inr ⟨d,rfl⟩)
    ·have ad:=H.z.1;refine⟨c,?_,H.up⟩;grind
    ·refine⟨c,?_,p⟩;rw[p.1];simp only[show¬((2:Int)=0) by decide,bF,aR];have:=v c (.inl (by rw[p.1];decide));have W:c=(c.1,c.2.1,c.2.2.1,c.2.2.2.1,2,c.2.2.2.2.2.1,c.2.2.2.2.2.2.1,c.2.2.2.2.2.2.2.1,c.2.2.2.2.2.2.2.2):=by rw[<-p.1]
     grind
   ·rw[aS hl];have X:decide (r.headD 0=10)=false:=by
     cases r with
     |nil=>rfl
     |cons b t=>
      have:b≠10:=by rintro rfl;grind[av]
      grind
    rw[X];simp only[aR];exact⟨_,rfl,F,s,⟨tr,rfl,P⟩,L,hl⟩
 rw[sE,cH];rcases xx h C with⟨f,a,g,i,o,y,j,z⟩|⟨g,i⟩
 ·rw[i,aP rfl];have B:a=(a.1,a.2.1,a.2.2.1,pd,a.2.2.2.2.1,a.2.2.2.2.2.1,a.2.2.2.2.2.2.1,([]:bt),a.2.2.2.2.2.2.2.2):=by obtain⟨V,rfl,_⟩:=o;rfl
  rw[<-B];have A:h9 false r pd=(if av f= .line then ae jj (λ_=>aW (.inl true)) f pd else .ok (.inr false) f pd):=by
   by_cases l:av f= .line
   ·obtain⟨u,rfl⟩:=vY l;rw[bo l,uP g]
   ·rw[aS l,rM g l]
  rw[A];exact J bC false f pd a (by have:=j.length_le;have:=h.b0;have:=eO h.sfx;grind[gi]) y o z r j (λ_=>j.length_le)
 ·rw[i,aP rfl];have:h9 false r pd= .more [] (cP [] pd []).1 (cP [] pd []).2:=dh (iE g);rw[this];refine⟨e.tt pd,?_,.inr ⟨rfl,rfl,rfl⟩⟩
  obtain⟨n,ax⟩:∃n,bC=n+1:=⟨bC-1,by rw[gi]⟩
  dsimp only;rw[ax,e5];unfold yL;dsimp only;have m:ik ((e.tt pd).1,(e.tt pd).2.1,(e.tt pd).2.2.1,pd,(e.tt pd).2.2.2.2.1,(e.tt pd).2.2.2.2.2.1,(e.tt pd).2.2.2.2.2.2.1,[],(e.tt pd).2.2.2.2.2.2.2.2)=some 0:=by have:=wb (e:=e) (r:=[]) oK e.ne 0 0 pd [] [] true;rw[iu] at this;exact this
  rw[m,fY];rfl
def gp(b:UInt8):Bool:=(decide (97<=b)&&decide (b<=122))||decide (b=123)||decide (b=125)||decide (b=33)
def ja(r:aa):aa:=if r.dropWhile gp≠[]/\c3 (r.dropWhile gp)=true then r.takeWhile gp else []
theorem alO(b:UInt8):((b.toNat:Int)=33)↔b=33:=ra (c:=33)
theorem ZJ(b:UInt8):((b.toNat:Int)=125)↔b=125:=ra (c:=125)
theorem alP{e:cg}{x0:ah}{j:Int->Option aa}(d:x0.1=e.S)(di:e.S.length<=1000000):∀(n:Nat)(r:aa),r.length<n->r<:+e.S->fixF (Il x0 j) n (az e.S r)=j (az e.S (r.dropWhile gp)):=by
 intro n;induction n with
 |zero=>omega
 |succ n f=>
  intro r ax c;rw[e5];generalize fixF (Il x0 j) n=k at f;unfold Il;rw[d];cases r with
  |nil=>simp[iu,a9]
  |cons b t=>
   have g:0<=az e.S (b::t)/\az e.S (b::t)<(e.S.length:Int):=hY c;have a:∀p:Prop,(p->0<=az e.S (b::t)/\az e.S (b::t)<(e.S.length:Int)):=λp _=>g
   rw[b9 (a _),b9 (λ_=>a _),b9 (λ_=>a _),b9 (λ_=>a _),b9 (λ_=>a _)];simp only[nc c,bA,aK,jD c,iR di c,SO,SP,CZ,ZJ,alO];have aF:(bif(bif(bif(bif decide (97<=b) then decide (b<=122) else false) then true else decide (b=123)) then true else decide (b=125)) then true else decide (b=33))=gp b:=by simp[gp,decide]
   grind[gp,List.dropWhile_cons_of_pos,List.length_cons,d_,List.dropWhile_cons_of_neg]
theorem wg{e:cg}{r:aa}{pd:aq}{tr:Bool}(h:cC e r pd):lL (e.st r pd tr)=some (ja r):=by
 unfold lL a_;have s:(e.st r pd tr).1=e.S:=rfl;have u:(e.st r pd tr).2.1=az e.S r:=rfl;have hl:=alP (e:=e) (x0:=e.st r pd tr) (j:=λc=>(a9 (((decide (c<(e.S.length:Int)))=true)->0<=c/\c<(e.S.length:Int))<|(cT ((decide (c<(e.S.length:Int)))=true) (As (at' e.S c)) false λ(f:Bool)=>(a9 ((f=false)->((decide (c<(e.S.length:Int)))=true)->0<=c/\c<(e.S.length:Int))<|(cT ((bif f then true else(decide (((at' e.S c).toNat:Int)=(10:Int))))=false/\(decide (c<(e.S.length:Int)))=true) (yH e.S c) [] λ(m:aa)=>(bif(bif(decide (c<(e.S.length:Int))) then(bif(bif f then true else(decide (((at' e.S c).toNat:Int)=(10:Int)))) then true else(!(decide (m=[])))) else false) then(a9 (0<=az e.S r/\az e.S r<=c/\c<=(e.S.length:Int))<|some (b_ e.S (az e.S r) c)) else some ([]))))))) rfl h.b0 bC r (lz (lQ (eO h.sfx) h.b0)) h.sfx;refine Eq.trans hl ?_;have i:r.dropWhile gp<:+r:=List.dropWhile_suffix _;have d:=i.trans h.sfx;have k:0<=az e.S r/\az e.S r<=az e.S (r.dropWhile gp)/\az e.S (r.dropWhile gp)<=(e.S.length:Int):=by have:=i.length_le;have:=eO h.sfx;grind[az]
 have n:b_ e.S (az e.S r) (az e.S (r.dropWhile gp))=r.takeWhile gp:=by rw[I4 h.sfx i];have o:=Ut (p:=gp) (l:=r);generalize r.takeWhile gp=a at*;generalize r.dropWhile gp=b at*;rw[<-o];simp
 unfold ja;cases q:r.dropWhile gp with
 |nil=>simp[iu,a9,cT]
 |cons b t=>
  rw[q] at d k n;have g:=hY d;rw[b9 (λ_=>g)];simp only[nc d,bA,jD d,S7,fY,cD];refine Eq.trans (b9 (λ_ _=>⟨g.1,trivial⟩)) ?_;simp only[S6 h.b0 d,fY,pR,and_true,aK];have v:c3 (b::t)=(ga b||decide (b=10)|| !decide (bs (b::t)=[])):=by show(ga b||(b==10)||(bs (b::t)!=[]))=_;grind
  grind[ga,a9,bs]
theorem M1{b:UInt8}(h:gp b=true):ga b=false/\b≠10/\b≠92/\b≠39/\b≠34/\b≠96/\b≠36/\b≠35/\o2 b=false:=by
 have ad:(97<=b.toNat/\b.toNat<=122)\/b.toNat=123\/b.toNat=125\/b.toNat=33:=by
  unfold gp at h;simp only[Bm,hj,Uv,DH] at h;have a:(97:UInt8).toNat=97:=rfl;have c:(122:UInt8).toNat=122:=rfl;rw[a,c] at h;rcases h with((h|h)|h)|h
  ·omega
  ·simp_all
  ·simp_all
  simp_all
 have d:b=UInt8.ofNat b.toNat:=by simp
 generalize b.toNat=n at*;subst d;have:n=97\/n=98\/n=99\/n=100\/n=101\/n=102\/n=103\/n=104\/n=105\/n=106\/n=107\/n=108\/n=109\/n=110\/n=111\/n=112\/n=113\/n=114\/n=115\/n=116\/n=117\/n=118\/n=119\/n=120\/n=121\/n=122\/n=123\/n=125\/n=33:=by omega
 rcases this with rfl|rfl|rfl|rfl|rfl|rfl|rfl|rfl|rfl|rfl|rfl|rfl|rfl|rfl|rfl|rfl|rfl|rfl|rfl|rfl|rfl|rfl|rfl|rfl|rfl|rfl|rfl|rfl|rfl<;>decide
theorem ZK{b:UInt8}{t:aa}(h:gp b=true):c3 (b::t)=false:=by obtain⟨ad,a,_,_,_,_,_,_,c⟩:=M1 h;show(ga b||b==10||bs (b::t)!=[])=false;grind[oB]
theorem alR{b:UInt8}{t:aa}(h:gp b=true):gb (b::t)=false:=by simp_all[M1,sI]
theorem ZL:∀(r:aa),c3 (r.dropWhile gp)=true->c8 r=(r.takeWhile gp,true)
 |[],_=>by decide
 |b::t,h=>by
  cases a:gp b with
  |true=>rw[Uq a] at h;obtain⟨ad,c,d,e,f,g,i,j,k⟩:=M1 a;unfold c8;simp_all[ZK,aS,alR,ZL,List.takeWhile_cons_of_pos]
  |false=>simp_all[JW,c8,bo,Uu]
theorem Da(b:UInt8)(t:aa):av (b::t)=if b=10 then Tok.line else if bs (b::t)≠[] then .op (bs (b::t)) else .word (c8 (b::t)).1 (c8 (b::t)).2:=rfl
theorem rT{r w:aa}(e:dx r)(i:w≠[])(f:w.all gp=true):ja r=w↔av r= .word w true:=by
 unfold ja;constructor
 ·intro h;split at h
  ·rename_i aF;have aB:=ZL r aF.2;cases r with
   |nil=>simp_all
   |cons b t=>
    have j:gp b=true:=by grind[gp,List.takeWhile_cons_of_neg,absurd]
    simp_all[M1,Da,aS,oB]
  grind
 ·intro h;cases r with
  |nil=>grind[av]
  |cons b t=>
   have aB:c8 (b::t)=(w,true):=by grind[Da,Prod.ext]
   obtain⟨v,a⟩:=(Fo _ _ aB).1;have he:=SG _ _ aB;rw[<-a,pf] at he;have g:v≠[]:=by
    rintro rfl;rw[rl] at a;rcases e with h0|⟨s,h0⟩
    ·cases h0
    grind[gp,List.all_eq_true,absurd]
   have aE:v.dropWhile gp=v/\v.takeWhile gp=[]:=by
    cases v with
    |nil=>simp
    |cons c u=>grind[gp,ZK,List.dropWhile_cons_of_neg,List.takeWhile_cons_of_neg]
   have d:∀x∈w,gp x=true:=oa.1 f
   rw[<-a,List.dropWhile_append_of_pos d,aE.1,bo ⟨g,he⟩,List.takeWhile_append_of_pos d,aE.2,rl]
theorem Jn{r w:aa}(a:dx r)(b:w≠[])(c:w.all gp=true):decide (ja r=w)=cG (av r) w:=by have:=rT a b c;grind[cG,ja,decide_eq_true,decide_eq_false,av]
theorem ZM{r:aa}{L:bt}(a:dx r)(bj:∀w∈L,w≠[]/\w.all gp=true):L.contains (ja r)=(match av r with| .word w true=>L.contains w|_=>false):=by
 rw[Bool.eq_iff_iff];constructor
 ·intro h;have hm:=List.contains_iff_mem.1 h;obtain⟨ad,b⟩:=bj _ hm;have:=(rT a ad b).1 rfl;grind
 grind[av,List.contains_iff_mem,rT]
theorem alS{r:aa}(a:dx r):q4 (ja r)=(match av r with| .word w true=>q4 w|_=>false):=by unfold q4;exact ZM a (by decide)
theorem alT{r:aa}(a:dx r):rK (ja r)=(match av r with| .word w true=>rK w|_=>false):=by unfold rK;exact ZM a (by decide)
theorem mQ{r o:aa}(a:o≠[]):av r= .op o↔bs r=o:=by
 constructor
 ·intro h;exact(iq h).1.symm
 ·intro h;cases r with
  |nil=>simp_all[bs,lq,xS,List.isPrefixOf,absurd]
  |cons b t=>
   have c:b≠10:=by rintro rfl;rw[oB (by decide)] at h;grind
   simp_all[Da,aS,bo]
theorem ZN{r:aa}(a:dx r):(decide (bs r=[40])||q4 (ja r))=hG (av r):=by rw[alS a];grind[hG,bs,mQ,av,decide_eq_false]
theorem alU{e:cg}{x0:ah}{j:Int->Option Bool}(c:x0.1=e.S)(di:e.S.length<=1000000):∀(n:Nat)(r:aa),r.length<n->r<:+e.S->fixF (Io x0 j) n (az e.S r)=j (az e.S (r.dropWhile cd)):=by
 intro n;induction n with
 |zero=>omega
 |succ n d=>
  intro r ax a;rw[e5];generalize fixF (Io x0 j) n=k at d;unfold Io;rw[c];cases r with
  |nil=>simp[iu,a9]
  |cons b t=>
   have g:=hY a;rw[b9 (λ_=>g),b9 (λ_=>g)];simp only[nc a,bA,aK,jD a,iR di a,SQ,SR];have aF:(bif decide (48<=b) then decide (b<=57) else false)=cd b:=by simp[cd,decide]
   grind[cd,List.dropWhile_cons_of_pos,List.length_cons,d_,List.dropWhile_cons_of_neg]
theorem Td{e:cg}{r:aa}{pd:aq}{tr:Bool}(h:cC e r pd):Aw (e.st r pd tr)=some (decide (r.dropWhile cd≠r)&&e2 (bs (r.dropWhile cd))):=by
 unfold Aw a_;have b:r.dropWhile cd<:+r:=List.dropWhile_suffix _;have hl:=alU (e:=e) (x0:=e.st r pd tr) (j:=λa=>cT ((decide (az e.S r<a))=true) (yH e.S a) [] λ(c:aa)=>(cT ((decide (az e.S r<a))=true) (vP c) false λ(d:Bool)=>some (bif(decide (az e.S r<a)) then d else false))) rfl h.b0 bC r (lz (lQ (eO h.sfx) h.b0)) h.sfx;refine Eq.trans hl ?_;rw[S6 h.b0 (b.trans h.sfx),fY];have g:decide (az e.S r<az e.S (r.dropWhile cd))=decide (r.dropWhile cd≠r):=by
  by_cases f:r.dropWhile cd=r
  ·grind
  ·have:(r.dropWhile cd).length<r.length:=by
    rcases s0 (r.dropWhile cd).length r.length with ad|ad
    ·exact ad
    ·exact absurd (b.eq_of_length (Nat.le_antisymm b.length_le ad)) f
   grind[az,cd]
 grind[FV,fY,decide,cd]
theorem M3(r:aa):(e2 (bs r)||(decide (r.dropWhile cd≠r)&&e2 (bs (r.dropWhile cd))))=e2 (bs (r.dropWhile cd)):=by
 by_cases h:r.dropWhile cd=r
 ·grind
 ·have h0:bs r=[]:=by
   cases r with
   |nil=>simp_all
   |cons b t=>
    cases a:cd b with
    |true=>simp_all[oB,AX]
    |false=>simp_all
  simp_all[e2]
theorem Te{e:cg}{r:aa}{pd:aq}{tr:Bool}(h:cC e r pd)(k:Nat)(hk:k<=1000):tm (e.st r pd tr) k=some ((r.drop k).headD 0):=by
 unfold tm;have hl:=eO h.sfx;have g:=h.b0;have ad:(e.st r pd tr).2.1=az e.S r:=rfl;have c:(e.st r pd tr).1=e.S:=rfl;have aB:0<=az e.S r/\az e.S r<=(e.S.length:Int):=by grind[az]
 have d:W (az e.S r+(k:Int))=az e.S r+k:=dW (by omega) (by omega);rw[ad,c,d];by_cases i:k<r.length
 ·have a:r.drop k<:+e.S:=(lP k r).trans h.sfx;have f:az e.S r+(k:Int)=az e.S (r.drop k):=by grind[az,List.length_drop]
  rw[f];cases aE:r.drop k with
  |nil=>grind
  |cons b t=>rw[aE] at a;simp only[nc a,bA,aK];simp_all[b9,hY,trivial,trans,jD]
 grind[az,List.drop_eq_nil_of_le]
theorem sN{α β b:Type}{m:Option α}{f:α->Option β}{g:β->Option b}:aw (aw m f) g=aw m (λa=>aw (f a) g):=by cases m<;>rfl
theorem Tf{α β:Type}{b:Bool}{x y:Option α}{g:α->Option β}:aw (bif b then x else y) g=bif b then aw x g else aw y g:=by grind
theorem n9{α β:Type}{a:α}{g:α->Option β}:aw (some a) g=g a:=rfl
theorem ZO{R:bk}{a b:aa}:∀(n:Nat)(x:ah),fixF (w_ R λst=>aw (gx st a b) λy=>some y) n x=aw (fixF (w_ R λst=>some st) n x) λst=>gx st a b
 |0,x=>rfl
 |n+1,x=>by
  rw[e5,e5];have c:=ZO (R:=R) (a:=a) (b:=b) n;generalize fixF (w_ R λst=>aw (gx st a b) λy=>some y) n=o at c;generalize fixF (w_ R λst=>some st) n=p at c;obtain⟨e,f,g,i,d,j,k,l,m⟩:=x;unfold w_ a_;dsimp only;by_cases h:d=0
  ·subst h;simp only[bA,aK,sN,Tf,c,n9];rfl
  ·simp only[h,bF,aR,n9];cases gx (e,f,g,i,d,j,k,l,m) a b<;>rfl
theorem ZP{R:bk}{a b:aa}:∀(n:Nat)(x:ah),fixF (xe R λst=>aw (gx st a b) λy=>some y) n x=aw (fixF (xe R λst=>some st) n x) λst=>gx st a b
 |0,x=>rfl
 |n+1,x=>by
  rw[e5,e5];have c:=ZP (R:=R) (a:=a) (b:=b) n;generalize fixF (xe R λst=>aw (gx st a b) λy=>some y) n=o at c;generalize fixF (xe R λst=>some st) n=p at c;obtain⟨e,f,g,i,d,j,k,l,m⟩:=x;unfold xe a_;dsimp only;by_cases h:d=0
  ·subst h;simp only[bA,aK,sN,Tf,c,n9];rfl
  ·simp only[h,bF,aR,n9];cases gx (e,f,g,i,d,j,k,l,m) a b<;>rfl
theorem cC.za{e:cg}{b:UInt8}{t:aa}{pd:aq}(h:cC e (b::t) pd)(a:b≠10):t≠[]:=by
 rintro rfl;have:=h.nl.ia h.sfx;rcases this with ad|⟨s,ad⟩
 ·cases ad
 ·have:=mj List.getLast? ad;grind
theorem dx.last{t:aa}(h:dx t)(a:t≠[]){x:aa}{b:UInt8}(he:t=x++[b]):b=10:=by
 rcases h with ad|⟨s,ad⟩
 ·grind
 simp_all
theorem alV:∀(n:Nat)(r q:aa),r.length<=n->g4 r=some q->∃x,r=x++96::q:=by
 intro n;induction n with
 |zero=>simp_all[nH,Nat.le_zero,g4]
 |succ n d=>
  intro r q ax h;cases r with
  |nil=>grind
  |cons b t=>
   unfold g4 at h;split at h
   ·simp_all
   ·split at h
    ·cases t with
     |nil=>cases h
     |cons c u=>obtain⟨x,a⟩:=d u q (by simp only[mA] at ax;omega) h;exact⟨b::c::x,by rw[a];rfl⟩
    ·obtain⟨x,a⟩:=d t q (by simp only[mA] at ax;omega) h;exact⟨b::x,by rw[a];rfl⟩
theorem ZQ:∀(r q:aa),gd r=some q->∃x,r=x++39::q
 |[],q,h=>by grind[gd]
 |b::t,q,h=>by
  unfold gd at h;split at h
  ·rename_i a;cases h;subst a;exact⟨[],rfl⟩
  ·obtain⟨x,c⟩:=ZQ t q h;exact⟨b::x,by rw[c];rfl⟩
theorem Tg{t x q:aa}{c:UInt8}(aF:c≠10)(h:dx t)(he:t=x++c::q):q≠[]:=by rintro rfl;exact aF (h.last (by simp_all) he)
structure kC(R:bk)(n:Nat):Prop where
 im:∀(e:cg),e.ne=30- (n:Int)->∀(t:aa)(pd:aq)(tr:Bool),cC e (36::t) pd->bM false e (36::t) (ba true n (36::t) pd) (λst=>st) (λ_ _ _=>True) (R.vu (e.st (36::t) pd tr))
theorem FZ{e:cg}{r0 r:aa}{pd:aq}{f:Unit->ak (Unit⊕Unit)}{part:ak Unit}{y:Option ah}{β:Type}{pr:β->ah}{cv:Unit->aa->β->Prop}{k:ah->Option β}
  (hm:bM false e r0 (part r pd) (λst=>st) (λ_ _ _=>True) y) (hl:∀a r' c,part r pd= .ok a r' c->r'.length<r.length)
  (hk:∀r' c g,r'<:+r0->cC e r' c->r'.length<r.length->fZ e r' c g->bM false e r0 (cb f () r' c) pr cv (k g))
  (h:∀x,x.2.2.2.2.1≠0->∃b,k x=some b/\pr b=x):
  bM false e r0 (cO f r (ae part (λ_=>aW (.inl ())) r pd)) pr cv (aw y k):=by
 refine bM.iF c4.k hm (λa r1 i d j s1 l m _=>?_) (λop nd ds d _ n=>?_) (λd o=>?_)
 ·have:=hl a r1 i j;exact bM.inl this (hk r1 i d s1 l this m)
 ·obtain⟨b,p,q⟩:=h d (by rw[n.z.1];decide);grind
 ·obtain⟨b,p,q⟩:=h d (by rw[o.1];decide);grind
theorem Th{e:cg}{t:aa}{pd:aq}{tr:Bool}(h:cC e (92::t) pd):w9 (e.st (92::t) pd tr)=some (e.st (t.drop 1) pd tr):=by
 have b:=h.za (by decide);cases t with
 |nil=>grind
 |cons c u=>
  have a:W (az e.S (92::c::u)+2)=az e.S u:=kB (w:=[92,c]) h.b0 h.sfx;unfold w9;have ad:(e.st (92::c::u) pd tr).2.1=az e.S (92::c::u):=rfl;rw[ad,a];have:¬((e.st (92::c::u) pd tr).1.length:Int)<az e.S u:=by have:= @o5 u e.S;show¬(e.S.length:Int)<az e.S u;omega
  simp only[this,bF,aR];rfl
theorem Ti{e:cg}{t r0:aa}{pd:aq}{tr:Bool}(h:cC e (96::t) pd)(h0:96::t<:+r0):bM false e r0 (jx g4 [96] t pd) (λst=>st) (λ_ _ _=>True) (aw (Ax e.S (W (az e.S (96::t)+1))) λy=>ss (e.st (96::t) pd tr) y [96] [96]):=by rw[iR h.b0 h.sfx,alz h.b0 (d_ h.sfx),aP rfl];unfold jx;have b:=(h.nl.ia h.sfx).tail;refine ZH h h0 (λq a=>(Fx _ _ q (cX _) a).trans (ee _ _)) (by decide) (by grind) λq a c=>?_;obtain⟨x,d⟩:=alV _ _ _ (cX _) a;grind[absurd,Tg]
theorem ZR{e:cg}{t r0:aa}{pd:aq}{tr:Bool}(h:cC e (39::t) pd)(h0:39::t<:+r0):bM false e r0 (jx gd [39] t pd) (λst=>st) (λ_ _ _=>True) (aw (Cs e.S (W (az e.S (39::t)+1))) λy=>ss (e.st (39::t) pd tr) y [39] [39]):=by rw[iR h.b0 h.sfx,alx h.b0 (d_ h.sfx),aP rfl];unfold jx;have b:=(h.nl.ia h.sfx).tail;refine ZH h h0 (λq a=>(AR _ q a).trans (ee _ _)) (by decide) (by grind) λq a c=>?_;grind[ZQ,absurd,Tg]
theorem Jo(fr:Bool)(n:Nat){t:aa}{pd:aq}(h:gb (36::t)=false):ba fr n (36::t) pd= .ok () t pd:=by rw[FR];unfold dM;rw[sI] at h;grind
theorem Tj(fr:Bool)(n:Nat){t:aa}{pd:aq}{a:Unit}{r':aa}{b:aq}(h:ba fr n (36::t) pd= .ok a r' b):r'.length<(36::t).length:=by
 cases c:gb (36::t) with
 |true=>exact(mi fr n).lt c h
 |false=>grind[Jo]
theorem Db(fr:Bool)(n:Nat)(dq:Option (ak Unit))(t:aa)(pd:aq):cE (ba fr n) dq (36::t) pd=ba fr n (36::t) pd:=by
 unfold cE;simp only;rw[aS (by decide),aS (by decide)];cases a:gb (36::t) with
 |true=>simp
 |false=>grind[Jo]
theorem F0{D:ak Unit}{dq:Option (ak Unit)}{b:UInt8}{t:aa}{pd:aq}(a:b≠92)(c:b≠96)(d:b≠36)(e:dq=none\/(b≠39/\b≠34)):cE D dq (b::t) pd= .ok () t pd:=by
 unfold cE;simp only;have f:gb (b::t)=false:=by grind[sI]
 grind
section
variable{R:bk}{n:Nat}(hD:kC R n){e:cg}(bc:e.ne=30- (n:Int))
include hD bc
theorem alW{r:aa}{pd:aq}{tr:Bool}(h:cC e r pd):bM false e r (jk 34 (cE (ba true n) none) r pd) (λst=>st) (λ_ _ _=>True) (fixF (w_ R λst=>some st) bC (e.st r pd tr)):=by
 unfold jk;refine bM.rep (en:=λ_ r pd x=>∃tr,x=e.st r pd tr) (λk s r pd x c l L hk=>?_) bC () r pd _ (we h) h ⟨tr,rfl⟩;obtain⟨tr,rfl⟩:=l
 have E:∀x:ah,x.2.2.2.2.1≠0->k x=some x:=by intro x l;obtain⟨k',ad⟩:=L x;simp_all[w_]
 have F:∀x:ah,x.2.2.2.2.1≠0->∃b,k x=some b/\b=x:=λx l=>⟨x,E x l,rfl⟩
 have G:∀r' d m,r'<:+r->cC e r' d->r'.length<r.length->fZ e r' d m->bM false e r (cb (λ_ r pd=>match r with
  |[]=>b7 [] r pd
  |b::t=>if b=34 then .ok (.inr ()) t pd else(ae (cE (ba true n) none) λ_=>aW (.inl ())) r pd) () r' d) (λst=>st) (λ_ _ _=>True) (k m):=λr' d m M a2 a3 N=>hk () r' d m M a2 a3 (by obtain⟨tr,ad,_⟩:=N;grind)
 unfold w_ a_ cg.st;dsimp only;simp only[bA,aK];rw[wa,aP rfl];cases r with
 |nil=>
  simp only[bA,aK];obtain⟨o,O,H⟩:=FX (tr:=tr) (x:=[]) c (by simp);have P:g_ (e.S,az e.S [],e.ne,pd,0,0,[],[],tr) []=some o:=O;rw[P,aP rfl];refine⟨o,?_,?_⟩
  ·exact E o (by rw[H.1];decide)
  ·exact H.s
 |cons b t=>
  have j:t<:+b::t:=ee b t;have I:=iR c.b0 c.sfx;simp only[reduceCtorEq,bF,aR];have Q:∀p u v w y z A,ik (e.S,az e.S (b::t),p,w,u,v,y,z,A)=some b:=λp u v w y z A=>wb c.sfx p u v w y z A
  rw[Q];simp only[n9,n4,mM,n3,qw,I];by_cases J:b=34
  ·subst J;simp only[bA,aK,cD];exact⟨_,rfl,j,c.mono j,⟨tr,rfl,λS=>absurd S (c.za (by decide))⟩,trivial⟩
  simp only[J,bF,aR,cl];by_cases B:b=92
  ·subst B;simp only[bA,aK];have aB:w9 (e.S,az e.S (92::t),e.ne,pd,0,0,[],[],tr)=some (e.st (t.drop 1) pd tr):=Th c;rw[aB,aP rfl];have aE:t.drop 1<:+92::t:=(lP 1 t).trans j;have hl:(t.drop 1).length<(92::t).length:=by grind
   have i:ae (cE (ba true n) none) (λ_=>(aW (.inl ()):ak (Unit⊕Unit))) (92::t) pd= .ok (.inl ()) (t.drop 1) pd:=by rfl
   rw[i];exact bM.inl hl (hk () _ pd _ aE (c.mono aE) hl ⟨tr,rfl⟩)
  simp only[B,bF,aR];by_cases C:b=96
  ·subst C;simp only[bA,aK];have i:cE (ba true n) none (96::t) pd=jx g4 [96] t pd:=by rfl
   have:=FZ (f:=λ_ r pd=>match r with
    |[]=>b7 [] r pd
    |b::t=>if b=34 then .ok (.inr ()) t pd else(ae (cE (ba true n) none) λ_=>aW (.inl ())) r pd) (part:=cE (ba true n) none) (r:=96::t) (pd:=pd) (pr:=λst=>st) (cv:=λ_ _ _=>True) (k:=k) (by rw[i];exact Ti (tr:=tr) c fQ) (λa r' d g=>by
     rw[i] at g;unfold jx at g;cases K:g4 t with
     |none=>grind
     |some q=>rw[K] at g;cases g;have:=(Fx _ _ _ (cX _) K).length_le;grind) G F
   rw[I,sN] at this;exact this
  simp only[C,bF,aR];by_cases D:b=36
  ·subst D;simp only[bA,aK];exact FZ (part:=cE (ba true n) none) (by rw[Db];exact hD.im e bc t pd tr c) (λa r' d g=>by rw[Db] at g;exact Tj true n g) G F
  ·simp only[D,bF,aR];have i:ae (cE (ba true n) none) (λ_=>(aW (.inl ()):ak (Unit⊕Unit))) (b::t) pd= .ok (.inl ()) t pd:=by unfold ae;rw[F0 B C D (.inl rfl)];rfl
   rw[i];exact bM.inl (by simp) (hk () _ pd _ j (c.mono j) (by simp) ⟨tr,rfl⟩)
theorem ZS{t r0:aa}{pd:aq}{tr:Bool}(h:cC e (34::t) pd)(h0:34::t<:+r0)(j:r0<:+e.S):bM false e r0 (eN (ba true n) t pd) (λst=>st) (λ_ _ _=>True) (ES R (e.st (34::t) pd tr)):=by
 have k:=iR h.b0 h.sfx;have d:t<:+34::t:=ee 34 t;have g:=h.mono d;unfold ES a_;have l:((e.st (34::t) pd tr).1,W ((e.st (34::t) pd tr).2.1+1),(e.st (34::t) pd tr).2.2.1,(e.st (34::t) pd tr).2.2.2.1,(e.st (34::t) pd tr).2.2.2.2.1,(e.st (34::t) pd tr).2.2.2.2.2.1,(e.st (34::t) pd tr).2.2.2.2.2.2.1,(e.st (34::t) pd tr).2.2.2.2.2.2.2.1,(e.st (34::t) pd tr).2.2.2.2.2.2.2.2)=e.st t pd tr:=by show(e.S,W (az e.S (34::t)+1),e.ne,pd,(0:Int),(0:Int),([]:aa),([]:bt),tr)=_;rw[k];rfl
 rw[l];have m:=ZO (R:=R) (a:=[34]) (b:=[34]) bC (e.st t pd tr);refine bM.dX ?_ m;obtain⟨f,o,c⟩:=alW hD bc (tr:=tr) g;rw[o,aP rfl];unfold eN ak.named ak.aM;have i:=aI.CV (n:=11) (aI.part (xo true n▸(tJ true n).dl) (dq:=none) (λq h=>by cases h)) 34 t pd;cases hm:jk 34 (cE (ba true n) none) t pd with
 |ok a r1 v=>rw[hm] at c;obtain⟨p,a2,a3,_⟩:=c;refine⟨f,pU ?_,p.trans (d.trans h0),a2,a3,trivial⟩;obtain⟨w,rfl,_⟩:=a3;show(0:Int)≠1;decide
 |more op nd ds=>rw[hm] at c i;simp only[ea] at i;have aB:=g.jS;obtain⟨r,s,u⟩:=xy (nm:=[34]) (x:=[34]) (r0:=r0) (r1:=t) c.z (d.trans h0) j (.inr (by grind)) (by grind) h.b0 (by simp);exact⟨r,s,u.s⟩
 |bad q=>rw[hm] at c;exact⟨f,pU (by rw[c.1];decide),iS.mono c (d.trans h0)⟩
 |deep q=>rw[hm] at c;exact⟨f,pU (by rw[c.1];decide),iS.mono c (d.trans h0)⟩
theorem alX{r:aa}{pd:aq}{tr:Bool}(h:cC e r pd):bM false e r (jk 125 (cE (ba true n) (some (eN (ba true n)))) r pd) (λst=>st) (λ_ _ _=>True) (fixF (xe R λst=>some st) bC (e.st r pd tr)):=by
 unfold jk;refine bM.rep (en:=λ_ r pd x=>∃tr,x=e.st r pd tr) (λk s r pd x d m N hk=>?_) bC () r pd _ (we h) h ⟨tr,rfl⟩;obtain⟨tr,rfl⟩:=m
 have K:∀x:ah,x.2.2.2.2.1≠0->k x=some x:=by intro x m;obtain⟨k',ad⟩:=N x;rw[ad];unfold xe;grind
 have o:∀x:ah,x.2.2.2.2.1≠0->∃b,k x=some b/\b=x:=λx m=>⟨x,K x m,rfl⟩
 have p:∀r' i u,r'<:+r->cC e r' i->r'.length<r.length->fZ e r' i u->bM false e r (cb (λ_ r pd=>match r with
  |[]=>b7 [] r pd
  |b::t=>if b=125 then .ok (.inr ()) t pd else(ae (cE (ba true n) (some (eN (ba true n)))) λ_=>aW (.inl ())) r pd) () r' i) (λst=>st) (λ_ _ _=>True) (k u):=λr' i u O a2 a3 P=>hk () r' i u O a2 a3 (by obtain⟨tr,ad,_⟩:=P;grind)
 unfold xe a_ cg.st;dsimp only;simp only[bA,aK];rw[wa,aP rfl];cases r with
 |nil=>
  simp only[bA,aK];obtain⟨v,Q,L⟩:=FX (tr:=tr) (x:=[]) d (by simp);have S:g_ (e.S,az e.S [],e.ne,pd,0,0,[],[],tr) []=some v:=Q;rw[S,aP rfl];refine⟨v,?_,?_⟩
  ·exact K v (by rw[L.1];decide)
  ·exact L.s
 |cons b t=>
  have j:t<:+b::t:=ee b t;have w:=iR d.b0 d.sfx;simp only[reduceCtorEq,bF,aR];have T:∀y z A B C D E,ik (e.S,az e.S (b::t),y,B,z,A,C,D,E)=some b:=λy z A B C D E=>wb d.sfx y z A B C D E
  rw[T];simp only[n9,n4,mM,n3,qw,q_,ZJ,w];by_cases M:b=125
  ·subst M;simp only[bA,aK,cD];exact⟨_,rfl,j,d.mono j,⟨tr,rfl,λU=>absurd U (d.za (by decide))⟩,trivial⟩
  simp only[M,bF,aR,cl];by_cases F:b=92
  ·subst F;simp only[bA,aK];have aB:w9 (e.S,az e.S (92::t),e.ne,pd,0,0,[],[],tr)=some (e.st (t.drop 1) pd tr):=Th d;rw[aB,aP rfl];have aE:t.drop 1<:+92::t:=(lP 1 t).trans j;have hl:(t.drop 1).length<(92::t).length:=by grind
   have g:ae (cE (ba true n) (some (eN (ba true n)))) (λ_=>(aW (.inl ()):ak (Unit⊕Unit))) (92::t) pd= .ok (.inl ()) (t.drop 1) pd:=by rfl
   rw[g];exact bM.inl hl (hk () _ pd _ aE (d.mono aE) hl ⟨tr,rfl⟩)
  simp only[F,bF,aR];by_cases G:b=39
  ·subst G;simp only[bA,aK];have g:cE (ba true n) (some (eN (ba true n))) (39::t) pd=jx gd [39] t pd:=by rfl
   have:=FZ (f:=λ_ r pd=>match r with
    |[]=>b7 [] r pd
    |b::t=>if b=125 then .ok (.inr ()) t pd else(ae (cE (ba true n) (some (eN (ba true n)))) λ_=>aW (.inl ())) r pd) (part:=cE (ba true n) (some (eN (ba true n)))) (r:=39::t) (pd:=pd) (pr:=λst=>st) (cv:=λ_ _ _=>True) (k:=k) (by rw[g];exact ZR (tr:=tr) d fQ) (λa r' i c=>by
     rw[g] at c;unfold jx at c;cases l:gd t with
     |none=>grind
     |some q=>rw[l] at c;cases c;have:=(AR _ _ l).length_le;grind) p o
   rw[w,sN] at this;exact this
  simp only[G,bF,aR];by_cases H:b=34
  ·subst H;simp only[bA,aK];have g:cE (ba true n) (some (eN (ba true n))) (34::t) pd=eN (ba true n) t pd:=by rfl
   refine FZ (part:=cE (ba true n) (some (eN (ba true n)))) (by rw[g];exact ZS hD bc d fQ d.sfx) (λa r' i c=>?_) p o;rw[g] at c;have:=((ar.double (mi true n)).sfx c).length_le;grind
  simp only[H,bF,aR];by_cases I:b=96
  ·subst I;simp only[bA,aK];have g:cE (ba true n) (some (eN (ba true n))) (96::t) pd=jx g4 [96] t pd:=by rfl
   have:=FZ (f:=λ_ r pd=>match r with
    |[]=>b7 [] r pd
    |b::t=>if b=125 then .ok (.inr ()) t pd else(ae (cE (ba true n) (some (eN (ba true n)))) λ_=>aW (.inl ())) r pd) (part:=cE (ba true n) (some (eN (ba true n)))) (r:=96::t) (pd:=pd) (pr:=λst=>st) (cv:=λ_ _ _=>True) (k:=k) (by rw[g];exact Ti (tr:=tr) d fQ) (λa r' i c=>by
     rw[g] at c;unfold jx at c;cases l:g4 t with
     |none=>grind
     |some q=>rw[l] at c;cases c;have:=(Fx _ _ _ (cX _) l).length_le;grind) p o
   rw[w,sN] at this;exact this
  simp only[I,bF,aR];by_cases J:b=36
  ·subst J;simp only[bA,aK];exact FZ (part:=cE (ba true n) (some (eN (ba true n)))) (by rw[Db];exact hD.im e bc t pd tr d) (λa r' i c=>by rw[Db] at c;exact Tj true n c) p o
  ·simp only[J,bF,aR];have g:ae (cE (ba true n) (some (eN (ba true n)))) (λ_=>(aW (.inl ()):ak (Unit⊕Unit))) (b::t) pd= .ok (.inl ()) t pd:=by unfold ae;rw[F0 F I J (.inr ⟨G,H⟩)];rfl
   rw[g];exact bM.inl (by simp) (hk () _ pd _ j (d.mono j) (by simp) ⟨tr,rfl⟩)
end
def jA:Ctx->aa
 | .text=>[]| .paren=>[41]| .item=>[59,59]|_=>[119]
def o6:Ctx->bt
 | .q5=>[[125]]| .rL=>[iX]| .qo=>[il,hR,fe]| .jY=>[fe]| .pM=>[gU]| .done=>[iO]|_=>[]
def xz:Ctx->Bool->Bool
 | .text,_=>false
 | .paren,_=>true
 | .item,no=>no
 |_,no=> !no
structure oG(R:bk)(n:Nat):Prop where
 im:∀(e:cg)(c:Ctx)(no:Bool),xz c no=true->e.ne=30- (n:Int)->∀(r:aa)(pd:aq)(st:ah),cC e r pd->fZ e r pd st->bM false e r ((a1 true n).ls c no r pd) (λb=>b.2) (λa _ b=>b.1=(a:Int)) (R.nP st (jA c) (o6 c) (!no))
def cg.up(e:cg):cg:=⟨e.S,e.ne+1⟩
theorem n7.tM{e:cg}{r:aa}{st:ah}(h:n7 e.up r st):n7 e r st:=⟨h.s,h.lo,h.a8,h.nd,h.op⟩
theorem cC.xA{e:cg}{r:aa}{pd:aq}(h:cC e r pd):cC e.up r pd:=⟨h.b0,h.nl,h.Jj,h.sfx,h.jS⟩
theorem cC.tM{e:cg}{r:aa}{pd:aq}(h:cC e.up r pd):cC e r pd:=⟨h.b0,h.nl,h.Jj,h.sfx,h.jS⟩
theorem pW{e:cg}{r r0:aa}{pd:aq}{tr:Bool}(p:Int)(h:cC e r pd)(h0:r<:+r0):∃st,hq (e.st r pd tr) p=some st/\iS e r0 st:=by
 refine⟨_,rfl,rfl,rfl,?_,?_,?_,?_⟩
 ·show az e.S r0<=az e.S r;grind[az]
 ·show az e.S r<=_;have:= @o5 r e.S;omega
 ·show([]:aa).length+et pd<=_;have:=h.jS;grind
 ·show([]:bt).length<=_;simp
theorem alY{j:aa->Option ah}{a:(Int×aa)->Option ah}(x:aa):E9 j a (0,x)=j x:=rfl
theorem alZ{j:aa->Option ah}{a:(Int×aa)->Option ah}(k:Nat)(x:aa)(c:x.length+k<=100000000):E9 j a (((k+1:Nat):Int),x)=a ((k:Int),x++[41]):=by
 unfold E9;dsimp only;have h0:(0:Int)<((k+1:Nat):Int):=by omega
 have b:W (((k+1:Nat):Int)-1)=(k:Int):=by grind[dW]
 rw[decide_eq_true h0,aK,b9 (by grind),b]
theorem ZU{j:aa->Option ah}:∀(n k:Nat)(x:aa),k<n->x.length+k<=100000000->fixF (E9 j) n ((k:Int),x)=j (x++List.replicate k 41):=by
 intro n;induction n with
 |zero=>omega
 |succ n a=>
  intro k x h b;rw[e5];cases k with
  |zero=>simp[alY,trans,List.replicate_zero,List.append_nil]
  |succ k=>grind[alZ,List.length_append,List.length_singleton,List.append_assoc]
def zb(st:ah):ah:=(st.1,W (st.2.1+1),W (st.2.2.1-1),st.2.2.2.1,st.2.2.2.2.1,st.2.2.2.2.2.1,st.2.2.2.2.2.2.1,st.2.2.2.2.2.2.2.1,st.2.2.2.2.2.2.2.2)
def sO(st:ah):ah:=(st.1,st.2.1,W (st.2.2.1-1),st.2.2.2.1,st.2.2.2.2.1,st.2.2.2.2.2.1,st.2.2.2.2.2.2.1,st.2.2.2.2.2.2.2.1,st.2.2.2.2.2.2.2.2)
theorem n7.zb{e:cg}{r1 r0:aa}{st:ah}(h:n7 e r1 st)(ad:r1<:+r0)(h0:r0<:+e.S)(hl:r1.length<r0.length)(f:e.S.length<=1000000):n7 e r0 (zb st):=by
 have a:=h.lo;have b:=h.a8;have g:=eO h0;have i:0<=az e.S r1:=by grind[az]
 have c:az e.S r0<=az e.S r1:=by grind[az]
 have d:W (st.2.1+1)=st.2.1+1:=dW (by omega) (by omega);refine⟨h.s,?_,?_,h.nd,?_⟩
 ·show _<=W (st.2.1+1);omega
 ·show W (st.2.1+1)<=_;omega
 ·have:=h.op;show st.2.2.2.2.2.2.2.1.length<=_;omega
theorem al2{e:cg}{r1:aa}{st:ah}(h:n7 e r1 st)(a:r1<:+e.S)(d:e.S.length<=1000000)(hl:(e.S.length:Int)<=st.2.1):(e.S.length:Int)<=(zb st).2.1:=by have b:=h.a8;have f:=eO a;have c:W (st.2.1+1)=st.2.1+1:=dW (by omega) (by omega);show _<=W (st.2.1+1);omega
theorem n7.sO{e:cg}{r0:aa}{st:ah}(h:n7 e r0 st):n7 e r0 (sO st):=⟨h.s,h.lo,h.a8,h.nd,h.op⟩
theorem Tk{α:Type}{m:ak α}{x n r:aa}{pd:aq}{a:α}{r1:aa}{b:aq}(h:m r pd= .ok a r1 b):((m.aM x).named n) r pd= .ok a r1 b:=by grind[ak.named,ak.aM]
theorem Tl{α:Type}{m:ak α}{x n r:aa}{pd:aq}{op:bt}{nd:aa}{ds:aq}(h:m r pd= .more op nd ds):((m.aM x).named n) r pd= .more (n::op) (cP nd ds x).1 (cP nd ds x).2:=by grind[ak.named,ak.aM]
theorem ZW{α:Type}{m:ak α}{x n r q:aa}{pd:aq}(h:m r pd= .bad q):((m.aM x).named n) r pd= .bad q:=by grind[ak.named,ak.aM]
theorem ZX{α:Type}{m:ak α}{x n r q:aa}{pd:aq}(h:m r pd= .deep q):((m.aM x).named n) r pd= .deep q:=by grind[ak.named,ak.aM]
theorem jV{α β:Type}{m:ak α}{k:α->ak β}{r q:aa}{pd:aq}(h:m r pd= .deep q):ae m k r pd= .deep q:=by grind[ae]
section
variable{R:bk}{n:Nat}(gL:∀m,n=m+1->kC R m/\oG R m)(ax:n<=30){e:cg}(bc:e.ne=30- (n:Int))
include gL ax bc
theorem al3{t:aa}{pd:aq}{tr:Bool}(h:cC e (36::t) pd):bM false e (36::t) (ba true n (36::t) pd) (λst=>st) (λ_ _ _=>True) (IG R (e.st (36::t) pd tr)):=by
 have D:t<:+36::t:=ee 36 t;have bO:=iR h.b0 h.sfx;have tD:=h.za (by decide);have M0:tm (e.st (36::t) pd tr) 1=some (t.headD 0):=Te h 1 (by decide);have I:tm (e.st (36::t) pd tr) 2=some ((t.drop 1).headD 0):=Te h 2 (by decide);unfold IG;rw[M0];simp only[n9,CY,CZ];rw[I,fY];cases t with
 |nil=>grind
 |cons c u=>
  simp only[zB,GJ,tW];have M5:c::u<:+e.S:=d_ h.sfx;have z:u<:+36::c::u:=(ee c u).trans D;by_cases aF:c=40
  ·subst aF;simp only[bA,cD,aK];have jL:u≠[]:=(h.mono D).za (by decide);cases u with
   |nil=>grind
   |cons d v=>
    simp only[zB];by_cases aE:d=40
    ·
     subst aE;simp only[bA,aK];have l5:W (az e.S (36::40::40::v)+3)=az e.S v:=kB (w:=[36,40,40]) h.b0 h.sfx;have l:v<:+36::40::40::v:=gY [36,40,40] v;have aB:ba true n (36::40::40::v) pd=nz v pd:=by rw[FR];rfl
     rw[aB];have ad:(e.st (36::40::40::v) pd tr).1=e.S:=rfl;have af:(e.st (36::40::40::v) pd tr).2.1=az e.S (36::40::40::v):=rfl;rw[ad,af,l5,alC h.b0 (l.trans h.sfx),aP rfl];unfold nz a_;cases ag:hQ 0 v with
     |bad q=>simp only[qx,show(decide ((-2:Int)= -2))=true from rfl,aK];obtain⟨st,g,f⟩:=pW (tr:=tr) (az e.S q) h fQ;rw[g,aP rfl];exact⟨_,rfl,f.1,f.2.s,f.2.lo,f.2.a8,by have:=f.2.nd;have i:=h.jS;cases g;omega,by cases g;exact f.2.op⟩
     |ok q=>
      have E:=AP 0 v q ag;have hl:=eO (E.trans (l.trans h.sfx));have h0:¬az e.S q= -2:=by grind[az]
      simp only[qx,h0,bF,aR];have i_:(0:Int)=((0:Nat):Int):=rfl;rw[i_,ZU bC 0 [] (by simp[gi]) (by simp)]
      have:=S_ (q:=false) (tr:=tr) (o:=some q) (nm:=[36,40,40]) (x:=[]) h fQ (λJ F=>by grind) (by simp) (by simp) (by simp) (λJ F lN=>by
       cases F;exfalso;have dI:=(h.nl.ia h.sfx).ia l
       have:∃x,v=x++41::q:=by
        have:∀(r:aa)(d:Nat)(q:aa),hQ d r= .ok q->∃x,r=x++41::q:=by
         intro r;induction r with
         |nil=>simp[hQ]
         |cons b t aY=>
          intro d q i;unfold hQ at i;split at i
          ·cases i
          ·split at i
           ·grind
           ·split at i
            ·split at i
             ·grind
             ·split at i
              ·cases i
              ·split at i
               ·rename_i arT _ K;cases i;subst K;exact⟨[b],rfl⟩
               grind
            grind
        grind
       grind[Tg])
      simp only[k4] at this;obtain⟨st,g,f⟩:=this;simp only[List.replicate_zero,rl];rw[g,aP rfl];exact⟨st,rfl,f⟩
     |more k=>have hk:=aI.S2 v 0 k ag;have hl:=eO (l.trans h.sfx);have hb:=h.b0;simp only[qx,show(decide ((-1:Int)= -2))=false from rfl,aR];rw[ZU bC k [] (by grind[gi]) (by grind)];have:=S_ (q:=false) (tr:=tr) (o:=none) (nm:=[36,40,40]) (x:=List.replicate k 41) h List.suffix_rfl (λJ F=>by grind) (by simp) (by grind) (by simp) (λJ F=>by grind);simp only[k4] at this;obtain⟨st,g,f⟩:=this;simp only[sY];rw[g,aP rfl];exact⟨st,rfl,f⟩
    ·
     simp only[aE,bF,aR];unfold a_ yM;have G:¬([36,40,40]:aa).isPrefixOf (36::40::d::v)=true:=by grind
     cases n with
     |zero=>
      have p:decide (30<=(e.st (36::40::d::v) pd tr).2.2.1)=true:=by show decide (30<=e.ne)=true;grind
      rw[p];have aB:ba true 0 (36::40::d::v) pd= .deep (36::40::d::v):=by rw[FR];unfold dM;rw[aS G,bo (by simp)];rfl
      rw[aB];obtain⟨st,g,f⟩:=pW (tr:=tr) ((e.st (36::40::d::v) pd tr).2.1) h fQ;simp only[aK,sN];rw[g,aP rfl,aP rfl];exact⟨_,rfl,by cases g;exact f⟩
     |succ m=>
      obtain⟨M6,tH⟩:=gL m rfl;have p:decide (30<=(e.st (36::40::d::v) pd tr).2.2.1)=false:=by show decide (30<=e.ne)=false;grind
      rw[p];simp only[aR,n9,aK];have L:e.ne=(e.st (36::40::d::v) pd tr).2.2.1:=rfl;rw[<-L];have M:W (e.ne+1)=e.ne+1:=dW (by omega) (by omega);have N:W ((e.st (36::40::d::v) pd tr).2.1+2)=az e.S (d::v):=kB (w:=[36,40]) h.b0 h.sfx;rw[M,N];have l:d::v<:+36::40::d::v:=z;have A:=(h.mono l).xA;have O:d::v≠[]:=by simp
      have hl:=tH.im e.up .paren true rfl (by show e.ne+1=_;omega) (d::v) pd (e.up.st (d::v) pd tr) A ⟨tr,rfl,λi=>absurd i O⟩;have aB:ba true (m+1) (36::40::d::v) pd=uK (a1 true m) (d::v) pd:=by rw[FR];unfold dM jz;rw[aS G,bo (by simp)];rfl
      rw[aB];have P:((e.st (36::40::d::v) pd tr).1,az e.S (d::v),e.ne+1,(e.st (36::40::d::v) pd tr).2.2.2.1,(e.st (36::40::d::v) pd tr).2.2.2.2.1,(e.st (36::40::d::v) pd tr).2.2.2.2.2.1,(e.st (36::40::d::v) pd tr).2.2.2.2.2.2.1,(e.st (36::40::d::v) pd tr).2.2.2.2.2.2.2.1,(e.st (36::40::d::v) pd tr).2.2.2.2.2.2.2.2)=e.up.st (d::v) pd tr:=rfl;rw[P];obtain⟨b,g,f⟩:=hl;have wi:R.nP (e.up.st (d::v) pd tr) [41] [] false=some b:=g;rw[wi,aP rfl];unfold uK;have B:=(tJ true m).ls .paren true (d::v) pd;have kb:(d::v).length<(40::d::v).length:=by simp
      have hv:(40::d::v).length<(36::40::d::v).length:=by simp
      cases hk:(a1 true m).ls .paren true (d::v) pd with
      |ok a r1 C=>
       rw[hk] at f;obtain⟨Q,a2,⟨s,a3,bP⟩,e3⟩:=f;dsimp only at a3;rw[aZ (Tk hk)];obtain⟨ao,e7⟩:=A0 true m;rw[e7] at hk;obtain⟨g8,lG⟩:=y4 (by simp) hk;have gM:av r1= .op [41]:=by grind[dT]
       rw[FJ g8 gM];obtain⟨q,rfl⟩:=(iq gM).2.1;rw[pf];have j:gx b.2 [36,40] [41]=some b.2:=pU (by rw[a3];show(0:Int)≠1;decide);rw[j,aP rfl,a3];have E:q<:+[41]++q:=gY [41] q;have kP:W (az e.S ([41]++q)+1)=az e.S q:=kB (w:=[41]) h.b0 a2.sfx;have lN:q≠[]:=a2.za (by decide);have rq:=(a2.tM.mono E);refine⟨e.st q C s,?_,E.trans (Q.trans l),rq,⟨s,rfl,λi=>absurd i lN⟩,trivial⟩;show some (e.S,W (az e.S ([41]++q)+1),W (e.ne+1-1),C,(0:Int),(0:Int),([]:aa),([]:bt),s)=_;rw[kP,dW (by omega) (by omega)];have:e.ne+1-1=e.ne:=by omega
       rw[this];rfl
      |more op nd ds=>rw[hk] at f B;simp only[ea] at B;have S:=A.jS;have T:e.up.S=e.S:=rfl;rw[T] at S;obtain⟨U,V,X,Y,Z⟩:=f.z;obtain⟨aQ,al,bh⟩:=xy (e:=e) (nm:=[36,40]) (x:=[41]) (r1:=d::v) (r0:=40::d::v) (nd:=nd) (ds:=ds) ⟨U,V,X,Y.tM,Z⟩ (ee _ _) M5 (.inr kb) (by grind) h.b0 (by simp);rw[al,aP rfl,dh (Tl hk)];obtain⟨rh,fp,cW,H,lY⟩:=bh;exact⟨zb aQ,rfl,.inl ⟨rh,fp,cW,H.zb (ee _ _) h.sfx hv h.b0,al2 H M5 h.b0 lY⟩⟩
      |bad q=>rw[hk] at f;have j:gx b.2 [36,40] [41]=some b.2:=pU (by rw[f.1];decide);rw[j,aP rfl,g5 (ZW hk)];exact⟨zb b.2,rfl,f.1,f.2.tM.zb l h.sfx (by simp) h.b0⟩
      |deep q=>rw[hk] at f;have j:gx b.2 [36,40] [41]=some b.2:=pU (by rw[f.1];decide);rw[j,aP rfl,jV (ZX hk)];exact⟨zb b.2,rfl,f.1,f.2.tM.zb l h.sfx (by simp) h.b0⟩
  ·simp only[aF,bF,aR,ew,cl];by_cases ye:c=123
   ·
    subst ye;simp only[bA,aK];unfold a_ yM;have G:¬([36,40,40]:aa).isPrefixOf (36::123::u)=true:=by simp
    have al7:¬([36,40]:aa).isPrefixOf (36::123::u)=true:=by simp
    cases n with
    |zero=>
     have p:decide (30<=(e.st (36::123::u) pd tr).2.2.1)=true:=by show decide (30<=e.ne)=true;grind
     rw[p];have aB:ba true 0 (36::123::u) pd= .deep (36::123::u):=by rfl
     rw[aB];obtain⟨st,g,f⟩:=pW (tr:=tr) ((e.st (36::123::u) pd tr).2.1) h fQ;simp only[aK,sN];rw[g,aP rfl,aP rfl];exact⟨_,rfl,by cases g;exact f⟩
    |succ m=>
     obtain⟨M6,tH⟩:=gL m rfl;have p:decide (30<=(e.st (36::123::u) pd tr).2.2.1)=false:=by show decide (30<=e.ne)=false;grind
     rw[p];simp only[aR,n9,aK];have L:e.ne=(e.st (36::123::u) pd tr).2.2.1:=rfl;rw[<-L];have M:W (e.ne+1)=e.ne+1:=dW (by omega) (by omega);rw[M];have P:((e.st (36::123::u) pd tr).1,(e.st (36::123::u) pd tr).2.1,e.ne+1,(e.st (36::123::u) pd tr).2.2.2.1,(e.st (36::123::u) pd tr).2.2.2.2.1,(e.st (36::123::u) pd tr).2.2.2.2.2.1,(e.st (36::123::u) pd tr).2.2.2.2.2.2.1,(e.st (36::123::u) pd tr).2.2.2.2.2.2.2.1,(e.st (36::123::u) pd tr).2.2.2.2.2.2.2.2)=e.up.st (36::123::u) pd tr:=rfl;rw[P];have aB:ba true (m+1) (36::123::u) pd=((q3 (ba true m)).named [36,123]) u pd:=by rw[FR];unfold dM jz;rw[aS G,aS al7,bo (by simp)];show((a1 true m).pm.named [36,123]) u pd=_;rw[YF]
     rw[aB];unfold L3 a_;have N:W ((e.up.st (36::123::u) pd tr).2.1+2)=az e.S u:=kB (w:=[36,123]) h.b0 h.sfx;have Ja:((e.up.st (36::123::u) pd tr).1,W ((e.up.st (36::123::u) pd tr).2.1+2),(e.up.st (36::123::u) pd tr).2.2.1,(e.up.st (36::123::u) pd tr).2.2.2.1,(e.up.st (36::123::u) pd tr).2.2.2.2.1,(e.up.st (36::123::u) pd tr).2.2.2.2.2.1,(e.up.st (36::123::u) pd tr).2.2.2.2.2.2.1,(e.up.st (36::123::u) pd tr).2.2.2.2.2.2.2.1,(e.up.st (36::123::u) pd tr).2.2.2.2.2.2.2.2)=e.up.st u pd tr:=by rw[N];rfl
     rw[Ja];have M4:=ZP (R:=R) (a:=[36,123]) (b:=[125]) bC (e.up.st u pd tr);have A:=(h.mono z).xA;obtain⟨b,g,f⟩:=alX M6 (e:=e.up) (by show e.ne+1=_;omega) (tr:=tr) A;rw[g,aP rfl] at M4;refine bM.dX ?_ (mj (λy=>aw y _) M4);unfold q3;have B:=aI.CV (n:=11) (aI.y0 (xo true m▸(tJ true m).dl)) 125 u pd;have kb:u.length<(123::u).length:=by simp
     have hv:(123::u).length<(36::123::u).length:=by simp
     cases hk:jk 125 (cE (ba true m) (some (eN (ba true m)))) u pd with
     |ok a r1 C=>
      rw[hk] at f;obtain⟨Q,a2,⟨s,a3,bP⟩,e3⟩:=f;dsimp only at a3;rw[Tk hk];have j:gx b [36,123] [125]=some b:=pU (by rw[a3];show(0:Int)≠1;decide);rw[j,aP rfl,a3];refine⟨e.st r1 C s,?_,Q.trans z,a2.tM,⟨s,rfl,bP⟩,trivial⟩;show some (e.S,az e.S r1,W (e.ne+1-1),C,(0:Int),(0:Int),([]:aa),([]:bt),s)=_;rw[dW (by omega) (by omega)];have:e.ne+1-1=e.ne:=by omega
      rw[this];rfl
     |more op nd ds=>rw[hk] at f B;simp only[ea] at B;have S:=A.jS;have T:e.up.S=e.S:=rfl;rw[T] at S;obtain⟨U,V,X,Y,Z⟩:=f.z;obtain⟨aQ,al,bh⟩:=xy (e:=e) (nm:=[36,123]) (x:=[125]) (r1:=u) (r0:=36::123::u) (nd:=nd) (ds:=ds) ⟨U,V,X,Y.tM,Z⟩ z h.sfx (.inr (by omega)) (by grind) h.b0 (by simp);rw[al,aP rfl,Tl hk];obtain⟨rh,fp,cW,H,lY⟩:=bh;exact⟨sO aQ,rfl,.inl ⟨rh,fp,cW,H.sO,lY⟩⟩
     |bad q=>rw[hk] at f;have j:gx b [36,123] [125]=some b:=pU (by rw[f.1];decide);rw[j,aP rfl,ZW hk];exact⟨sO b,rfl,f.1,(f.2.tM.mono z).sO⟩
     |deep q=>rw[hk] at f;have j:gx b [36,123] [125]=some b:=pU (by rw[f.1];decide);rw[j,aP rfl,ZX hk];exact⟨sO b,rfl,f.1,(f.2.tM.mono z).sO⟩
   ·
    simp only[ye,bF,aR];have aN:gb (36::c::u)=false:=by grind[sI]
    rw[Jo true n aN];refine⟨e.st (c::u) pd tr,?_,D,h.mono D,⟨tr,rfl,λi=>absurd i (by simp)⟩,trivial⟩;show some (e.S,W (az e.S (36::c::u)+1),e.ne,pd,(0:Int),(0:Int),([]:aa),([]:bt),tr)=_;rw[bO];rfl
end
structure tN(r0:aa)(f:Bool)(r1:aa):Prop where
 sfx:r1<:+r0
 t:f=true->(c8 r0).2=(c8 r1).2/\((c8 r1).2=true->(c8 r0).1=r0.take (r0.length-r1.length)++(c8 r1).1)
 f:f=false->(c8 r0).2=false
theorem tN.start(r:aa):tN r true r:=⟨fQ,λ_=>⟨rfl,λ_=>by simp⟩,λh=>by cases h⟩
theorem Tm{b:UInt8}{t:aa}(a:c3 (b::t)=false)(h:b=92\/b=39\/b=34\/b=96\/gb (b::t)=true):c8 (b::t)=([],false):=by simp_all[c8]
theorem al8{b:UInt8}{t:aa}(a:c3 (b::t)=false)(h:¬(b=92\/b=39\/b=34\/b=96\/gb (b::t)=true)):(c8 (b::t)).2=(c8 t).2/\((c8 t).2=true->(c8 (b::t)).1=b::(c8 t).1):=by
 have h0:c8 (b::t)=(match c8 t with|(w,true)=>(b::w,true)|(_,false)=>([],false)):=by rw[c8,a,aS (by simp),aS h];grind
 grind
theorem tN.al9{r0:aa}{f:Bool}{b:UInt8}{t r':aa}(a8:tN r0 f (b::t))(a:c3 (b::t)=false)(h:b=92\/b=39\/b=34\/b=96\/gb (b::t)=true)(c:r'<:+r0):tN r0 false r':=by
 refine⟨c,(λd=>by cases d),λ_=>?_⟩;cases f with
 |true=>rw[(a8.t rfl).1,Tm a h]
 |false=>exact a8.f rfl
theorem tN.byte{r0:aa}{f:Bool}{b:UInt8}{t:aa}(a8:tN r0 f (b::t))(c:c3 (b::t)=false)(h:¬(b=92\/b=39\/b=34\/b=96\/gb (b::t)=true)):tN r0 f t:=by
 have a:=a8.sfx;refine⟨(ee b t).trans a,λhf=>?_,a8.f⟩;obtain⟨ad,d⟩:=a8.t hf;obtain⟨g,e⟩:=al8 c h;refine⟨by grind,λaB=>?_⟩;rw[d (by grind),e aB];obtain⟨u,rfl⟩:=a;have i:(u++b::t).length- (b::t).length=u.length:=by simp
 have j:(u++b::t).length-t.length=(u++[b]).length:=by grind
 grind
theorem ZY{α β b:Type}{g:Prop}[Decidable g]{m:Option α}{d:α}{k:α->Option β}{G:β->Option b}:aw (cT g m d k) G=cT g m d (λa=>aw (k a) G):=by grind[cT,sN]
theorem ZZ{R:bk}{j:Bool×ah->Option (aa×Bool×ah)}:∀(n:Nat)(x:Bool×ah),fixF (xa R j) n x=aw (fixF (xa R λx=>some ([],x.1,x.2)) n x) λy=>j (y.2.1,y.2.2)
 |0,x=>rfl
 |n+1,x=>by
  rw[e5,e5];have a:=ZZ (R:=R) (j:=j) n;generalize fixF (xa R j) n=c at a;generalize fixF (xa R λx=>some ([],x.1,x.2)) n=d at a;obtain⟨f,e,g,i,k,b,l,m,o,p⟩:=x;unfold xa a_;dsimp only;by_cases h:b=0
  ·subst h;simp only[bA,aK,sN,Tf,ZY,a,n9]
  simp_all[n9]
theorem Tn{R:bk}{e:cg}{r0:aa}{pd:aq}{tr:Bool}{b:aa×Bool×ah}(h:cC e r0 pd)(j:b.2.2.1=e.S)(d:qm R (e.st r0 pd tr)=some b):b.1.length<=e.S.length/\((e.S.length:Int)<=b.2.2.2.1->b.1=r0):=by
 unfold qm a_ at d;dsimp only at d;rw[ZZ] at d;cases l:fixF (xa R λx=>some ([],x.1,x.2)) bC (true,(e.st r0 pd tr).1,(e.st r0 pd tr).2.1,(e.st r0 pd tr).2.2.1,(e.st r0 pd tr).2.2.2.1,(e.st r0 pd tr).2.2.2.2.1,(e.st r0 pd tr).2.2.2.2.2.1,(e.st r0 pd tr).2.2.2.2.2.2.1,(e.st r0 pd tr).2.2.2.2.2.2.2.1,(e.st r0 pd tr).2.2.2.2.2.2.2.2) with
 |none=>rw[l] at d;cases d
 |some y=>
  rw[l,aP rfl] at d;obtain⟨v,f,g,k,m,n,o,p,q,r,s⟩:=y;dsimp only at d
  have t:∀(i:Int),a9 (0<=(e.st r0 pd tr).2.1/\(e.st r0 pd tr).2.1<=i/\i<=(g.length:Int)) (some (b_ g (e.st r0 pd tr).2.1 i,f,(g,k,m,n,o,p,q,r,s)))=some b->b=(b_ g (az e.S r0) i,f,(g,k,m,n,o,p,q,r,s)):=by
   intro i bf;unfold a9 at bf;split at bf
   ·cases bf;rfl
   grind
  have u:∀(a c:Int),(b_ g a c).length<=g.length:=by intro a c;unfold b_;grind
  by_cases aF:(g.length:Int)<k
  ·simp only[aF,bA,aK] at d;have:=t _ d;subst this;dsimp only at j⊢;subst j;exact⟨u _ _,λ_=>Mw h.sfx⟩
  ·simp only[aF,bF,aR] at d;have:=t _ d;subst this;dsimp only at j⊢;subst j;refine⟨u _ _,λhle=>?_⟩;have:k=(e.S.length:Int):=by omega
   rw[this];exact Mw h.sfx
section
variable{R:bk}{n:Nat}(hD:kC R n){e:cg}(bc:e.ne=30- (n:Int))
include hD bc
theorem F3{r0:aa}{J:aq}{tr0:Bool}(h:cC e r0 J):bM false e r0 (cQ (ba true n) r0 J) (λb=>b.2.2) (λ_ r' b=>b.1=r0.take (r0.length-r'.length)/\b.2.1=(c8 r0).2/\(b.2.1=true->b.1=(c8 r0).1)) (qm R (e.st r0 J tr0)):=by
 unfold qm a_ cQ;have al_:=eO h.sfx;have ni:=h.b0;have ZV:0<=az e.S r0:=by grind[az]
 refine bM.rep (en:=λ_ r pd (x:Bool×ah)=>∃tr,x.2=e.st r pd tr/\tN r0 x.1 r) (λk s r pd x c D mO hk=>?_) bC () r0 J _ (we h) h ⟨tr0,rfl,tN.start r0⟩;obtain⟨f,x⟩:=x;obtain⟨tr,D,a8⟩:=D;dsimp only at D a8;subst D;have Z4:=a8.sfx;have N:az e.S r0<=az e.S r:=by grind[az]
 have j_:∀(g:Bool)(st:ah),st.1=e.S->az e.S r0<=st.2.1->∃w,(bif decide ((st.1.length:Int)<st.2.1) then a9 (0<=az e.S r0/\az e.S r0<=(st.1.length:Int)/\(st.1.length:Int)<=(st.1.length:Int)) (some (b_ st.1 (az e.S r0) (st.1.length:Int),g,st))
   else a9 (0<=az e.S r0/\az e.S r0<=st.2.1/\st.2.1<=(st.1.length:Int)) (some (b_ st.1 (az e.S r0) st.2.1,g,st)))=some (w,g,st):=by
  intro g st ad F;by_cases aF:(st.1.length:Int)<st.2.1
  ·simp_all[b9,o5]
  ·simp only[aF,bF,aR];simp_all[b9]
 have gg:∀(x:Bool×ah),x.2.2.2.2.2.1≠0->x.2.1=e.S->az e.S r0<=x.2.2.1->∃w,k x=some (w,x.1,x.2):=by intro x D ad F;obtain⟨k',h3⟩:=mO x;rw[h3];unfold xa;dsimp only;simp only[D,bF,aR];exact j_ x.1 x.2 ad F
 unfold xa a_ cg.st;dsimp only;simp only[bA,aK];rw[wa,aP rfl];cases r with
 |nil=>simp only[bA,aK];obtain⟨E,a4,O⟩:=FX (tr:=tr) (x:=[]) c (by simp);have tL:g_ (e.S,az e.S [],e.ne,pd,0,0,[],[],tr) []=some E:=a4;rw[tL,aP rfl];obtain⟨w,l⟩:=j_ f E O.2.2.2.1.s (by have:=O.2.2.2.1.lo;omega);exact⟨_,l,O.s⟩
 |cons b t=>
  have m:t<:+b::t:=ee b t;have bO:=iR c.b0 c.sfx;simp only[reduceCtorEq,bF,aR];have nj:∀o p u v z A B,ik (e.S,az e.S (b::t),o,v,p,u,z,A,B)=some b:=λo p u v z A B=>wb c.sfx o p u v z A B
  have P:∀o p u v z A B,hF (e.S,az e.S (b::t),o,v,p,u,z,A,B)=some (bs (b::t)):=λo p u v z A B=>Jk c.b0 c.sfx o p u v z A B
  rw[nj];simp only[n9,S7,pR];rw[P,fY];have oA:(bif(bif ga b then true else decide (b=10)) then true else(!decide ((if(bif ga b then true else decide (b=10))=false then bs (b::t) else [])=[])))=c3 (b::t):=by show _=(ga b||(b==10)||(bs (b::t)!=[]));grind
  rw[oA];by_cases l:c3 (b::t)=true
  ·rw[bo l,l];simp only[aK];have Q:¬(e.S.length:Int)<az e.S (b::t):=by simp[o5]
   simp only[Q,bF,aR];rw[b9 ⟨ZV,N,o5⟩];have gu:=I4 h.sfx Z4;refine⟨_,rfl,fQ,c,⟨tr,rfl,λhh=>by cases hh⟩,gu,?_,?_⟩
   ·cases f with
    |true=>rw[(a8.t rfl).1];unfold c8;grind
    |false=>exact(a8.f rfl).symm
   ·intro hf;have Hd:f=true:=hf;have:=(a8.t Hd).2 (by unfold c8;grind);rw[this];show b_ e.S (az e.S r0) (az e.S (b::t))=_;rw[gu];have aB:(c8 (b::t)).1=[]:=by unfold c8;grind
    grind
  have L:c3 (b::t)=false:=by grind
  rw[aS l,L];simp only[aR,n4,mM,n3,qw,q_];have sd:∀(g:Bool),(∀r',r'<:+t->tN r0 g r')->∀r' d E,r'<:+t->cC e r' d->fZ e r' d E->bM false e (b::t) (cb (λ_ r pd=>match r with
    |[]=>b7 [] r pd
    |_::_=>if c3 r then .ok (.inr ()) r pd else(ae (cE (ba true n) (some (eN (ba true n)))) λ_=>aW (.inl ())) r pd) () r' d) (λb=>b.2.2) (λ_ r' b=>b.1=r0.take (r0.length-r'.length)/\b.2.1=(c8 r0).2/\(b.2.1=true->b.1=(c8 r0).1)) (k (g,E)):=by
   intro g bf r' d E S a2 a3;obtain⟨wc,rfl,_⟩:=a3;exact hk () r' d (g,e.st r' d wc) (S.trans m) a2 (by grind) ⟨wc,rfl,bf r' S⟩
  have M:∀(g:Bool)(y:Option ah)(K:ah->Option (aa×Bool×ah)),(∀r',r'<:+t->tN r0 g r')->bM false e (b::t) (cE (ba true n) (some (eN (ba true n))) (b::t) pd) (λst=>st) (λ_ _ _=>True) y->(∀a r' d,cE (ba true n) (some (eN (ba true n))) (b::t) pd= .ok a r' d->r'<:+t)->(∀st,K st=k (g,st))->
    bM false e (b::t) (cO (λ_ r pd=>match r with|[]=>b7 [] r pd|_::_=>if c3 r then .ok (.inr ()) r pd else(ae (cE (ba true n) (some (eN (ba true n)))) λ_=>aW (.inl ())) r pd) (b::t) (ae (cE (ba true n) (some (eN (ba true n)))) (λ_=>aW (.inl ())) (b::t) pd)) (λb=>b.2.2) (λ_ r' b=>b.1=r0.take (r0.length-r'.length)/\b.2.1=(c8 r0).2/\(b.2.1=true->b.1=(c8 r0).1)) (aw y K):=by
   intro g y K bf T hc lE
   have Z5:∀st:ah,st.2.2.2.2.1≠0->n7 e (b::t) st->∃w,K st=some (w,g,st):=by intro st ad F;rw[lE];exact gg (g,st) ad F.s (by have:=F.lo;grind)
   refine bM.iF c4.k T (λa r1 aH C i s1 v1 gT _=>?_) (λop nd ds C _ fS=>?_) (λC dc=>?_)
   ·have G:=hc a r1 aH i;rw[lE];exact bM.inl (by grind) (sd g bf r1 aH C G v1 gT)
   ·obtain⟨w,l⟩:=Z5 C (by rw[fS.z.1];decide) fS.z.2.2.2.1;grind
   ·obtain⟨w,l⟩:=Z5 C (by rw[dc.1];decide) dc.2;grind
  have H:(b=92\/b=39\/b=34\/b=96\/gb (b::t)=true)->∀r',r'<:+t->tN r0 false r':=λG r' xr=>a8.al9 L G (xr.trans (m.trans Z4))
  by_cases U:b=92
  ·subst U;simp only[bA,aK];have aB:w9 (e.S,az e.S (92::t),e.ne,pd,0,0,[],[],tr)=some (e.st (t.drop 1) pd tr):=Th c;rw[aB,aP rfl];have aE:t.drop 1<:+t:=lP 1 t;have hl:(t.drop 1).length<(92::t).length:=by grind
   have j:ae (cE (ba true n) (some (eN (ba true n)))) (λ_=>(aW (.inl ()):ak (Unit⊕Unit))) (92::t) pd= .ok (.inl ()) (t.drop 1) pd:=by rfl
   rw[j];exact bM.inl hl (hk () _ pd (false,e.st (t.drop 1) pd tr) (aE.trans m) (c.mono (aE.trans m)) hl ⟨tr,rfl,H (.inl rfl) _ aE⟩)
  simp only[U,bF,aR];by_cases V:b=39
  ·subst V;simp only[bA,aK];have j:cE (ba true n) (some (eN (ba true n))) (39::t) pd=jx gd [39] t pd:=by rfl
   have:=M false _ (λst=>k (false,st)) (H (.inr (.inl rfl))) (by rw[j];exact ZR (tr:=tr) c fQ) (λa r' d i=>by grind[jx,AR]) (λ_=>rfl)
   rw[sN] at this;exact this
  simp only[V,bF,aR];by_cases W:b=34
  ·subst W;simp only[bA,aK];have j:cE (ba true n) (some (eN (ba true n))) (34::t) pd=eN (ba true n) t pd:=by rfl
   exact M false _ (λst=>k (false,st)) (H (.inr (.inr (.inl rfl)))) (by rw[j];exact ZS hD bc (tr:=tr) c fQ c.sfx) (λa r' d i=>by rw[j] at i;exact(ar.double (mi true n)).sfx i) (λ_=>rfl)
  simp only[W,bF,aR];by_cases X:b=96
  ·subst X;simp only[bA,aK];have j:cE (ba true n) (some (eN (ba true n))) (96::t) pd=jx g4 [96] t pd:=by rfl
   have:=M false _ (λst=>k (false,st)) (H (.inr (.inr (.inr (.inl rfl))))) (by rw[j];exact Ti (tr:=tr) c fQ) (λa r' d i=>by
    rw[j] at i;unfold jx at i;cases aD:g4 t with
    |none=>grind
    |some q=>rw[aD] at i;cases i;exact Fx _ _ _ (cX _) aD) (λ_=>rfl)
   rw[sN] at this;exact this
  simp only[X,bF,aR];by_cases Y:b=36
  ·subst Y;simp only[bA,aK];have M0:tm (e.S,az e.S (36::t),e.ne,pd,0,0,[],[],tr) 1=some (t.headD 0):=Te c 1 (by decide);rw[M0];simp only[n9,fY,CY,CZ];have aN:gb (36::t)=(decide (t.headD 0=40)||decide (t.headD 0=123)):=by grind[sI]
   have IT:∀a r' d,cE (ba true n) (some (eN (ba true n))) (36::t) pd= .ok a r' d->r'<:+t:=by
    intro a r' d i;rw[Db] at i;have G:=((mi true n).ex.sfx i);have hl:=Tj true n i;rcases List.suffix_cons_iff.1 G with ad|ad
    ·grind
    omega
   have mv:=λg bf=>M g (R.vu (e.S,az e.S (36::t),e.ne,pd,0,0,[],[],tr)) (λst=>k (g,st)) bf (by rw[Db];exact hD.im e bc t pd tr c) IT (λ_=>rfl);cases I:gb (36::t) with
   |true=>
    rw[I] at aN;have aF:(bif decide (t.headD 0=40) then true else decide ((if decide (t.headD 0=40)=false then t.headD 0 else 0)=123))=true:=by grind
    rw[aF];exact mv false (H (.inr (.inr (.inr (.inr I)))))
   |false=>
    rw[I] at aN;have fM:decide (t.headD 0=40)=false/\decide (t.headD 0=123)=false:=by grind
    have aF:(bif decide (t.headD 0=40) then true else decide ((if decide (t.headD 0=40)=false then t.headD 0 else 0)=123))=false:=by grind
    rw[aF];simp only[aR];have Z:¬((36:UInt8)=92\/(36:UInt8)=39\/(36:UInt8)=34\/(36:UInt8)=96\/gb (36::t)=true):=by grind
    have jq:=a8.byte L Z;have T:=hD.im e bc t pd tr c;obtain⟨C,bD,aX⟩:=T;have wi:R.vu (e.S,az e.S (36::t),e.ne,pd,0,0,[],[],tr)=some C:=bD;rw[wi,aP rfl];rw[Jo true n I] at aX;obtain⟨S,a2,⟨oF,rfl,bP⟩,_⟩:=aX;have j:ae (cE (ba true n) (some (eN (ba true n)))) (λ_=>(aW (.inl ()):ak (Unit⊕Unit))) (36::t) pd= .ok (.inl ()) t pd:=by unfold ae;rw[Db,Jo true n I];rfl
    rw[j];exact bM.inl (by simp) (hk () _ pd (f,e.st t pd oF) m a2 (by simp) ⟨oF,rfl,jq⟩)
  ·simp only[Y,bF,aR,bO];have j:ae (cE (ba true n) (some (eN (ba true n)))) (λ_=>(aW (.inl ()):ak (Unit⊕Unit))) (b::t) pd= .ok (.inl ()) t pd:=by unfold ae;rw[F0 U X Y (.inr ⟨V,W⟩)];rfl
   have ej:gb (b::t)=false:=by grind[sI]
   rw[j];exact bM.inl (by simp) (hk () _ pd (f,e.st t pd tr) m (c.mono m) (by simp) ⟨tr,rfl,a8.byte L (by grind)⟩)
end
theorem ame{t:aa}(h:gd t=none):dl (t++[39]) 39=some t:=by
 have:=I_ (t++[39]);have c:gd (t++[39])=some []:=by
  induction t with
  |nil=>decide
  |cons b t e=>
   unfold gd at h;by_cases a:b=39
   ·grind
   ·rw[aS a] at h;show(if b=39 then some (t++[39]) else gd (t++[39]))=some [];rw[aS a];grind[I_]
 rw[c] at this;obtain⟨d,ad,f,g⟩:=this;have i:d=t:=by grind
 grind[FK]
theorem amf:∀(n:Nat)(t:aa),t.length<=n->dx t->t≠[]->eE t= .part->∃x c y,t=x++c::y/\(c=36\/c=96)/\(∀v,dl (x++c::v) 34=none)/\
  ∀(D:ak Unit),hU D->∀pd a q g,jk 34 (cE D none) t pd= .ok a q g->q<:+y:=by
 intro n;induction n with
 |zero=>simp
 |succ n w=>
  intro t ax k bc f;cases t with
  |nil=>grind
  |cons b t=>
   have A:t.length<=n:=by grind
   by_cases h:b=34
   ·grind[MI]
   by_cases aB:b=36\/b=96
   ·refine⟨[],b,t,rfl,aB,λv=>MH 34 (.inr rfl) b aB v,λD hD pd a q g e=>?_⟩;unfold jk at e;rw[cH] at e;simp only[aS h] at e;have l:ar (jk 34 (cE D none)):=ar.AO 34 (ar.part hD (by simp)) (mJ.part hD (by simp));cases hm:cE D none (b::t) pd with
    |ok G r1 H=>
     have hl:=(mJ.part hD (dq:=none) (by simp)) (by simp) hm;have B:=(ar.part hD (dq:=none) (by simp)).sfx hm;have C:r1<:+t:=by
      rcases List.suffix_cons_iff.1 B with ad|ad
      ·grind
      omega
     rw[aZ hm] at e;unfold aW cO at e;simp only at e;rw[bo hl] at e;exact(l.sfx e).trans C
    |more op nd ds=>rw[dh hm] at e;cases e
    |bad _=>rw[g5 hm] at e;cases e
    |deep _=>rw[jV hm] at e;cases e
   have i:b≠36/\b≠96:=by grind
   by_cases j:b=92
   ·subst j;have I:t≠[]:=by
     rintro rfl;rcases k with ad|⟨s,ad⟩
     ·cases ad
     ·have:=mj List.getLast? ad;grind
    cases t with
    |nil=>grind
    |cons c u=>
     rw[MJ] at f;have m:eE u= .part:=by cases hu:eE u<;>rw[hu] at f<;>simp[jl.add] at f⊢
     have o:u≠[]:=by rintro rfl;grind[eE]
     obtain⟨x,d,y,ad,p,z,E⟩:=w u (by grind) k.tail.tail o m;refine⟨92::c::x,d,y,by grind,p,λv=>?_,λD hD pd a q g e=>?_⟩
     ·grind[dl,SA]
     ·have r:cE D none (92::c::u) pd= .ok () u pd:=by rfl
      rw[Mt (by decide) r (by grind)] at e;grind
   ·rw[MK b h aB j] at f;have m:eE t= .part:=by cases hu:eE t<;>rw[hu] at f<;>simp[jl.add] at f⊢
    have o:t≠[]:=by rintro rfl;grind[eE]
    obtain⟨x,d,y,ad,p,z,E⟩:=w t A k.tail o m;refine⟨b::x,d,y,by grind,p,λv=>?_,λD hD pd a q g e=>?_⟩
    ·show dl (b::(x++d::v)) 34=none;rw[I9 34 (.inr rfl) b j i.1 i.2 h (λF=>absurd F (by decide)),z];rfl
    ·have r:cE D none (b::t) pd= .ok () t pd:=F0 j i.2 i.1 (.inl rfl);rw[Mt h r (by simp)] at e;grind
theorem amg{D:ak Unit}(hD:hU D):∀(n:Nat)(t:aa)(pd:aq),t.length<=n->match eE t with
  | .closed _ r=>jk 34 (cE D none) t pd= .ok () r pd
  | .open_ _=>jk 34 (cE D none) t pd= .more [] [] pd
  | .part=>True:=by
 intro n;induction n with
 |zero=>intro t pd h;have:t=[]:=nH.1 (by omega);subst this;show jk 34 (cE D none) [] pd= .more [] [] pd;unfold jk;rw[cH];rfl
 |succ n f=>
  intro t pd ax;cases t with
  |nil=>simp_all
  |cons b t=>
   have i:t.length<=n:=by grind
   by_cases a:b=34
   ·subst a;simp[MI,jk,cE,cH,cO]
   by_cases aB:b=36\/b=96
   ·grind[SB]
   have g:b≠36/\b≠96:=by grind
   by_cases d:b=92
   ·subst d;cases t with
    |nil=>simp[SC]
    |cons c u=>
     rw[MJ];have e:cE D none (92::c::u) pd= .ok () u pd:=by rfl
     have j:=Mt (c:=34) (b:=92) (by decide) e (by grind);have:=f u pd (by grind);grind[eE,jl.add,part]
   ·rw[MK b a aB d];have e:cE D none (b::t) pd= .ok () t pd:=F0 d g.2 g.1 (.inl rfl);have j:=Mt (c:=34) a e (by simp);have:=f t pd i;grind[eE,jl.add,part]
def M8(m:Option aa):Prop:=m=none\/∃d,m=some d/\d.contains 10=true
theorem M8.map{m:Option aa}(h:M8 m)(x:aa):M8 (m.map (x++·)):=by
 rcases h with rfl|⟨d,rfl,h⟩
 ·exact .inl rfl
 ·refine .inr ⟨x++d,rfl,?_⟩;grind
def A4(r:aa)(pd:aq):dw Unit->Prop
 | .ok _ q a=>∃w,r=w++q/\((dt r=none/\dl w 0=none)\/∃d,dl w 0=some d/\dt r=some (d,q,[])/\a=pd)
 | .more _ nd ds=>(dt r=none/\M8 (dl (r++nd) 0))\/∃d,dt r=some (d,[],nd)/\dl (r++nd) 0=some d/\ds=pd
 | .bad _=>dt r=none
 | .deep _=>dt r=none
theorem A4.step{r u p x:aa}{pd:aq}{m:dw Unit}(h:A4 u pd m)(e:r=p++u)(ad:dt r=(dt u).map λq=>(x++q.1,q.2))(f:∀v,dl (p++v) 0=(dl v 0).map (x++·)):A4 r pd m:=by
 cases m with
 |ok a q g=>obtain⟨w,i,j⟩:=h;refine⟨p++w,by grind,?_⟩;grind
 |more op nd ds=>
  have c:dl (r++nd) 0=(dl (u++nd) 0).map (x++·):=by grind
  rcases h with⟨b,a2⟩|⟨d,b,a2,a3⟩
  ·left;rw[ad,b,c];exact⟨rfl,a2.map x⟩
  ·right;grind
 |bad q=>show dt r=none;rw[ad,show dt u=none from h];rfl
 |deep q=>show dt r=none;rw[ad,show dt u=none from h];rfl
theorem A4.no{r:aa}{pd:aq}{m:dw Unit}(ad:dt r=none)(c:∀a q b,m= .ok a q b->∃w,r=w++q/\dl w 0=none)(d:∀v,dl (r++v) 0=none):A4 r pd m:=by
 cases m with
 |ok a q b=>obtain⟨w,e,a2⟩:=c a q b rfl;exact⟨w,e,.inl ⟨ad,a2⟩⟩
 |more op nd ds=>exact .inl ⟨ad,.inl (d nd)⟩
 |bad q=>exact ad
 |deep q=>exact ad
theorem amh{D:ak Unit}(hD:hU D):∀(n:Nat)(r:aa)(pd:aq),r.length<=n->dx r->A4 r pd (cQ D r pd):=by
 intro n;induction n with
 |zero=>
  intro r pd h _;have:r=[]:=nH.1 (by omega);subst this;have:cQ D [] pd= .more [] [] pd:=by unfold cQ;rw[cH];rfl
  rw[this];exact .inr ⟨[],by rw[dt],by simp[FK],rfl⟩
 |succ n m=>
  intro r pd ax f;cases r with
  |nil=>grind
  |cons b t=>
   have N:t.length<=n:=by grind
   by_cases W:c3 (b::t)=true
   ·have O:cQ D (b::t) pd= .ok () (b::t) pd:=by unfold cQ;grind[cH,cO]
    have g:dt (b::t)=some ([],b::t,[]):=by simp_all[dt.eq_def,bo]
    rw[O];exact⟨[],rfl,.inr ⟨[],FK,g,rfl⟩⟩
   have i:c3 (b::t)=false:=by grind
   have E:∀a q l,cQ D (b::t) pd= .ok a q l->∃w,b::t=b::w++q:=by
    intro a q l d;have e:=(ar.word hD).sfx d;have hl:=vU hD (by simp) i d;rcases List.suffix_cons_iff.1 e with ad|⟨w,ad⟩
    ·grind
    grind
   by_cases F:b=92
   ·subst F;have G:t≠[]:=by
     rintro rfl;rcases f with ad|⟨s,ad⟩
     ·cases ad
     ·have:=mj List.getLast? ad;grind
    cases t with
    |nil=>grind
    |cons c u=>
     have j:cE D (some (eN D)) (92::c::u) pd= .ok () u pd:=by rfl
     rw[CT i j (by grind)];refine(m u pd (by grind) f.tail.tail).step (p:=[92,c]) (x:=if c=10 then [] else [c]) rfl (by rw[dt.eq_def];grind) λv=>?_;show dl (92::c::v) 0=_;rw[Sy 0 (.inl rfl)];by_cases aF:c=10
     ·simp[aF]
     grind
   by_cases H:b=39
   ·subst H;have j:cE D (some (eN D)) (39::t) pd=jx gd [39] t pd:=by rfl
    cases e:gd t with
    |none=>
     have hm:cQ D (39::t) pd= .more [[39]] [39] pd:=by
      unfold cQ;rw[cH];simp only[i,ew,cl];have:cE D (some (eN D)) (39::t) pd= .more [[39]] [39] pd:=by grind[jx]
      rw[dh this];rfl
     rw[hm];have g:dt (39::t)=none:=by rw[dt.eq_def];grind
     refine .inl ⟨g,.inr ⟨t,?_,?_⟩⟩
     ·grind[dl,Sz,ame]
     ·have G:t≠[]:=by
       rintro rfl;rcases f with ad|⟨s,ad⟩
       ·cases ad
       ·have:=mj List.getLast? ad;grind
      rcases f.tail with ad|⟨s,ad⟩
      ·grind
      grind
    |some k=>
     have K:=I_ t;rw[e] at K;obtain⟨A,L,M,P⟩:=K;have Q:=yW t k e;have xu:cE D (some (eN D)) (39::t) pd= .ok () k pd:=by grind[jx]
     rw[CT i xu (by grind)];refine(m k pd (by omega) (f.tail.ia (AR _ _ e))).step (p:=39::A++[39]) (x:=A) (by grind) ?_ λv=>?_
     ·rw[dt.eq_def];grind
     grind[Sz]
   by_cases aB:b=36\/b=96
   ·have g:dt (b::t)=none:=by simp_all[dt.eq_def,aS,bo]
    refine A4.no g (λa q l d=>?_) λv=>MH 0 (.inl rfl) b aB _;obtain⟨w,ad⟩:=E a q l d;exact⟨b::w,ad,MH 0 (.inl rfl) b aB w⟩
   have B:b≠36/\b≠96:=by grind
   by_cases I:b=34
   ·subst I;have j:cE D (some (eN D)) (34::t) pd=eN D t pd:=by rfl
    have C:=amg hD t.length t pd (cX _);have J:=YO _ t (cX _);have G:t≠[]:=by
     rintro rfl;rcases f with ad|⟨s,ad⟩
     ·cases ad
     ·have:=mj List.getLast? ad;grind
    cases e:eE t with
    |closed o k=>
     rw[e] at C J;obtain⟨A,L,M⟩:=J;have xu:cE D (some (eN D)) (34::t) pd= .ok () k pd:=by rw[j];exact Tk C
     have Q:=Fg t o k e;rw[CT i xu (by grind)];refine(m k pd (by omega) (f.tail.ia (RS _ _ _ _ (Nat.le_refl _) e))).step (p:=34::A) (x:=o) (by grind) ?_ λv=>?_
     ·rw[dt.eq_def];grind
     grind[dl,C2]
    |open_ o=>
     rw[e] at C J;have xu:cE D (some (eN D)) (34::t) pd= .more [[34]] [34] pd:=by rw[j];exact Tl C
     have hm:cQ D (34::t) pd= .more [[34]] [34] pd:=by unfold cQ;rw[cH];simp only[i,ew,cl];rw[dh xu];rfl
     rw[hm];have g:dt (34::t)=some (o,[],[34]):=by rw[dt.eq_def];grind
     refine .inr ⟨o,g,?_,rfl⟩;grind[dl,C2]
    |part=>
     have g:dt (34::t)=none:=by rw[dt.eq_def];grind
     obtain⟨x,c,y,L,M,P,R⟩:=amf _ t (cX _) f.tail G e;refine A4.no g (λa q l d=>?_) λv=>?_
     ·
      have S:q<:+y:=by
       unfold cQ at d;rw[cH] at d;simp only[i,ew,cl] at d;cases hm:cE D (some (eN D)) (34::t) pd with
       |ok T r1 U=>
        rw[aZ hm] at d;rw[j] at hm;have V:=jC.1 (CN.1 hm);have ad:=R D hD pd T r1 U V;unfold aW cO at d;simp only at d;split at d
        ·exact((ar.word hD).sfx d).trans ad
        grind
       |more op nd ds=>rw[dh hm] at d;cases d
       |bad _=>rw[g5 hm] at d;cases d
       |deep _=>rw[jV hm] at d;cases d
      obtain⟨z,rfl⟩:=S;grind[C2]
     grind[dl,C2,List.append_assoc]
   ·have j:cE D (some (eN D)) (b::t) pd= .ok () t pd:=F0 F B.2 B.1 (.inr ⟨H,I⟩);rw[CT i j (by simp)];refine(m t pd N f.tail).step (p:=[b]) (x:=[b]) rfl (by rw[dt.eq_def];grind) λv=>?_;show dl (b::v) 0=_;rw[I9 0 (.inl rfl) b F B.1 B.2 I (λ_=>H)];rfl
theorem amj{e:cg}{x0:ah}{j:Int->Option ah}(o:x0.1=e.S)(di:e.S.length<=1000000):∀(n:Nat)(r:aa),r.length<n->r<:+e.S->fixF (Iv x0 j) n (az e.S r)=j (az e.S (r.dropWhile cd)):=by
 intro n;induction n with
 |zero=>omega
 |succ n p=>
  intro r ax l;rw[e5];generalize fixF (Iv x0 j) n=k at p;unfold Iv;rw[o];cases r with
  |nil=>
   have m:∀a c d f g h i,ik (e.S,az e.S [],a,f,c,d,g,h,i)=some 0:=λa c d f g h i=>wb l a c d f g h i
   rw[m];rfl
  |cons b t=>
   have m:∀a c d f g h i,ik (e.S,az e.S (b::t),a,f,c,d,g,h,i)=some b:=λa c d f g h i=>wb l a c d f g h i
   rw[m];simp only[n9,fY,SQ,SR];have aF:(bif decide (48<=b) then decide ((if decide (48<=b)=true then b else 0)<=57) else false)=cd b:=by grind[cd]
   rw[aF,iR di l];grind[List.dropWhile_cons_of_pos,d_,List.dropWhile_cons_of_neg]
theorem M_{e:cg}{r:aa}{pd:aq}{tr:Bool}(h:cC e r pd)(d:r≠[]):vR (e.st r pd tr)=some (match av r with| .word _ _=>false|_=>true):=by
 unfold vR;have a:ik (e.st r pd tr)=some (r.headD 0):=wb h.sfx _ _ _ _ _ _ _;have c:hF (e.st r pd tr)=some (bs r):=Jk h.b0 h.sfx _ _ _ _ _ _ _;rw[a];simp only[n9,pR];rw[c,fY];cases r with
 |nil=>grind
 |cons b t=>grind[Da]
theorem Z6(pd:aq):cP [] pd [120]=([120],pd):=S9 [120] [] pd (by decide)
theorem Z7{e:cg}{r q:aa}{pd:aq}{tr:Bool}(h:cC e q pd)(a:q<:+r):n7 e r (e.st q pd tr):=by
 refine⟨rfl,?_,?_,?_,?_⟩
 ·show az e.S r<=az e.S q;grind[az]
 ·show az e.S q<=_;have:= @o5 q e.S;omega
 ·show([]:aa).length+et pd<=_;have:=h.jS;grind
 ·show([]:bt).length<=_;simp
section
variable{R:bk}{n:Nat}(hD:kC R n){e:cg}(bc:e.ne=30- (n:Int))
include hD bc
theorem Tp{r:aa}{pd:aq}{tr:Bool}(h:cC e r pd)(ag:bx r=some r)(ir:e2 (bs (r.dropWhile cd))=true):bM false e r (dF (ba true n) r pd) (λst=>st) (λb _ _=>b=true) (Cu R (e.st r pd tr)):=by
 have C3:r.dropWhile cd<:+r:=CQ;have de:dF (ba true n) r pd=ae (if bs (r.dropWhile cd)=[60,60] then hr false else if bs (r.dropWhile cd)=[60,60,45] then hr true else jQ (ba true n) [120]) (λ_=>aW true) ((r.dropWhile cd).drop (bs (r.dropWhile cd)).length) pd:=by
  have mN:fJ r pd= .ok (some (bs (r.dropWhile cd))) ((r.dropWhile cd).drop (bs (r.dropWhile cd)).length) pd:=by simp_all[fJ]
  unfold dF;grind[aZ]
 rw[de];unfold Cu a_;have ad:(e.st r pd tr).1=e.S:=rfl;have af:(e.st r pd tr).2.1=az e.S r:=rfl;refine bM.dX ?_ (amj (e:=e) (x0:=e.st r pd tr) rfl h.b0 bC r (lz (lQ (eO h.sfx) h.b0)) h.sfx);have aD:=C3.trans h.sfx;have Tq:=h.mono C3;generalize r.dropWhile cd=q at*;have hE:bs q<+:q:=RQ;have mh:=XW (r:=q);have h0:=SH ir;have ej:hF ((e.st r pd tr).1,az e.S q,(e.st r pd tr).2.2.1,(e.st r pd tr).2.2.2.1,(e.st r pd tr).2.2.2.2.1,(e.st r pd tr).2.2.2.2.2.1,(e.st r pd tr).2.2.2.2.2.2.1,(e.st r pd tr).2.2.2.2.2.2.2.1,(e.st r pd tr).2.2.2.2.2.2.2.2)=some (bs q):=Jk h.b0 aD _ _ _ _ _ _ _;rw[ej,aP rfl];generalize aN:bs q=o at*;obtain⟨v,rfl⟩:=hE;rw[pf];have gJ:v<:+o++v:=gY o v;have ay:=Tq.mono gJ;have kP:W (az e.S (o++v)+(o.length:Int))=az e.S v:=kB h.b0 aD;have sM:v≠[]:=by
  rintro rfl;rw[rl] at aD;rcases h.nl.ia aD with m|⟨s,m⟩
  ·grind
  grind
 have Sw:v.length<r.length:=by grind
 have bO:((e.st r pd tr).1,W (az e.S (o++v)+(o.length:Int)),(e.st r pd tr).2.2.1,(e.st r pd tr).2.2.2.1,(e.st r pd tr).2.2.2.2.1,(e.st r pd tr).2.2.2.2.2.1,(e.st r pd tr).2.2.2.2.2.2.1,(e.st r pd tr).2.2.2.2.2.2.2.1,(e.st r pd tr).2.2.2.2.2.2.2.2)=e.st v pd tr:=by rw[kP];rfl
 rw[bO];have ze:v<:+r:=gJ.trans C3;have arU:=ay.jS;have nD:=tK pd;have ni:=h.b0;have al_:=eO h.sfx;have arV:(bif decide (o=[60,60]) then true else decide (o=[60,60,45]))=(decide (o=[60,60])||decide (o=[60,60,45])):=by simp
 rcases xx ay ⟨tr,rfl,λC=>absurd C sM⟩ with⟨c,eF,bU,cr,eK,P,dB,ih⟩|⟨bU,cr⟩
 ·rw[cr,aP rfl];obtain⟨g,rfl,_⟩:=eK;have Z8:c≠[]:=ZG (h.nl.ia ay.sfx) sM bU;have j_:gw ((e.st c pd g).1,(e.st c pd g).2.1,(e.st c pd g).2.2.1,(e.st r pd tr).2.2.2.1,(e.st c pd g).2.2.2.2.1,(e.st c pd g).2.2.2.2.2.1,(e.st c pd g).2.2.2.2.2.2.1,(e.st r pd tr).2.2.2.2.2.2.2.1,(e.st c pd g).2.2.2.2.2.2.2.2)=some (decide (c=[])):=wa e c _ _ _ _ _ _ _;rw[j_,aP rfl,e9 Z8];simp only[aR];have amk:vR ((e.st c pd g).1,(e.st c pd g).2.1,(e.st c pd g).2.2.1,(e.st r pd tr).2.2.2.1,(e.st c pd g).2.2.2.2.1,(e.st c pd g).2.2.2.2.2.1,(e.st c pd g).2.2.2.2.2.2.1,(e.st r pd tr).2.2.2.2.2.2.2.1,(e.st c pd g).2.2.2.2.2.2.2.2)=some (match av c with| .word _ _=>false|_=>true):=M_ P Z8;rw[amk,aP rfl];have u:c<:+r:=dB.trans ze
  have aml:∀t,av c=t->(∀w p,t≠ .word w p)->(if o=[60,60] then hr false else if o=[60,60,45] then hr true else jQ (ba true n) [120]:ak Unit) v pd= .bad c:=by
   intro t ht arW
   have arX:∀tabs,hr tabs v pd= .bad c:=by grind[hr,l2]
   have ri:jQ (ba true n) [120] v pd= .bad c:=by
    unfold jQ;rw[aZ (cB bU)];cases hk:av c with
    |eof=>grind[l2]
    |word w p=>grind
    |_=>rfl
   grind
  by_cases S:∃w p,av c= .word w p
  ·obtain⟨w,p,S⟩:=S;rw[S];simp only[aR];have eu:=F3 hD bc (tr0:=g) P;obtain⟨⟨fE,g8,f⟩,T,i⟩:=eu;have wi:qm R ((e.st c pd g).1,(e.st c pd g).2.1,(e.st c pd g).2.2.1,(e.st r pd tr).2.2.2.1,(e.st c pd g).2.2.2.2.1,(e.st c pd g).2.2.2.2.2.1,(e.st c pd g).2.2.2.2.2.2.1,(e.st r pd tr).2.2.2.2.2.2.2.1,(e.st c pd g).2.2.2.2.2.2.2.2)=some (fE,g8,f):=T;rw[wi,aP rfl];simp only;have D:=amh (mi true n) _ c pd (cX _) (h.nl.ia P.sfx);by_cases aE:o=[60,60]\/o=[60,60,45]
   ·have E:(bif decide (o=[60,60]) then true else decide (o=[60,60,45]))=true:=by grind
    rw[E];simp only[gW,aR];have Na:(if o=[60,60] then hr false else if o=[60,60,45] then hr true else jQ (ba true n) [120]:ak Unit)=hr (decide (o=[60,60,45])):=by grind
    generalize decide (o=[60,60,45])=tabs at*;have j:hr tabs v pd=(match dt c with
      |none=> .bad c
      |some (d,q,k)=>if d.contains 10 then .bad c else
       if tabs/\d.head?=some 9 then .bad c else
       if k≠[] then .more [k] k (pd++[(d,tabs)]) else
       if q=[] then .more [] [] (pd++[(d,tabs)]) else .ok () q (pd++[(d,tabs)])):=by
     grind[hr]
    have U9:f.2.2.2.2.2.2.1.length<=100*e.S.length+1000:=by
     cases hm:cQ (ba true n) c pd with
     |ok a I F=>rw[hm] at i;obtain⟨_,_,⟨U,m,_⟩,_⟩:=i;dsimp only at m;rw[m];show([]:aa).length<=_;simp
     |more op nd ds=>rw[hm] at i;have:=i.z.2.2.2.1.nd;grind
     |bad q=>rw[hm] at i;have:=i.2.nd;grind
     |deep q=>rw[hm] at i;have:=i.2.nd;grind
    have amm:b_ f.2.2.2.2.2.2.1 ((e.st c pd g).2.2.2.2.2.2.1.length:Int) (f.2.2.2.2.2.2.1.length:Int)=f.2.2.2.2.2.2.1:=by show b_ f.2.2.2.2.2.2.1 ((0:Nat):Int) _=_;simp[b_]
    rw[amm];have Z9:f.1=e.S/\n7 e r f:=by
     cases hm:cQ (ba true n) c pd with
     |ok a I F=>rw[hm] at i;obtain⟨V,a2,⟨U,m,_⟩,_⟩:=i;dsimp only at m;rw[m];exact⟨rfl,Z7 a2 (V.trans u)⟩
     |more op nd ds=>rw[hm] at i;exact⟨i.z.2.2.2.1.s,i.z.2.2.2.1.mono u⟩
     |bad q=>rw[hm] at i;exact⟨i.2.s,i.2.mono u⟩
     |deep q=>rw[hm] at i;exact⟨i.2.s,i.2.mono u⟩
    obtain⟨xt,zK⟩:=Tn P Z9.1 T;dsimp only at xt zK;have xB:fE.length<=1000000:=by omega
    refine bM.dX ?_ (b9 (show 0<=((e.st c pd g).2.2.2.2.2.2.1.length:Int)/\((e.st c pd g).2.2.2.2.2.2.1.length:Int)<=(f.2.2.2.2.2.2.1.length:Int)/\(f.2.2.2.2.2.2.1.length:Int)<=(f.2.2.2.2.2.2.1.length:Int) from by show(0:Int)<=((0:Nat):Int)/\((0:Nat):Int)<=_/\_;omega))
    refine bM.dX ?_ (b9 (by omega));have X:((fE++f.2.2.2.2.2.2.1).length:Int)<=200000000:=by grind
    refine bM.dX ?_ (aP (akB _ X));have z:=Z9.2;have amn:∀(l:aa)(J:Bool),(a9 (((bif tabs then(decide (0<(l.length:Int))) else false)=true)->((bif(decide (f.2.2.2.2.1=2)) then true else(!J))=false)->0<=(0:Int)/\0<(l.length:Int))<|
      (bif(bif(bif(decide (f.2.2.2.2.1=2)) then true else(!J)) then true else(bif(bif tabs then(decide (0<(l.length:Int))) else false) then(decide (((at' l 0).toNat:Int)=(9:Int))) else false)) then
      (aw (hq f (e.st c pd g).2.1) λ(G:ah)=>
      some (G.1,G.2.1,G.2.2.1,f.2.2.2.1,G.2.2.2.2.1,G.2.2.2.2.2.1,G.2.2.2.2.2.2.1,f.2.2.2.2.2.2.2.1,G.2.2.2.2.2.2.2.2))
      else
      (a9 (f.2.2.2.1.length+([(l,tabs)]:aq).length<=536870912)<|
      some (f.1,f.2.1,f.2.2.1,(f.2.2.2.1++([(l,tabs)]:aq)),f.2.2.2.2.1,f.2.2.2.2.2.1,f.2.2.2.2.2.2.1,f.2.2.2.2.2.2.2.1,f.2.2.2.2.2.2.2.2))))=
      if(f.2.2.2.2.1=2\/J=false\/(tabs=true/\l.head?=some 9)) then some (f.1,f.2.1,f.2.2.1,f.2.2.2.1,2,(e.st c pd g).2.1,f.2.2.2.2.2.2.1,f.2.2.2.2.2.2.2.1,f.2.2.2.2.2.2.2.2)
      else some (f.1,f.2.1,f.2.2.1,(f.2.2.2.1++([(l,tabs)]:aq)),f.2.2.2.2.1,f.2.2.2.2.2.1,f.2.2.2.2.2.2.1,f.2.2.2.2.2.2.2.1,f.2.2.2.2.2.2.2.2):=by
     intro l J
     rw[b9 (by grind)]
     have SF:(bif bif tabs then decide (0<(l.length:Int)) else false then decide (((at' l 0).toNat:Int)=9) else false)=decide (tabs=true/\l.head?=some 9):=by
      cases tabs with
      |false=>simp
      |true=>
       cases l with
       |nil=>simp
       |cons x y=>simp[at',I2]
     rw[SF];have amo:f.2.2.2.1.length+[(l,tabs)].length<=536870912:=by have m:=tK f.2.2.2.1;have aU:=z.nd;grind
     rw[b9 amo];by_cases e_:f.2.2.2.2.1=2
     ·simp only[e_,bA,aK,true_or,cD];rfl
     ·by_cases dO:J=false
      ·subst dO;simp only[e_,bF,aR,e8,aK,false_or,true_or,cD];rfl
      ·have amp:J=true:=by grind
       subst amp;by_cases kD:tabs=true/\l.head?=some 9
       ·rw[bo (.inr (.inr kD)),decide_eq_true kD];simp only[e_,bF,aR,gW,aK];rfl
       grind
    refine bM.dX ?_ (amn _ _);rw[Na];have rj:bM false e r (.bad c:dw Bool) (λst=>st) (λb _ _=>b=true) (some (f.1,f.2.1,f.2.2.1,f.2.2.2.1,(2:Int),(e.st c pd g).2.1,f.2.2.2.2.2.2.1,f.2.2.2.2.2.2.2.1,f.2.2.2.2.2.2.2.2)):=
     ⟨_,rfl,rfl,z.s,z.lo,z.a8,z.nd,z.op⟩
    have H:=aI.sC (tabs:=tabs) (r0:=o++v) (v:=v) (pd:=pd) (by grind);have amq:=Tq.jS;cases hm:cQ (ba true n) c pd with
    |bad q=>
     rw[hm] at i D;rw[bo (.inl i.1)];have:hr tabs v pd= .bad c:=by rw[j,show dt c=none from D]
     grind[g5]
    |deep q=>
     rw[hm] at i D;rw[bo (.inl i.1)];have:hr tabs v pd= .bad c:=by rw[j,show dt c=none from D]
     grind[g5]
    |ok a I F=>
     rw[hm] at i D;obtain⟨V,a2,⟨U,m,_⟩,bP,_⟩:=i;dsimp only at m bP;subst m;have amr:(e.st I F U).2.2.2.2.2.2.1=[]:=rfl;rw[amr,rl];obtain⟨w,MT,sP⟩:=D;have Tr:fE=w:=by simp_all
     subst Tr;have ams:¬((e.st I F U).2.2.2.2.1=2):=by show¬((0:Int)=2);decide
     rcases sP with⟨Y,A⟩|⟨d,Y,A,rfl⟩
     ·rw[A];rw[bo (.inr (.inl rfl))];grind[g5]
     ·rw[Y];rw[A] at j;simp only at j;unfold AW;simp only;by_cases K:d.contains 10=true
      ·rw[bo K] at j;rw[bo (.inr (.inl (by grind))),g5 j];grind
      ·rw[aS K] at j;by_cases IN:tabs=true/\d.head?=some 9
       ·rw[bo IN] at j;rw[bo (.inr (.inr (by grind))),g5 j];grind
       ·rw[aS IN] at j;have Z_:I≠[]:=by
         rintro rfl;have hex:cQ (ba true n) c F= .ok a [] F:=hm
         have:∀(N:Nat)(r:aa)(pd:aq)(a:Unit)(q:aa)(aG:aq),r.length<=N->cQ (ba true n) r pd= .ok a q aG->q≠[]:=by
          intro N r pd a q aG n1 C;unfold cQ at C;refine YH (Q:=λq=>q≠[]) (λs r pd a q aG Nb=>?_) N _ _ _ _ _ _ n1 C;cases r with
          |nil=>cases Nb
          |cons b t=>
           simp only at Nb;split at Nb
           ·grind
           ·obtain⟨_,_,_,_,amt⟩:=b3 Nb;cases amt
         grind
        rw[aS (by simp),aS Z_] at j;rw[aS (by grind),aZ j,if_neg K];rw[j] at H;simp only[ea] at H;exact⟨_,rfl,V.trans u,⟨h.b0,h.nl,h.Jj,a2.sfx,by omega⟩,⟨U,rfl,λC=>absurd C Z_⟩,rfl⟩
    |more op nd ds=>
     rw[hm] at i D;obtain⟨Z,L,M,F2,O⟩:=i.z;dsimp only at Z L M F2 O;have Tr:=zK O;rw[Tr,L];have ams:¬(f.2.2.2.2.1=2):=by omega
     rcases D with⟨Y,A⟩|⟨d,Y,A,rfl⟩
     ·have y6:(AW (dl (c++nd) 0)).2=false:=by
       rcases A with A|⟨d,A,iZ⟩
       ·rw[A];rfl
       simp_all[AW]
      simp_all[g5]
     ·rw[A];rw[Y] at j;simp only at j;unfold AW;simp only;by_cases K:d.contains 10=true
      ·simp_all[g5]
      ·rw[aS K] at j;by_cases IN:tabs=true/\d.head?=some 9
       ·simp_all[g5]
       ·rw[aS IN] at j;rw[aS (by grind),if_neg K]
        have lA:∃lr,hr tabs v ds= .more lr nd (ds++[(d,tabs)]):=by grind
        obtain⟨lr,lA⟩:=lA;rw[dh lA];rw[lA] at H;simp only[ea] at H;rw[M];exact⟨_,rfl,.inl ⟨Z,rfl,rfl,⟨z.s,z.lo,z.a8,by grind,z.op⟩,O⟩⟩
   ·have E:(bif decide (o=[60,60]) then true else decide (o=[60,60,45]))=false:=by grind
    rw[E];simp only[e8,aK];simp only[GO] at aE;have B:(if o=[60,60] then hr false else if o=[60,60,45] then hr true else jQ (ba true n) [120]:ak Unit) v pd=cQ (ba true n) c pd:=by rw[aS aE.1,aS aE.2];unfold jQ;rw[aZ (cB bU),S]
    cases hm:cQ (ba true n) c pd with
    |ok a I F=>rw[hm] at i B;rw[aZ B];obtain⟨V,a2,a3,_⟩:=i;exact⟨f,rfl,V.trans u,a2,a3,rfl⟩
    |more op nd ds=>rw[hm] at i B;rw[dh B];exact⟨f,rfl,iG.mono i u⟩
    |bad q=>rw[hm] at i B;rw[g5 B];exact⟨f,rfl,iS.mono i u⟩
    |deep q=>rw[hm] at i B;rw[jV B];exact⟨f,rfl,iS.mono i u⟩
  ·have amu:(match av c with| .word _ _=>false|_=>true)=true:=by grind
   rw[amu];simp only[aK];rw[g5 (aml _ rfl (λw p C=>S ⟨w,p,C⟩))];obtain⟨st,T,i⟩:=pW (tr:=g) ((e.st c pd g).2.1) P u;have wi:hq ((e.st c pd g).1,(e.st c pd g).2.1,(e.st c pd g).2.2.1,(e.st r pd tr).2.2.2.1,(e.st c pd g).2.2.2.2.1,(e.st c pd g).2.2.2.2.2.1,(e.st c pd g).2.2.2.2.2.2.1,(e.st r pd tr).2.2.2.2.2.2.2.1,(e.st c pd g).2.2.2.2.2.2.2.2) (e.st c pd g).2.1=some st:=T;rw[wi,aP rfl];exact⟨_,rfl,by cases T;exact i⟩
 ·
  rw[cr,aP rfl];have j_:gw ((e.tt pd).1,(e.tt pd).2.1,(e.tt pd).2.2.1,(e.st r pd tr).2.2.2.1,(e.tt pd).2.2.2.2.1,(e.tt pd).2.2.2.2.2.1,(e.tt pd).2.2.2.2.2.2.1,(e.st r pd tr).2.2.2.2.2.2.2.1,(e.tt pd).2.2.2.2.2.2.2.2)=some true:=by have:=wa e [] e.ne 0 0 pd [] [] true;rw[iu] at this;exact this
  rw[j_,aP rfl];simp only[aK];have amv:cC e [] pd:=ay.mono oK;obtain⟨aQ,a4,bn⟩:=FX (tr:=true) (x:=[120]) amv (by simp);rw[Z6] at bn;have tL:g_ ((e.tt pd).1,(e.tt pd).2.1,(e.tt pd).2.2.1,(e.st r pd tr).2.2.2.1,(e.tt pd).2.2.2.2.1,(e.tt pd).2.2.2.2.2.1,(e.tt pd).2.2.2.2.2.2.1,(e.st r pd tr).2.2.2.2.2.2.2.1,(e.tt pd).2.2.2.2.2.2.2.2) [120]=some aQ:=by rw[<-a4,<-xw];rfl
  rw[tL,aP rfl];obtain⟨Z,L,M,F2,O⟩:=bn;dsimp only at L M;have mN:([]:aa)<:+r:=oK;have eb:=F2.mono mN;by_cases aE:o=[60,60]\/o=[60,60,45]
  ·have E:(bif decide (o=[60,60]) then true else decide (o=[60,60,45]))=true:=by grind
   rw[E];simp only[aK];have Na:(if o=[60,60] then hr false else if o=[60,60,45] then hr true else jQ (ba true n) [120]:ak Unit) v pd=hr (decide (o=[60,60,45])) v pd:=by grind
   have hm:hr (decide (o=[60,60,45])) v pd= .more [] [120] (pd++[([120],decide (o=[60,60,45]))]):=by grind[hr]
   rw[hm] at Na;rw[dh Na];have H:=aI.sC (tabs:=decide (o=[60,60,45])) (r0:=o++v) (v:=v) (pd:=pd) (by grind);rw[hm] at H;simp only[ea] at H;have amq:=Tq.jS;have arY:aQ.2.2.2.1.length<=100000000:=by grind
   refine bM.dX ?_ (b9 (by grind));rw[M];exact⟨_,rfl,.inl ⟨Z,L,rfl,⟨eb.s,eb.lo,eb.a8,by grind,eb.op⟩,O⟩⟩
  ·have E:(bif decide (o=[60,60]) then true else decide (o=[60,60,45]))=false:=by grind
   rw[E];simp only[aR];simp only[GO] at aE;have B:(if o=[60,60] then hr false else if o=[60,60,45] then hr true else jQ (ba true n) [120]:ak Unit) v pd= .more [] [120] pd:=by rw[aS aE.1,aS aE.2];unfold jQ;grind[dh,iE,b7,Z6]
   rw[dh B];exact⟨_,rfl,.inl ⟨Z,L,M,eb,O⟩⟩
end
theorem qA(e:cg)(r:aa)(pd:aq)(tr:Bool):gw (e.st r pd tr)=some (decide (r=[])):=wa e r _ _ _ _ _ _ _
theorem o7(e:cg)(pd:aq):gw (e.tt pd)=some true:=by simp[xw,qA]
theorem rU{e:cg}{r:aa}{pd:aq}{tr:Bool}(h:cC e r pd):hF (e.st r pd tr)=some (bs r):=Jk h.b0 h.sfx _ _ _ _ _ _ _
theorem F6{e:cg}{r:aa}{pd:aq}{tr:Bool}(h:cC e r pd):ik (e.st r pd tr)=some (r.headD 0):=wb h.sfx _ _ _ _ _ _ _
theorem amw:bs []=[]:=by decide
theorem F7{e:cg}(pd:aq)(h:e.S.length<=1000000):hF (e.tt pd)=some []:=by have:=Jk (e:=e) (r:=[]) h oK e.ne 0 0 pd [] [] true;rw[amw] at this;rw[xw];exact this
theorem amx(e:cg)(pd:aq):ik (e.tt pd)=some 0:=by rw[xw];exact wb (e:=e) (r:=[]) oK _ _ _ _ _ _ _
theorem cC.A5{e:cg}{r:aa}{pd:aq}(h:cC e r pd):cC e [] pd:=h.mono oK
theorem amy{e:cg}{pd:aq}(h:cC e [] pd):lL (e.tt pd)=some []:=by rw[xw,wg h];rfl
theorem De{e:cg}{pd:aq}{x:aa}(h:cC e [] pd)(b:x.length<=100):∃a,g_ (e.tt pd) x=some a/\n8 e [] (cP [] pd x).1 (cP [] pd x).2 a:=by rw[xw];exact FX h b
theorem uX{e:cg}{pd:aq}{tr:Bool}{x:aa}(h:cC e [] pd)(b:x.length<=100):∃a,g_ (e.st [] pd tr) x=some a/\n8 e [] (cP [] pd x).1 (cP [] pd x).2 a:=FX h b
theorem aaa{e:cg}(pd:aq):ow (e.tt pd)=some (e.tt pd):=by
 unfold ow;rw[C9,aP rfl];unfold a_
 obtain⟨n,ax⟩:∃n,bC=n+1:=⟨bC-1,by rw[gi]⟩
 dsimp only;rw[ax,e5];unfold yL;dsimp only;have a:ik ((e.tt pd).1,(e.tt pd).2.1,(e.tt pd).2.2.1,(e.tt pd).2.2.2.1,(e.tt pd).2.2.2.2.1,(e.tt pd).2.2.2.2.2.1,(e.tt pd).2.2.2.2.2.2.1,(e.tt pd).2.2.2.2.2.2.2.1,(e.tt pd).2.2.2.2.2.2.2.2)=some 0:=amx e pd;simp_all[fY]
theorem iG.tt{e:cg}{r:aa}(pd:aq):iG true e r [] pd (e.tt pd):= .inr ⟨rfl,rfl,rfl⟩
theorem fZ.eta{e:cg}{r:aa}{pd:aq}{st:ah}(h:fZ e r pd st):st.1=e.S/\st.2.1=az e.S r/\st.2.2.1=e.ne/\st.2.2.2.1=pd/\st.2.2.2.2.1=0/\st.2.2.2.2.2.1=0/\st.2.2.2.2.2.2.1=[]/\st.2.2.2.2.2.2.2.1=[]:=by obtain⟨tr,rfl,_⟩:=h;exact⟨rfl,rfl,rfl,rfl,rfl,rfl,rfl,rfl⟩
section
variable{R:bk}{n:Nat}(hD:kC R n){e:cg}(bc:e.ne=30- (n:Int))
include hD bc
theorem aab{r:aa}{pd:aq}{st:ah}(h:cC e r pd)(D:fZ e r pd st):bM true e r (gV (ba true n) r pd) (λst=>st) (λ_ _ _=>True) (CD R st):=by
 have L:∀(N:Nat)(r:aa)(pd:aq)(st:ah),r.length+1<N->cC e r pd->fZ e r pd st->bx r=some r->bM true e r (gV (ba true n) r pd) (λst=>st) (λ_ _ _=>True) (fixF (AH R λx=>some x) N st):=by
  intro N;induction N with
  |zero=>omega
  |succ N E=>
   intro r pd st n1 j O F;rw[e5]
   obtain⟨M,P⟩:∃M,N=M+1:=⟨N-1,by omega⟩
   have w:∀x:ah,(x.2.2.2.2.1≠0\/∃ds,x=e.tt ds)->fixF (AH R λx=>some x) N x=some x:=by
    intro x y;rw[P,e5];unfold AH;dsimp only;rcases y with y|⟨ds,rfl⟩
    ·simp only[y,bF,cT,ew,cl,aR,and_false]
    ·rw[show gw ((e.tt ds).1,(e.tt ds).2.1,(e.tt ds).2.2.1,(e.tt ds).2.2.2.1,(e.tt ds).2.2.2.2.1,(e.tt ds).2.2.2.2.2.1,(e.tt ds).2.2.2.2.2.2.1,(e.tt ds).2.2.2.2.2.2.2.1,(e.tt ds).2.2.2.2.2.2.2.2)=some true from o7 e ds];rfl
   generalize sd:fixF (AH R λx=>some x) N=k at E w;obtain⟨tr,rfl,G⟩:=O;unfold AH a_;dsimp only;have Q:gw ((e.st r pd tr).1,(e.st r pd tr).2.1,(e.st r pd tr).2.2.1,(e.st r pd tr).2.2.2.1,(e.st r pd tr).2.2.2.2.1,(e.st r pd tr).2.2.2.2.2.1,(e.st r pd tr).2.2.2.2.2.2.1,(e.st r pd tr).2.2.2.2.2.2.2.1,(e.st r pd tr).2.2.2.2.2.2.2.2)=some (decide (r=[])):=qA e r pd tr;have S:hF ((e.st r pd tr).1,(e.st r pd tr).2.1,(e.st r pd tr).2.2.1,(e.st r pd tr).2.2.2.1,(e.st r pd tr).2.2.2.2.1,(e.st r pd tr).2.2.2.2.2.1,(e.st r pd tr).2.2.2.2.2.2.1,(e.st r pd tr).2.2.2.2.2.2.2.1,(e.st r pd tr).2.2.2.2.2.2.2.2)=some (bs r):=rU j;have z:Aw ((e.st r pd tr).1,(e.st r pd tr).2.1,(e.st r pd tr).2.2.1,(e.st r pd tr).2.2.2.1,(e.st r pd tr).2.2.2.2.1,(e.st r pd tr).2.2.2.2.2.1,(e.st r pd tr).2.2.2.2.2.2.1,(e.st r pd tr).2.2.2.2.2.2.2.1,(e.st r pd tr).2.2.2.2.2.2.2.2)=some (decide (r.dropWhile cd≠r)&&e2 (bs (r.dropWhile cd))):=Td j;have h0:(e.st r pd tr).2.2.2.2.1=0:=rfl;rw[Q,fY,S,fY,FV,fY,z,fY,h0];simp only[bA,cD];by_cases T:r=[]
   ·subst T;have g:gV (ba true n) [] pd= .ok () [] pd:=by unfold gV;rw[cH,aZ (uV (r':=[]) mg (by decide))];rfl
    rw[g];simp only[bA,gW,aR,aK];exact⟨_,rfl,fQ,j,⟨tr,rfl,G⟩,trivial⟩
   ·have U:(bif(bif true then !decide (r=[]) else false) then bif(if(bif true then !decide (r=[]) else false)=true then e2 (if(bif true then !decide (r=[]) else false)=true then bs r else []) else false) then true else(if((if(bif true then !decide (r=[]) else false)=true then e2 (if(bif true then !decide (r=[]) else false)=true then bs r else []) else false)=false/\(bif true then !decide (r=[]) else false)=true) then(decide (r.dropWhile cd≠r)&&e2 (bs (r.dropWhile cd))) else false) else false)=e2 (bs (r.dropWhile cd)):=by
     conv=>rhs;rw[<-M3 r]
     grind
    refine bM.dX ?_ (show(bif(bif(bif true then !decide (r=[]) else false) then bif(if(bif true then !decide (r=[]) else false)=true then e2 (if(bif true then !decide (r=[]) else false)=true then bs r else []) else false) then true else(if((if(bif true then !decide (r=[]) else false)=true then e2 (if(bif true then !decide (r=[]) else false)=true then bs r else []) else false)=false/\(bif true then !decide (r=[]) else false)=true) then(decide (r.dropWhile cd≠r)&&e2 (bs (r.dropWhile cd))) else false) else false) then _ else _)=_ from by rw[U]);cases H:e2 (bs (r.dropWhile cd)) with
    |false=>
     have g:gV (ba true n) r pd= .ok () r pd:=by unfold gV;rw[cH,aZ (uV F H)];rfl
     rw[g];exact⟨_,rfl,fQ,j,⟨tr,rfl,G⟩,trivial⟩
    |true=>
     simp only[aK];unfold gV;rw[cH];refine bM.iF c4.k (Tp hD bc (tr:=tr) j F H) (λb r1 c d V s1 W I X=>?_) (λop nd ds d _ J=>?_) (λd u=>?_)
     ·subst X;have hl:=sD (mi true n) V;have l:=I.eta;rw[l.2.2.2.2.1];simp only[bA,aK];show bM true e r (cO _ r (.ok (.inl ()) r1 c)) _ _ _;refine bM.inl hl ?_;rcases xx W I with⟨f,a,o,i,p,v,s,A⟩|⟨o,i⟩
      ·rw[i,aP rfl];have af:=p.eta;rw[l.2.2.2.1,l.2.2.2.2.2.2.2];have B:a=(a.1,a.2.1,a.2.2.1,c,a.2.2.2.2.1,a.2.2.2.2.2.1,a.2.2.2.2.2.2.1,([]:bt),a.2.2.2.2.2.2.2.2):=by grind
       rw[<-B];have g:gV (ba true n) r1 c=gV (ba true n) f c:=by
        unfold gV;rw[cH,cH];have Y:dF (ba true n) r1 c=dF (ba true n) f c:=by unfold dF;grind[fJ,ae]
        have C:ae (dF (ba true n)) (λb=>(aW (if b=true then .inl () else .inr ()):ak (Unit⊕Unit))) r1 c=ae (dF (ba true n)) (λb=>aW (if b=true then .inl () else .inr ())) f c:=by grind[ae]
        rw[C];cases hm:dF (ba true n) f c with
        |ok b t Z=>
         rw[aZ hm];cases b with
         |true=>have o8:=sD (mi true n) hm;have nF:=s.length_le;show(if t.length<r1.length then _ else _)=(if t.length<f.length then _ else _);grind
         |false=>rfl
        |more op nd ds=>rw[dh hm];rfl
        |bad q=>rw[g5 hm];rfl
        |deep q=>rw[jV hm];rfl
       have:=(E f c a (by grind) v p A).mono (s.trans s1);unfold gV at g this;grind
      ·rw[i,aP rfl,l.2.2.2.1,l.2.2.2.2.2.2.2];have g:cb (λ_=>ae (dF (ba true n)) λb=>aW (if b=true then .inl () else .inr ())) () r1 c=(.more [] [] c:dw Unit):=by
        rw[cH];have:dF (ba true n) r1 c= .more [] [] c:=by unfold dF;exact dh (by unfold fJ;rw[o];rfl)
        rw[dh this];rfl
       rw[g];exact⟨e.tt c,w (e.tt c) (.inr ⟨c,rfl⟩),iG.tt c⟩
     ·have ad:=J.z.1;refine⟨d,?_,J.up⟩;grind
     ·refine⟨d,?_,u⟩;rw[u.1];simp only[show¬((2:Int)=0) by decide,bF,aR];have:=w d (.inl (by rw[u.1];decide));have alN:d=(d.1,d.2.1,d.2.2.1,d.2.2.2.1,2,d.2.2.2.2.2.1,d.2.2.2.2.2.2.1,d.2.2.2.2.2.2.2.1,d.2.2.2.2.2.2.2.2):=by rw[<-u.1]
      grind
 unfold CD a_;have K:=D.eta;rw[K.2.2.2.1,K.2.2.2.2.2.2.2];rcases xx h D with⟨f,a,o,i,p,v,s,A⟩|⟨o,i⟩
 ·rw[i,aP rfl];have B:a=(a.1,a.2.1,a.2.2.1,pd,a.2.2.2.2.1,a.2.2.2.2.2.1,a.2.2.2.2.2.2.1,([]:bt),a.2.2.2.2.2.2.2.2):=by obtain⟨cy,rfl,_⟩:=p;rfl
  rw[<-B];have:=(L bC f pd a (we v) v p A).mono s;have g:gV (ba true n) r pd=gV (ba true n) f pd:=by
   unfold gV;rw[cH,cH];have Y:dF (ba true n) r pd=dF (ba true n) f pd:=by unfold dF;grind[fJ,ae]
   have C:ae (dF (ba true n)) (λb=>(aW (if b=true then .inl () else .inr ()):ak (Unit⊕Unit))) r pd=ae (dF (ba true n)) (λb=>aW (if b=true then .inl () else .inr ())) f pd:=by grind[ae]
   rw[C];cases hm:dF (ba true n) f pd with
   |ok b t Z=>
    rw[aZ hm];cases b with
    |true=>have o8:=sD (mi true n) hm;have nF:=s.length_le;show(if t.length<r.length then _ else _)=(if t.length<f.length then _ else _);grind
    |false=>rfl
   |more op nd ds=>rw[dh hm];rfl
   |bad q=>rw[g5 hm];rfl
   |deep q=>rw[jV hm];rfl
  grind
 ·rw[i,aP rfl];have g:gV (ba true n) r pd= .more [] [] pd:=by
   unfold gV;rw[cH];have:dF (ba true n) r pd= .more [] [] pd:=by unfold dF;exact dh (by unfold fJ;rw[o];rfl)
   rw[dh this];rfl
  rw[g];refine⟨e.tt pd,?_,iG.tt pd⟩
  obtain⟨m,hm⟩:∃m,bC=m+1:=⟨bC-1,by rw[gi]⟩
  dsimp only;rw[hm,e5];unfold AH;dsimp only;rw[show gw ((e.tt pd).1,(e.tt pd).2.1,(e.tt pd).2.2.1,pd,(e.tt pd).2.2.2.2.1,(e.tt pd).2.2.2.2.2.1,(e.tt pd).2.2.2.2.2.2.1,[],(e.tt pd).2.2.2.2.2.2.2.2)=some true from o7 e pd];rfl
end
def sQ:ak aa:=λr pd=> .ok (ja r) (r.drop (ja r).length) pd
theorem amA(r:aa):ja r<+:r:=by grind[ja]
theorem Ts{r:aa}(h:ja r≠[]):r.drop (ja r).length≠[]:=by
 unfold ja at h⊢;split
 ·grind[List.takeWhile_append_dropWhile]
 grind
theorem F9{v:aa}{pd:aq}{w:aa}(a:bx v=some v)(b:av v= .word w true):cY w v pd= .ok () (v.drop w.length) pd:=by unfold cY na;rw[aZ (cB a),b];simp[cG,b2]
theorem Nc{β:Type}{m:Nat}{c:Ctx}{no:Bool}{kw x:aa}{K:ak β}(aF:c≠ .text)(g:∀t,dT c t=cG t kw)(d:kw≠[]/\kw.all gp=true){r:aa}{pd:aq}(h:dx r):
  ae (((a1 true m).ls c no).aM x) (λ_=>ae (cY kw) (λ_=>K)) r pd=ae (ae (((a1 true m).ls c no).aM x) (λ_=>sQ)) (λ_=>K) r pd:=by
 rw[kA];cases hm:(((a1 true m).ls c no).aM x) r pd with
 |ok a r1 e=>
  rw[aZ hm,aZ hm];have b:=jC.1 hm;have i:=((pQ true m).ls c no).sfx b;obtain⟨ao,e7⟩:=A0 true m;rw[e7] at b;obtain⟨j,k⟩:=y4 aF b;rw[g] at k;have f:av r1= .word kw true:=by grind[cG]
  have aB:=(rT (h.ia i) d.1 d.2).2 f;rw[aZ (F9 j f)];have:sQ r1 e= .ok kw (r1.drop kw.length) e:=by grind[sQ]
  grind[aZ]
 |more op nd ds=>grind[dh]
 |bad q=>grind[g5]
 |deep q=>grind[jV]
theorem Tt{m:Nat}{c:Ctx}{no:Bool}{kw x:aa}(aF:c≠ .text)(a:∀t,dT c t=cG t kw)(b:kw≠[]/\kw.all gp=true){r:aa}{pd:aq}(d:dx r):
  ae (((a1 true m).ls c no).aM x) (λ_=>cY kw) r pd=ae (ae (((a1 true m).ls c no).aM x) (λ_=>sQ)) (λ_=>aW ()) r pd:=by
 have ad:(λ_:Nat=>cY kw)=λ_=>ae (cY kw) (λ_=>aW ()):=by grind[FI]
 simp_all[Nc]
end Go.Eng
