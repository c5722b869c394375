/- Part 6 of what FnBad needs. No condition. -/
import Derived.Test.YthnjiffnjaaejaaGreatDoorFnBadE
set_option linter.all false
namespace Go.Eng
section
variable{X:fC}{m:Nat}(hm:X.c0<=m){D:ad Unit}(hD:ab X.E m D)
include hm hD
theorem aqD(C:iu D){W n:H->Prop}(hW:∀w,W w->x9 w/\eZ X D w)(y:∀w,n w->x9 w/\eZ X D w){s v v':H}{F:ai}{lo:Option dK}(Y:wW W n s)(e:et v v')(av:cZ X F (s++v)):bM X (λq=>q=v') F (fM true lo D (s++v) F):=by
 obtain⟨h,ws,r,M,U,rfl,z⟩:=Y;obtain⟨E,aj,a3,O,b,t,G,P,Q,R,S,I⟩:=M
 have Z:r=[]\/∃t,r=32::t:=by grind
 have he:h++jb ws++r++v=h++(jb ws++(r++v)):=by simp
 rw[he] at av⊢;have hu:=aqC (ws:=ws) Z e.pH;have T:bM X (λq=>q=v') F (ho true D (jb ws++(r++v)) F):=by
  have g:c4 (r++v)=true:=by
   rcases Z with rfl|⟨t,rfl⟩
   ·exact e.pH
   ·rfl
  have A:cZ X F (jb ws++(r++v)):=av.sfx (fR _ _);exact(acp hm hD hW g (by simp[e.ne]) U A).DD (aqA hm hD y z e (A.sfx (fR _ _)))
 have J:∀a,bn (jb ws++(r++v))=some a->an a≠ .op [40]:=by
  intro a i;cases ws with
  |cons w ws=>
   have V:jb (w::ws)++(r++v)=32::(w++(jb ws++(r++v))):=by simp[jb]
   obtain⟨bS,⟨x,p,bV⟩,_⟩:=(hW w (U w (by simp))).1.tok (u:=jb ws++(r++v));grind[k3]
  |nil=>
   rcases z with rfl|rfl|⟨w,j,rfl⟩
   ·have d:bn v=some a:=i;rw[e.qj] at d;cases d;rcases e.Od with K|⟨o,K,_,aN⟩
    ·grind
    grind
   ·have d:bn (32::50::62::38::49::v)=some a:=i;rw[k3,jX (by decide) (by decide) (by decide)] at d;cases d;intro k;have:=(mK (by simp)).1 k;rw[mV (by decide)] at this;grind
   ·have d:bn (32::62::(w++v))=some a:=i;rw[k3,jX (by decide) (by decide) (by decide)] at d;cases d;intro k;have dz:=(mK (by simp)).1 k;obtain⟨c,t,rfl,_,_,_,_,fA,_⟩:=(y w j).1;grind[aco]
 generalize g6:jb ws++(r++v)=u at*;have lS:u≠[]:=by rw[<-g6];simp[e.ne]
 have L:=n6 E aj hu;have B:bn (h++u)=some (h++u):=by grind[jX]
 have l:fg (bu ((h++u).dropWhile cf))=false:=by
  rw[G];have:(b::t++u).dropWhile cf=b::t++u:=by simp_all
  rw[this,ib,mV I];decide
 unfold fM;rw[aT (cu B),L,aO (by simp),aO (by grind[gz])];simp only[OA];rw[aO (by grind),aT (s7 B l)];simp only[Bool.false_eq_true,if_false];have j:cO D (h++u) F= .ok () u F:=by grind[SP,JP]
 rw[aT j];by_cases N:my h=true
 ·rw[bh N];cases f:bn u with
  |none=>rw[dm (op:=[]) (nd:=(cV [] F []).1) (ds:=(cV [] F []).2) (iN f)];trivial
  |some a=>rw[aT (cu f)];rw[aO (J a f)];have m:=mi _ _ _ (cS _) f;rw[<-ao5 f m (ef f).length_le C];omega
 grind
end
theorem aqG{E:k4}(ok:E.mO){n:Nat}(b:Bool):ab E n (iC b):=ab.gb ok λt=>ab.ite (ab.N ok (ab.nl ok) λ_=>ab.ret _) (ab.ret _)
section
variable{X:fC}{m:Nat}(hm:X.c0<=m)
include hm
theorem acs{x:H}{F:ai}{b:Bool}{u:H}(hu:bn u=some (10::x))(c:bn x=some x)(d:an x≠ .line)(av:cZ X F (10::x)):bM X (λr=>r=x) F (ck iC b u F):=by
 have M:=aqm av;have g:=(ef hu).length_le;have e:iC b u F= .ok (.inl true) x F\/o6 X (iC b u F):=by
  rw[wz hu];unfold Go.Eng.N;cases az:jw (10::x) F with
  |ok a r' h=>
   rw[az] at M;rcases M with⟨rfl,rfl⟩|M
   ·exact .inl rfl
   ·exact .inr M
  |more _ _ _=>right;trivial
  |bad _=>right;trivial
  |deep _=>rw[az] at M;exact M.elim
 have U:=jN.rep hm (f:=iC) (λs=>aqG X.ok s) (s:=b) (s':=true) (r:=u) (v:=x) (F:=F) (by grind) e;refine U.DD ?_;rw[cK,s3 c d];exact .inl ⟨rfl,rfl⟩
theorem zO{j x:H}{F:ai}(b:j=[32]\/j=[10]\/j=[32,35,32,114,10])(c:bn x=some x)(a:an x≠ .line)(av:cZ X F (j++x)):bM X (λr=>r=x) F (c5 (j++x) F):=by
 rw[tW];rcases b with rfl|rfl|rfl
 ·have:bn ([32]++x)=some x:=by grind[k3]
  rw[cK,s3 this a];exact .inl ⟨rfl,rfl⟩
 ·grind[acs,nK,fL]
 ·have:bn ([32,35,32,114,10]++x)=some (10::x):=by simp[nK,fL,lV]
  exact acs hm this c a (av.sfx ⟨[32,35,32,114],rfl⟩)
end
theorem Of{j:H}(h:j∈jl):j=[10]\/∃o a,(a=[32]\/a=[10]\/a=[32,35,32,114,10])/\(o=[38,38]\/o=[124,124]\/o=[124]\/o=[59]\/o=[38])/\c4 j=true/\(∀x,bn (j++x)=some (o++(a++x))/\an (o++(a++x))= .op o)/\(o++a).length<=j.length:=by
 have Od:∀{b:UInt8}{t o:H},b≠10->bu (b::t)=o->o≠[]->an (b::t)= .op o:=by
  intro b t o c d av;have:an (b::t)=if b=10 then Tok.line else if bu (b::t)≠[] then .op (bu (b::t)) else .word (dg (b::t)).1 (dg (b::t)).2:=rfl
  grind
 simp only[jl,kM,rf,uA] at h;rcases h with rfl|rfl|rfl|rfl|rfl|rfl|rfl|rfl
 ·refine .inr ⟨[38,38],[32],by simp,by simp,rfl,λx=>⟨?_,?_⟩,by decide⟩
  ·show bn (32::38::38::32::x)=_;rw[k3,jX (by decide) (by decide) (by decide)];rfl
  rfl
 ·refine .inr ⟨[124,124],[32],by simp,by simp,rfl,λx=>⟨?_,?_⟩,by decide⟩
  ·show bn (32::124::124::32::x)=_;rw[k3,jX (by decide) (by decide) (by decide)];rfl
  rfl
 ·refine .inr ⟨[124],[32],by simp,by simp,rfl,λx=>⟨?_,?_⟩,by decide⟩
  ·show bn (32::124::32::x)=_;rw[k3,jX (by decide) (by decide) (by decide)];rfl
  rfl
 ·refine .inr ⟨[59],[32],by simp,by simp,rfl,λx=>⟨?_,?_⟩,by decide⟩
  ·show bn (59::32::x)=_;rw[jX (by decide) (by decide) (by decide)];rfl
  rfl
 ·refine .inr ⟨[38],[32],by simp,by simp,rfl,λx=>⟨?_,?_⟩,by decide⟩
  ·show bn (32::38::32::x)=_;rw[k3,jX (by decide) (by decide) (by decide)];rfl
  rfl
 ·simp
 ·refine .inr ⟨[124],[10],by simp,by simp,rfl,λx=>⟨?_,?_⟩,by decide⟩
  ·show bn (32::124::10::x)=_;rw[k3,jX (by decide) (by decide) (by decide)];rfl
  rfl
 ·refine .inr ⟨[59],[32,35,32,114,10],by simp,by simp,rfl,λx=>⟨?_,?_⟩,by decide⟩
  ·show bn (59::32::35::32::114::10::x)=_;rw[jX (by decide) (by decide) (by decide)];rfl
  rfl
theorem U0{j x:H}(h:j∈jl):∃v',et (j++x) v':=by
 rcases Of h with rfl|⟨o,c,M,U,d,a,e⟩
 ·refine⟨10::x,by simp,rfl,by simp[nK,fL],.inl rfl⟩
 ·refine⟨_,?_,?_,(a x).1,.inr ⟨o,(a x).2,?_,?_⟩⟩
  ·grind
  ·cases j with
   |nil=>grind
   |cons b t=>revert h;intro h;simp only[jl,kM,rf,uA] at h;rcases h with h|h|h|h|h|h|h|h<;>cases h<;>first|rfl|(show(fL _||_||bu _ !=[])=true;simp[bu,kG,w3,List.isPrefixOf])
  ·rcases U with rfl|rfl|rfl|rfl|rfl<;>decide
  grind
theorem bM.acu{X:fC}{n:Nat}(av:X.c0<=n){σ α:Type}{f:σ->ad (σ⊕α)}(hf:∀s,ab X.E n (f s)){b P:H->Prop}{s:σ}{r:H}{F:ai}(h:bM X b F (f s r F))
  (ax:∀s' ae,f s r F= .ok (.inl s') ae F->b ae->ae.length<r.length/\bM X P F (ck f s' ae F)) (Z:∀a ae,f s r F= .ok (.inr a) ae F->b ae->P ae):bM X P F (ck f s r F):=by
 rw[cK];cases hm:f s r F with
 |ok x ae c=>
  rw[hm] at h;cases x with
  |inl s'=>
   show bM X P F (if ae.length<r.length then ck f s' ae c else .bad ae);rcases h with⟨M,rfl⟩|M
   ·grind
   ·split
    ·exact bM.UT av (ab.rep X.ok hf s') M
    ·trivial
  |inr a=>
   rcases h with⟨M,rfl⟩|M
   ·exact .inl ⟨Z a ae hm M,rfl⟩
   ·exact .inr M
 |more _ _ _=>trivial
 |bad _=>trivial
 |deep _=>rw[hm] at h;exact h
structure zP(X:fC)(de:ad Unit)(C:H->Prop):Prop where
 run:∀{c v v':H}{F:ai},C c->et v v'->cZ X F (c++v)->bM X (λq=>q=v') F (de (c++v) F)
 head:∀{c:H}(x:H),C c->bn (c++x)=some (c++x)/\an (c++x)≠ .line/\an (c++x)≠ .eof/\cE (an (c++x)) [33]=false/\c≠[]
def U1(p:Tok->Bool)(l:List (H×H))(v:H)(q:H):Prop:=∃gq,gq<:+l/\bn (cR gq++v)=some q/\p (an q)=false
theorem acv{C:H->Prop}{l:List (H×H)}(h:∀p∈l,p.1∈jl/\C p.2){v v':H}(a:et v v'):∃b,et (cR l++v) b:=by
 cases l with
 |nil=>exact⟨v',a⟩
 |cons p l=>grind[U0,cR]
theorem Og{E:k4}(ok:E.mO){n:Nat}{de:ad Unit}(ay:ab E n de)(p:Tok->Bool)(w:Nat)(s:Unit):ab E n ((λ(_:Unit)=>N (bQ []) λt=>if p t=true then N (b5 w) λ_=>N (c5.aI [120]) λ_=>N de λ_=>aZ (.inl ()) else aZ (.inr ()):Unit->ad (Unit⊕Unit)) s):=
 ab.gb ok λt=>ab.ite (ab.N ok (ab.cQ ok _) λ_=>ab.N ok ((ab.lines ok).aI _) λ_=>ab.N ok ay λ_=>ab.ret _) (ab.ret _)
theorem Oh{p:Tok->Bool}{w:Nat}{de:ad Unit}{q:H}{F:ai}(a:bn q=some q)(az:p (an q)=false):q5 p w de q F= .ok () q F:=by unfold q5;rw[cK,aT (cu a),aO (by grind)];rfl
section
variable{X:fC}{m:Nat}(hm:X.c0<=m){de:ad Unit}(kJ:ab X.E m de){C:H->Prop}(eF:zP X de C)
include hm kJ eF
theorem acw{p:Tok->Bool}{w:Nat}(az:∀t,p t=true->∃o,t= .op o/\o.length=w/\0<w){v v':H}(e:et v v')(i:p (an v')=false):∀(l:List (H×H))(q:H)(F:ai),(∀x∈l,x.1∈jl/\C x.2)->bn (cR l++v)=some q->cZ X F q->bM X (U1 p l v) F (q5 p w de q F)
 |[],q,F,_,d,av=>by have m:bn v=some q:=d;rw[e.qj] at m;cases m;rw[Oh e.idem i];exact .inl ⟨⟨[],List.suffix_rfl,e.qj,i⟩,rfl⟩
 |(j,c)::l,q,F,h,d,av=>by
  have k:=mi _ _ _ (Nat.le_refl _) d;cases f:p (an q) with
  |false=>rw[Oh k f];exact .inl ⟨⟨(j,c)::l,List.suffix_rfl,d,f⟩,rfl⟩
  |true=>
   obtain⟨o,n,P,A⟩:=az _ f;obtain⟨B,ay⟩:=h (j,c) (by simp);have he:cR ((j,c)::l)++v=j++(c++(cR l++v)):=by simp[cR]
   rw[he] at d;rcases Of B with rfl|⟨Q,g,M,U,R,D,S⟩
   ·have:bn ([10]++(c++(cR l++v)))=some (10::(c++(cR l++v))):=by simp[nK,fL]
    simp_all[an]
   ·obtain⟨E,G⟩:=D (c++(cR l++v));rw[E] at d;cases d;rw[G] at n;cases n;obtain⟨s,hu⟩:=acv (l:=l) (λx I=>h x (by grind)) e;obtain⟨e1,J,T,V,W⟩:=eF.head (cR l++v) ay;have u:cZ X F (g++(c++(cR l++v))):=av.sfx (fR _ _);have y:cZ X F (c++(cR l++v)):=u.sfx (fR _ _);have K:cZ X F s:=(y.sfx (fR _ _)).sfx (ef hu.qj);unfold q5;have L:bM X (λr=>r=s) F ((N (bQ []) λt=>if p t=true then N (b5 w) λ_=>N (c5.aI [120]) λ_=>N de λ_=>(aZ (.inl ()):ad (Unit⊕Unit)) else aZ (.inr ())) (o++(g++(c++(cR l++v)))) F):=by rw[aT (cu k),bh f];rw[aT (show b5 w (o++(g++(c++(cR l++v)))) F= .ok () (g++(c++(cR l++v))) F from by grind[b5])];refine bM.N hm (zO hm M e1 J u).aI (λa r' _ Z=>?_) (λa=>ab.N X.ok kJ λ_=>ab.ret _);subst Z;refine bM.N hm (eF.run ay hu y) (λa r' _ Z=>?_) (λa=>ab.ret _);exact .inl ⟨Z,rfl⟩
    refine bM.acu hm (Og X.ok kJ p w) L (λs' ae b z=>?_) (λa ae b z=>?_)
    ·subst z;refine⟨?_,?_⟩
     ·have Y:=(ef hu.qj).length_le;grind
     ·have:=acw az e i l ae F (λx I=>h x (by grind)) hu.qj K;exact this.imp λr Z=>by obtain⟨gq,ax,O⟩:=Z;exact⟨gq,ax.trans (dN _ _),O⟩
    ·
     exfalso;rw[aT (cu k),bh f] at b;obtain⟨_,aC,dY,_,b⟩:=b7 b;obtain⟨_,cy,b8,_,b⟩:=b7 b;obtain⟨_,bZ,hJ,_,b⟩:=b7 b;cases b
end
theorem aqH(t:Tok)(h:qh t=true):∃o,t= .op o/\o.length=1/\0<1:=⟨_,OM h,rfl,by decide⟩
section
variable{X:fC}{m:Nat}(hm:X.c0<=m){de:ad Unit}(kJ:ab X.E m de){C:H->Prop}(eF:zP X de C)
include hm kJ eF
theorem acx{c v v':H}{l:List (H×H)}{F:ai}(ay:C c)(h:∀x∈l,x.1∈jl/\C x.2)(b:et v v')(d:qh (an v')=false)(av:cZ X F (c++(cR l++v))):bM X (U1 qh l v) F (fv de (c++(cR l++v)) F):=by obtain⟨e1,i,j,e,k⟩:=eF.head (cR l++v) ay;obtain⟨f,hu⟩:=acv (l:=l) h b;have g:cZ X F f:=(av.sfx (fR _ _)).sfx (ef hu.qj);rw[UJ,aT (cu e1),e];simp only[fo,cH];rw[aT (show aZ () (c++(cR l++v)) F= .ok () (c++(cR l++v)) F from rfl)];refine bM.N hm (eF.run ay hu av) (λa r' _ Z=>?_) (λa=>ab.rep X.ok (λs=>Og X.ok kJ qh 1 s) ());subst Z;exact acw hm kJ eF aqH b d l r' F h hu.qj g
end
def acy(l:List (H×H))(v:H)(q:H):Prop:=∃gq,gq<:+l/\bn (cR gq++v)=some q/\qh (an q)=false/\q6 (an q)=false
section
variable{X:fC}{m:Nat}(hm:X.c0<=m){de:ad Unit}(kJ:ab X.E m de){C:H->Prop}(eF:zP X de C)
include hm kJ eF
theorem aqI{v v':H}(i:et v v')(u:qh (an v')=false)(w:q6 (an v')=false):∀(bz:Nat)(l:List (H×H))(q:H)(F:ai),l.length<=bz->(∀x∈l,x.1∈jl/\C x.2)->bn (cR l++v)=some q->qh (an q)=false->cZ X F q->bM X (acy l v) F (q5 q6 2 (fv de) q F):=by
 have A:ab X.E m (fv de):=ab.pipe X.ok kJ;intro bz;induction bz with
 |zero=>intro l q F ax h d e av;have:l=[]:=nQ.1 (by omega);subst this;have B:bn v=some q:=d;rw[i.qj] at B;cases B;rw[Oh i.idem w];exact .inl ⟨⟨[],fS,i.qj,u,w⟩,rfl⟩
 |succ bz K=>
  intro l q F ax h d e av;have n:=mi _ _ _ (cS _) d;cases f:q6 (an q) with
  |false=>rw[Oh n f];exact .inl ⟨⟨l,fS,d,e,f⟩,rfl⟩
  |true=>
   cases l with
   |nil=>grind
   |cons y l=>
    obtain⟨j,c⟩:=y;obtain⟨L,ay⟩:=h (j,c) (by simp)
    have g:∀x∈l,x.1∈jl/\C x.2:=λx D=>h x (by grind)
    have he:cR ((j,c)::l)++v=j++(c++(cR l++v)):=by simp[cR]
    rw[he] at d
    obtain⟨o,E,hw⟩:∃o,an q= .op o/\o.length=2:=by unfold q6 at f;grind
    rcases Of L with rfl|⟨gn,k,M,U,aq,O,br⟩
    ·have:bn ([10]++(c++(cR l++v)))=some (10::(c++(cR l++v))):=by simp[nK,fL]
     simp_all[an]
    ·obtain⟨P,Q⟩:=O (c++(cR l++v));rw[P] at d;cases d;rw[Q] at E;cases E;obtain⟨e1,R,jo,kF,hd⟩:=eF.head (cR l++v) ay;have G:cZ X F (k++(c++(cR l++v))):=av.sfx (fR _ _);have I:cZ X F (c++(cR l++v)):=G.sfx (fR _ _);unfold q5;have S:bM X (U1 qh l v) F ((N (bQ []) λt=>if q6 t=true then N (b5 2) λ_=>N (c5.aI [120]) λ_=>N (fv de) λ_=>(aZ (.inl ()):ad (Unit⊕Unit)) else aZ (.inr ())) (o++(k++(c++(cR l++v)))) F):=by rw[aT (cu n),bh f];rw[aT (show b5 2 (o++(k++(c++(cR l++v)))) F= .ok () (k++(c++(cR l++v))) F from by grind[b5])];refine bM.N hm (zO hm M e1 R G).aI (λa r' _ Z=>?_) (λa=>ab.N X.ok A λ_=>ab.ret _);subst Z;refine bM.N hm (acx hm kJ eF ay g i u I) (λa r' _ Z=>?_) (λa=>ab.ret _);exact .inl ⟨Z,rfl⟩
     refine bM.acu hm (Og X.ok A q6 2) S (λs' ae b J=>?_) (λa ae b J=>?_)
     ·obtain⟨gq,p,s,T⟩:=J;have V:cR gq++v<:+c++(cR l++v):=by obtain⟨z,rfl⟩:=p;grind[cR]
      refine⟨?_,?_⟩
      ·have cB:=(ef s).length_le;grind
      ·have W:cZ X F ae:=(I.sfx V).sfx (ef s);have:=K gq ae F (by grind) (λx D=>g x (p.subset D)) s T W;exact this.imp λr Z=>by obtain⟨Y,A_,s4⟩:=Z;exact⟨Y,(A_.trans p).trans (dN _ _),s4⟩
     ·exfalso;rw[aT (cu n),bh f] at b;obtain⟨_,aC,dY,_,b⟩:=b7 b;obtain⟨_,cy,b8,_,b⟩:=b7 b;obtain⟨_,bZ,hJ,_,b⟩:=b7 b;cases b
end
section
variable{X:fC}{m:Nat}(hm:X.c0<=m){de:ad Unit}(kJ:ab X.E m de){C:H->Prop}(eF:zP X de C)
include hm kJ eF
theorem aqJ{c v v':H}{l:List (H×H)}{F:ai}(ay:C c)(h:∀x∈l,x.1∈jl/\C x.2)(d:et v v')(e:qh (an v')=false)(g:q6 (an v')=false)(av:cZ X F (c++(cR l++v))):bM X (acy l v) F (hT (fv de) (c++(cR l++v)) F):=by
 have i:ab X.E m (fv de):=ab.pipe X.ok kJ;rw[UK];refine bM.N hm (acx hm kJ eF ay h d e av) (λa q _ j=>?_) (λa=>ab.rep X.ok (λs=>Og X.ok i q6 2 s) ());obtain⟨gq,b,f,k⟩:=j;have n:cR gq++v<:+c++(cR l++v):=by obtain⟨z,rfl⟩:=b;grind[cR]
 have o:cZ X F q:=(av.sfx n).sfx (ef f);have:=aqI hm kJ eF d e g gq.length gq q F (cS _) (λx p=>h x (b.subset p)) f k o;exact this.imp λr Z=>by obtain⟨t,u,w⟩:=Z;exact⟨t,u.trans b,w⟩
end
theorem GA{E:k4}(ok:E.mO){n:Nat}{da:ad Unit}(h:ab E n da)(c:Ctx)(no:Bool)(s:Nat):ab E n (fa da c no s):=by
 unfold fa;refine ab.gb ok λt=>ab.ite (ab.ite (ab.ret _) (ab.cb _)) (ab.ite (ab.ret _) (ab.N ok h λ_=>ab.gb ok λt=>?_));unfold iM;cases t with
 |eof=>simp[ab.ret]
 |line=>grind[ab.N,ab.lines,ab.ret]
 |word _ _=>exact ab.bE
 |op o=>exact ab.ite (ab.N ok (ab.cQ ok _) λ_=>ab.N ok (ab.lines ok) λ_=>ab.ret _) (ab.ite (ab.ret _) ab.bE)
theorem bM.q_{X:fC}{n:Nat}(av:X.c0<=n){σ α β:Type}{f:σ->ad (σ⊕α)}(hf:∀s,ab X.E n (f s)){g P:H->Prop}{m:ad β}{k:β->ad (σ⊕α)}{r r0:H}{F:ai}(h:bM X g F (m r F))
  (aw:∀a r',m r F= .ok a r' F->g r'->bM X P F (cX f r0 (k a r' F))) (he:∀a,ab X.E n (k a)):bM X P F (cX f r0 (Go.Eng.N m k r F)):=by
 unfold Go.Eng.N;cases hm:m r F with
 |ok a r' d=>
  rw[hm] at h;rcases h with⟨M,rfl⟩|M
  ·grind
  ·simp only;have U:o6 X (k a r' d):=by
    have:=he a r' d (k4.g_.Ob M av);cases c:k a r' d with
    |ok _ _ _=>rw[c] at this;exact k4.g_.down X.ok M this.1 this.2
    |more _ _ _=>trivial
    |bad _=>trivial
    |deep _=>rw[c] at this;exact this
   cases c:k a r' d with
   |ok x e i=>
    rw[c] at U;cases x with
    |inl s'=>
     show bM X P F (if e.length<r0.length then ck f s' e i else .bad e);split
     ·exact bM.UT av (ab.rep X.ok hf s') U
     ·trivial
    |inr b=>exact .inr U
   |more _ _ _=>trivial
   |bad _=>trivial
   |deep _=>rw[c] at U;exact U
 |more _ _ _=>trivial
 |bad _=>trivial
 |deep _=>rw[hm] at h;exact h
section
variable{X:fC}{m:Nat}(hm:X.c0<=m){de:ad Unit}(kJ:ab X.E m de){C:H->Prop}(eF:zP X de C)(vg:∀{c:H}(x:H)(k:Ctx),C c->ec k (an (c++x))=false)
include hm kJ eF vg
theorem acB{v v' f:H}{ctx:Ctx}{no:Bool}{F:ai}(u:et v v')(E:qh (an v')=false)(G:q6 (an v')=false)
  (bl:∀k r0,v'.length<r0.length->bM X (λr=>r=f) F (cX (fa (hT (fv de)) ctx no) r0 (iM ctx k (an v') v' F))) {l:List (H×H)} {c:H} {k:Nat} (ay:C c) (h:∀x∈l,x.1∈jl/\C x.2) (av:cZ X F (c++(cR l++v)))
  (rm:∀(j b:H)(d:List (H×H)),(j,b)::d<:+l->∀(g:Nat),C b->cZ X F (b++(cR d++v))->bM X (λr=>r=f) F (ck (fa (hT (fv de)) ctx no) g (b++(cR d++v)) F)):bM X (λr=>r=f) F (ck (fa (hT (fv de)) ctx no) k (c++(cR l++v)) F):=by
 have eR:ab X.E m (hT (fv de)):=ab.oC X.ok (ab.pipe X.ok kJ);obtain⟨e1,b,I,kF,J⟩:=eF.head (cR l++v) ay;rw[cK];have K:fa (hT (fv de)) ctx no k (c++(cR l++v)) F=N (hT (fv de)) (λ_=>N (bQ []) (iM ctx k)) (c++(cR l++v)) F:=by unfold fa;rw[aT (cu e1),aO I,aO (by grind)]
 rw[K]
 have i:∀k,ab X.E m (N (bQ []) (iM ctx k)):=λk=>ab.gb X.ok λt=>by
  unfold iM;cases t with
  |eof=>simp[ab.ret]
  |line=>exact ab.N X.ok (ab.lines X.ok) λ_=>ab.ret _
  |word _ _=>exact ab.bE
  |op o=>exact ab.ite (ab.N X.ok (ab.cQ X.ok _) λ_=>ab.N X.ok (ab.lines X.ok) λ_=>ab.ret _) (ab.ite (ab.ret _) ab.bE)
 refine bM.q_ hm (GA X.ok eR ctx no) (aqJ hm kJ eF ay h u E G av) (λa q bN L=>?_) (λ_=>i k);obtain⟨gq,n,e,O,P⟩:=L;have Q:=mi _ _ _ (Nat.le_refl _) e;rw[aT (cu Q)];have mB:=List.length_pos_iff.2 J;have R:cR gq++v<:+c++(cR l++v):=by obtain⟨z,rfl⟩:=n;grind[cR]
 have S:(cR gq++v).length<=(cR l++v).length:=by obtain⟨z,rfl⟩:=n;simp[cR]
 have T:=(ef e).length_le;have V:q.length<(c++(cR l++v)).length:=by grind
 have p:cZ X F q:=(av.sfx R).sfx (ef e);cases gq with
 |nil=>have W:bn v=some q:=e;rw[u.qj] at W;grind
 |cons y d=>
  obtain⟨j,b⟩:=y;obtain⟨Y,xh⟩:=h (j,b) (n.subset (by simp));have he:cR ((j,b)::d)++v=j++(b++(cR d++v)):=by simp[cR]
  rw[he] at e S T;obtain⟨w,A,d3,d4,d5⟩:=eF.head (cR d++v) xh
  have B:∀(r:H),r=b++(cR d++v)->r.length<(c++(cR l++v)).length->cZ X F r->bM X (λr=>r=f) F (cX (fa (hT (fv de)) ctx no) (c++(cR l++v)) (aZ (.inl (k+1)) r F)):=by rintro r rfl Z acr;show bM X _ F (if(b++(cR d++v)).length<(c++(cR l++v)).length then ck (fa (hT (fv de)) ctx no) (k+1) (b++(cR d++v)) F else .bad _);grind
  rcases Of Y with rfl|⟨o,s,M,U,aq,aX,br⟩
  ·have lZ:bn ([10]++(b++(cR d++v)))=some (10::(b++(cR d++v))):=by simp[nK,fL]
   rw[lZ] at e;cases e;have g7:an (10::(b++(cR d++v)))= .line:=rfl;rw[g7];unfold iM;simp only;refine bM.q_ hm (GA X.ok eR ctx no) (zO hm (j:=[10]) (.inr (.inl rfl)) w A p) (λa r _ Z=>?_) (λ_=>ab.ret _);refine B r Z ?_ (by rw[Z];exact p.sfx (dN _ _));rw[Z];exact Nat.lt_trans (yk _) V
  ·obtain⟨bS,g⟩:=aX (b++(cR d++v));rw[bS] at e;cases e;rw[g] at O P⊢;have aN:o=[59]\/o=[38]:=by simp_all[q6,qh]
   unfold iM;simp only;rw[bh aN];have hw:o.length=1:=by grind
   rw[aT (show b5 1 (o++(s++(b++(cR d++v)))) F= .ok () (s++(b++(cR d++v))) F from by grind[b5])];have D:cZ X F (s++(b++(cR d++v))):=p.sfx (fR _ _);refine bM.q_ hm (GA X.ok eR ctx no) (zO hm M w A D) (λa r _ Z=>?_) (λ_=>ab.ret _);refine B r Z ?_ (by rw[Z];exact D.sfx (fR _ _));grind
theorem acC{v v' a:H}{ctx:Ctx}{no:Bool}{F:ai}(b:et v v')(d:qh (an v')=false)(e:q6 (an v')=false)
  (bl:∀k r0,v'.length<r0.length->bM X (λr=>r=a) F (cX (fa (hT (fv de)) ctx no) r0 (iM ctx k (an v') v' F))):∀(bz:Nat)(l:List (H×H))(c:H)(k:Nat),l.length<=bz->C c->(∀x∈l,x.1∈jl/\C x.2)->cZ X F (c++(cR l++v))->bM X (λr=>r=a) F (ck (fa (hT (fv de)) ctx no) k (c++(cR l++v)) F):=by
 have eR:ab X.E m (hT (fv de)):=ab.oC X.ok (ab.pipe X.ok kJ);intro bz;induction bz with
 |zero=>
  intro l c k ax ay h av;have:l=[]:=nQ.1 (by omega);subst this
  exact acB hm kJ eF vg b d e bl ay h av (λj f g i=>by grind)
 |succ bz n=>intro l c k ax ay h av;refine acB hm kJ eF vg b d e bl ay h av (λj f g i o p q=>?_);grind
end
theorem aqL{X:fC}{da:ad Unit}{ctx:Ctx}{no:Bool}{F:ai}{v' o:H}(a:an v'= .op o)(M:o≠[59])(U:o≠[38])(he:ec ctx (.op o)=true)(k:Nat)(r0:H):bM X (λr=>r=v') F (cX (fa da ctx no) r0 (iM ctx k (an v') v' F)):=by rw[a];unfold iM;simp only;rw[aO (by grind),if_pos he];exact .inl ⟨rfl,rfl⟩
theorem aqM{X:fC}{da:ad Unit}{ctx:Ctx}{no:Bool}{F:ai}{x:H}{k:Nat}(a:bn x=some x)(bc:an x≠ .eof)(he:ec ctx (an x)=true):bM X (λr=>r=x) F (ck (fa da ctx no) (k+1) x F):=by
 rw[cK];have:fa da ctx no (k+1) x F= .ok (.inr (k+1)) x F:=by unfold fa;rw[aT (cu a),if_neg bc,if_pos (by grind)];rfl
 rw[this];exact .inl ⟨rfl,rfl⟩
section
variable{X:fC}{m:Nat}(hm:X.c0<=m){da:ad Unit}(eR:ab X.E m da)
include hm eR
theorem acD{ctx:Ctx}{no:Bool}{F:ai}{u x:H}{k:Nat}{r0:H}(ax:bM X (λr=>r=x) F (c5 u F))(b:x.length<r0.length)(c:bn x=some x)(bc:an x≠ .eof)(he:ec ctx (an x)=true):bM X (λr=>r=x) F (cX (fa da ctx no) r0 (N c5 (λ_=>aZ (.inl (k+1))) u F)):=by refine bM.q_ hm (GA X.ok eR ctx no) ax (λa r _ Z=>?_) (λ_=>ab.ret _);subst Z;show bM X _ F (if r.length<r0.length then ck (fa da ctx no) (k+1) r F else .bad r);simp_all[aqM]
theorem aqN{ctx:Ctx}{no:Bool}{F:ai}{x:H}(b:bn x=some x)(c:an x≠ .line)(bc:an x≠ .eof)(he:ec ctx (an x)=true)(av:cZ X F (10::x))(k:Nat)(r0:H)(a:(10::x).length<r0.length):bM X (λr=>r=x) F (cX (fa da ctx no) r0 (iM ctx k (an (10::x)) (10::x) F)):=by have d:an (10::x)= .line:=rfl;rw[d];unfold iM;simp only;exact acD hm eR (zO hm (j:=[10]) (.inr (.inl rfl)) b c av) (Nat.lt_trans (Nat.lt_succ_self _) a) b bc he
theorem aqO{ctx:Ctx}{no:Bool}{F:ai}{y x:H}(a:bn y=some x)(c:an x≠ .line)(bc:an x≠ .eof)(he:ec ctx (an x)=true)(d:an (59::y)= .op [59])(k:Nat)(r0:H)(b:(59::y).length<r0.length):bM X (λr=>r=x) F (cX (fa da ctx no) r0 (iM ctx k (an (59::y)) (59::y) F)):=by have e:=mi _ _ _ (Nat.le_refl _) a;have ax:=(ef a).length_le;rw[d];unfold iM;simp only;rw[if_pos (by simp),aT (show b5 1 (59::y) F= .ok () y F from rfl)];refine acD hm eR ?_ (by grind) e bc he;rw[p9 a c];exact .inl ⟨rfl,rfl⟩
end
structure jE(X:fC)(da:ad Unit)(ctx:Ctx)(no:Bool)(v v' e7:H)(F:ai):Prop where
 ce:et v v'
 acE:qh (an v')=false
 acF:q6 (an v')=false
 go:∀k r0,v'.length<r0.length->bM X (λr=>r=e7) F (cX (fa da ctx no) r0 (iM ctx k (an v') v' F))
theorem et.op{o:H}{t:H}(Y:bn t=some t)(a:an t= .op o)(M:fg o=false)(U:o≠[40]):et t t:=by
 have c:=h4 a;refine⟨?_,?_,Y,.inr ⟨o,a,M,U⟩⟩
 ·grind
 ·cases t with
  |nil=>rfl
  |cons b u=>show(fL b||b==10||bu (b::u)!=[])=true;grind
theorem et.nl(x:H):et (10::x) (10::x):=⟨by simp,rfl,by simp[nK,fL],.inl rfl⟩
section
variable{X:fC}{m:Nat}(hm:X.c0<=m){de:ad Unit}(kJ:ab X.E m de){C:H->Prop}(eF:zP X de C)(vg:∀{c:H}(x:H)(k:Ctx),C c->ec k (an (c++x))=false)
theorem jE.op{da:ad Unit}{ctx:Ctx}{no:Bool}{F:ai}{v o:H}(Y:bn v=some v)(a:an v= .op o)(he:ec ctx (.op o)=true):jE X da ctx no v v v F:=by
 have b:o=[41]\/o=[59,59]:=by cases ctx<;>simp[ec,cE] at he<;>first|grind|grind
 refine⟨et.op Y a ?_ ?_,?_,?_,λk r0 _=>aqL a ?_ ?_ he k r0⟩
 ·rcases b with rfl|rfl<;>decide
 ·grind
 ·rw[a];rcases b with rfl|rfl<;>decide
 ·rw[a];rcases b with rfl|rfl<;>decide
 ·grind
 grind
include hm in
theorem jE.nl{da:ad Unit}(eR:ab X.E m da){ctx:Ctx}{no:Bool}{F:ai}{x:H}(ak:bn x=some x)(al:an x≠ .line)(bc:an x≠ .eof)(he:ec ctx (an x)=true)(av:cZ X F (10::x)):jE X da ctx no (10::x) (10::x) x F:=
 ⟨et.nl x,rfl,rfl,λk r0 ax=>aqN hm eR ak al bc he av k r0 ax⟩
include hm in
theorem jE.acG{da:ad Unit}(eR:ab X.E m da){ctx:Ctx}{no:Bool}{F:ai}{y x:H}(bm:bn y=some x)(al:an x≠ .line)(bc:an x≠ .eof)(he:ec ctx (an x)=true)(fO:an (59::y)= .op [59]):jE X da ctx no (59::y) (59::y) x F:=
 ⟨et.op (jX (by decide) (by decide) (by decide)) fO (by decide) (by decide),by rw[fO];decide,by rw[fO];decide,λk r0 ax=>aqO hm eR bm al bc he fO k r0 ax⟩
include hm kJ eF vg
theorem aqP{pre t v v' d:H}{ctx:Ctx}{no:Bool}{F:ai}(az:pre=[]\/pre=[32]\/pre=[10])(e:rY C t)(bl:jE X (hT (fv de)) ctx no v v' d F)(av:cZ X F (pre++(t++v))):bM X (λr=>r=d) F (n4 (hT (fv de)) ctx no (pre++(t++v)) F):=by
 obtain⟨c,l,M,U,rfl⟩:=e;rw[rb] at av⊢;obtain⟨e1,b,g,h,i⟩:=eF.head (cR l++v) M;have f:cZ X F (c++(cR l++v)):=av.sfx (fR _ _);rw[sj];have eR:ab X.E m (hT (fv de)):=ab.oC X.ok (ab.pipe X.ok kJ);refine bM.N (P:=λr=>r=c++(cR l++v)) hm (bM.aI ?_) (λa r' _ Z=>?_) (λ_=>ab.rep X.ok (λs=>GA X.ok eR ctx no s) 0)
 ·rcases az with rfl|rfl|rfl
  ·rw[re,p9 e1 b];exact .inl ⟨rfl,rfl⟩
  ·exact zO hm (.inl rfl) e1 b av
  ·exact zO hm (.inr (.inl rfl)) e1 b av
 ·subst Z;exact acC hm kJ eF vg bl.ce bl.acE bl.acF bl.go l.length l c 0 (cS _) M U f
end
def DE(c:H):Prop:=∃b t,c=b::t/\fL b=false/\b≠35/\b≠92/\b≠10/\b≠33/\(b=40\/o0 b=false/\(([125,116,101,102,100]:H).contains b=false\/∃k u,t=k::u/\(b=101/\k=99\/b=102/\k≠105)))
theorem U3{r w:H}(h:cE (an r) w=true):w<+:r:=by grind[Gd,Ft,Ug]
theorem DE.facts{c:H}(h:DE c)(x:H):(bn (c++x)=some (c++x)/\an (c++x)≠ .line/\an (c++x)≠ .eof/\cE (an (c++x)) [33]=false/\c≠[])/\∀k,ec k (an (c++x))=false:=by
 obtain⟨b,t,rfl,M,U,f,g,n,e⟩:=h
 have bc:∀w:H,w<+:b::t++x->w.head?≠none->w.head?=some b:=by
  intro w d av;cases w with
  |nil=>grind
  |cons a w=>grind
 have hW:∀w∈([[33],[125],hj,ir,gi,eb,hn,jh,eK]:bw),cE (an (b::t++x)) w=false:=by
  intro w d;cases bg:cE (an (b::t++x)) w with
  |false=>rfl
  |true=>
   exfalso;have az:=U3 bg;have i:=bc w az ((by decide:∀w∈([[33],[125],hj,ir,gi,eb,hn,jh,eK]:bw),w.head?≠none) w d);rcases e with rfl|⟨j,ay|⟨k,u,rfl,aw⟩⟩
   ·exact(by decide:∀w∈([[33],[125],hj,ir,gi,eb,hn,jh,eK]:bw),w.head?≠some 40) w d i
   ·have:([33,125,116,101,102,100]:H).contains b=true:=by
     have:∀w∈([[33],[125],hj,ir,gi,eb,hn,jh,eK]:bw),∀b,w.head?=some b->([33,125,116,101,102,100]:H).contains b=true:=by decide
     grind
    grind
   ·simp only[kM,rf,uA] at d;rcases aw with⟨rfl,rfl⟩|⟨rfl,aw⟩
    ·rcases d with rfl|rfl|rfl|rfl|rfl|rfl|rfl|rfl|rfl<;>simp[hj,ir,gi,eb,hn,jh,eK] at az
    ·rcases d with rfl|rfl|rfl|rfl|rfl|rfl|rfl|rfl|rfl<;>simp[hj,ir,gi,eb,hn,jh,eK] at az;grind
 have o:an (b::t++x)= .op [40]\/∃w p,an (b::t++x)= .word w p:=by
  rw[ib,xT,aO g];rcases e with rfl|⟨j,_⟩
  ·simp[SQ]
  simp_all[mV]
 refine⟨⟨jX M U f,?_,?_,hW _ (by simp),by simp⟩,λk=>?_⟩
 ·grind
 ·grind
 ·have l:(an (b::t++x)== .eof)=false:=by grind
  have m:(an (b::t++x)== .op [41])=false:=by grind
  have q:(an (b::t++x)== .op [59,59])=false:=by grind
  unfold ec;cases k
  ·exact l
  ·exact m
  ·grind
  ·grind
  ·grind
  ·grind
  ·grind
  ·simp_all
  simp_all
def x_(d:Nat)(c:H):Prop:=zM d c\/c=[97]\/c=[98]\/c=[99]
theorem x_.aD{d:Nat}{c:H}(h:x_ d c):DE c:=by
 have Y:∀{W a:H->Prop},qi W a c->DE c:=by
  rintro W a ⟨x,ws,r,M,U,rfl,l⟩;simp only[q7,kM,rf,uA] at M;rcases M with rfl|rfl|rfl|rfl
  ·exact⟨_,_,rfl,by decide,by decide,by decide,by decide,by decide,.inr ⟨by decide,.inl (by decide)⟩⟩
  ·exact⟨_,_,rfl,by decide,by decide,by decide,by decide,by decide,.inr ⟨by decide,.inr ⟨_,_,rfl,.inl ⟨rfl,rfl⟩⟩⟩⟩
  ·exact⟨_,_,rfl,by decide,by decide,by decide,by decide,by decide,.inr ⟨by decide,.inl (by decide)⟩⟩
  ·exact⟨_,_,rfl,by decide,by decide,by decide,by decide,by decide,.inr ⟨by decide,.inl (by decide)⟩⟩
 rcases h with h|rfl|rfl|rfl
 ·cases d with
  |zero=>exact Y h
  |succ d=>
   rcases h with h|h
   ·grind
   ·have h0:∀{b:UInt8}{t:H},fL b=false/\b≠35/\b≠92/\b≠10/\b≠33/\o0 b=false/\([125,116,101,102,100]:H).contains b=false->DE (b::t):=λ⟨e,aj,a3,f,g,i,j⟩=>⟨_,_,rfl,e,aj,a3,f,g,.inr ⟨i,.inl j⟩⟩
    have hf:∀{k:UInt8}{t:H},k≠105->DE (102::k::t):=λaw=>⟨_,_,rfl,by decide,by decide,by decide,by decide,by decide,.inr ⟨by decide,.inr ⟨_,_,rfl,.inr ⟨rfl,aw⟩⟩⟩⟩
    rcases h with⟨t,M,rfl⟩|⟨t,M,rfl⟩|⟨t,u,M,U,rfl⟩|⟨t,u,M,U,rfl⟩|⟨t,u,M,U,rfl⟩|⟨w,u,M,U,rfl⟩|rfl|⟨w,u,M,U,rfl⟩|⟨t,M,rfl⟩
    ·exact⟨40,_,rfl,by decide,by decide,by decide,by decide,by decide,.inl rfl⟩
    ·exact h0 (by decide)
    ·exact h0 (by decide)
    ·exact h0 (by decide)
    ·exact h0 (by decide)
    ·grind
    ·grind
    ·exact h0 (by decide)
    grind
 all_goals exact⟨_,_,rfl,by decide,by decide,by decide,by decide,by decide,.inr ⟨by decide,.inl (by decide)⟩⟩
structure ra(X:fC)(d n:Nat):Prop where
 ls:∀{pre t v v' e7:H}{ctx:Ctx}{no:Bool}{F:ai},(pre=[]\/pre=[32]\/pre=[10])->rY (x_ d) t->jE X (jj true n) ctx no v v' e7 F->cZ X F (pre++(t++v))->bM X (λr=>r=e7) F ((aS true n).ls ctx no (pre++(t++v)) F)
 wd:∀w,fY d w->eZ X (aS true n).dl w
 rd:∀{t v v' e7:H}{ctx:Ctx}{no:Bool}{F:ai}(k:Nat),rY (x_ d) t->jE X (jj true n) ctx no v v' e7 F->cZ X F (t++v)->bM X (λr=>r=e7) F (ck (fa (jj true n) ctx no) k (t++v) F)
theorem rY.imp{C a:H->Prop}(h:∀c,C c->a c){t:H}(b:rY C t):rY a t:=by obtain⟨c,l,M,U,d⟩:=b;exact⟨c,l,h c M,λp az=>⟨(U p az).1,h _ (U p az).2⟩,d⟩
theorem gP.cc{d:Nat}{t:H}(h:gP d t):rY (x_ d) t:=by rw[N_] at h;exact h.imp λc ay=> .inl ay
theorem DF{d:Nat}{b:UInt8}(h:b=97\/b=98\/b=99):rY (x_ d) [b]:=by
 refine⟨[b],[],?_,by simp,by rfl⟩;rcases h with rfl|rfl|rfl
 ·exact .inr (.inl rfl)
 ·exact .inr (.inr (.inl rfl))
 ·exact .inr (.inr (.inr rfl))
theorem ra.U4{X:fC}{d n:Nat}(h:ra X d n):UX X n d:=by intro t v F a av;have:=h.ls (pre:=[]) (t:=t) (v:=41::v) (ctx:= .paren) (no:=true) (F:=F) (.inl rfl) a.cc (jE.op (oN v) (m1 v) rfl) av;grind
theorem GB{l:dK}{o r:H}{F:ai}:gA l (.op o) r F=N ((l.ls .paren false).aI [41]) (λ_=>ji [41]) (r.drop 1) F:=rfl
theorem zQ{l:dK}{w r:H}{p:Bool}{F:ai}:gA l (.word w p) r F=(if w=[123] then N ((l.ls .p7 false).aI [10,125]) λ_=>cF [125]
 else if w=jW then qI l
 else if w=mz then pv l l.dl
 else if w=oA then qJ l l.dl
 else N ((l.ls .p8 false).aI eB) λ_=>iX l eB:ad Unit) (r.drop w.length) F:=rfl
def DG(l:dK):Unit->ad (Unit⊕Unit):=λ_=>N ((l.ls .oZ false).aI ([10]++hj++[32,120,10]++eb)) λ_=>N (cF hj) λ_=>N ((l.ls .qH false).aI (10::eb)) λ_=>
    N (bQ []) λt=>if cE t ir then N (cF ir) λ_=>aZ (.inl ()) else
     if cE t gi then N (cF gi) λ_=>N ((l.ls .ku false).aI (10::eb)) λ_=>N (cF eb) λ_=>aZ (.inr ()) else N (cF eb) λ_=>aZ (.inr ())
theorem U5(l:dK):qI l=ck (DG l) ():=rfl
theorem Oi{b:UInt8}{t:H}(h:b≠59):an (59::b::t)= .op [59]:=by rw[mK (by simp)];simp[bu,kG,w3,List.isPrefixOf,h.symm]
theorem GC{t:H}:an (59::59::t)= .op [59,59]:=by rfl
theorem zR(t:H):bn (59::t)=some (59::t):=jX (by decide) (by decide) (by decide)
theorem jE.ya{X:fC}{n m:Nat}(hm:X.c0<=m)(eR:ab X.E m (jj true n)){ctx:Ctx}{no:Bool}{F:ai}{w v:H}(av:w≠[])(a:w.all qT=true)(b:w.head?≠some 35)(c:c4 v=true)(he:ec ctx (.word w true)=true)(d:cZ X F (10::(w++v))):jE X (jj true n) ctx no (10::(w++v)) (10::(w++v)) (w++v) F:=by grind[mH,jE.nl]
theorem jE.U6{X:fC}{n m:Nat}(hm:X.c0<=m)(eR:ab X.E m (jj true n)){ctx:Ctx}{no:Bool}{F:ai}{w v:H}(av:w≠[])(a:w.all qT=true)(c:w.head?≠some 35)(d:c4 v=true)(he:ec ctx (.word w true)=true)(e:w.head?≠some 59):jE X (jj true n) ctx no (59::(w++v)) (59::(w++v)) (w++v) F:=by
 obtain⟨f,g⟩:=mH av a c d;cases w with
 |nil=>grind
 |cons b t=>grind[jE.acG,Oi]
theorem jE.U7{X:fC}{n m:Nat}(hm:X.c0<=m)(eR:ab X.E m (jj true n)){ctx:Ctx}{no:Bool}{F:ai}{w v:H}(av:w≠[])(a:w.all qT=true)(b:w.head?≠some 35)(c:c4 v=true)(he:ec ctx (.word w true)=true):jE X (jj true n) ctx no (59::32::(w++v)) (59::32::(w++v)) (w++v) F:=by grind[mH,jE.acG,k3,Oi]
theorem bM.ok{X:fC}{α:Type}{a:α}{r:H}{F:ai}:bM X (λq=>q=r) F (.ok a r F):= .inl ⟨rfl,rfl⟩
theorem yb{E:k4}(ok:E.mO){m:Nat}(hm:xG E m)(s:Unit):ab E m (DG (aS true m) s):=ab.N ok ((hm.ls _ _).aI _) λ_=>ab.N ok (ab.cF ok _) λ_=>ab.N ok ((hm.ls _ _).aI _) λ_=>
 ab.gb ok λt=>ab.ite (ab.N ok (ab.cF ok _) λ_=>ab.ret _) (ab.ite (ab.N ok (ab.cF ok _) λ_=>ab.N ok ((hm.ls _ _).aI _) λ_=>ab.N ok (ab.cF ok _) λ_=>ab.ret _) (ab.N ok (ab.cF ok _) λ_=>ab.ret _))
theorem Oj{E:k4}(ok:E.mO)(m:Nat):ab E (m+1) (jj true (m+1)):=ab.oC ok (ab.pipe ok (ab.command ok (mW ok m)))
section
variable{X:fC}{m:Nat}(hm:X.c0<=m)(eR:ab X.E m (jj true m)){d:Nat}(kw:ra X d m)
include hm eR kw
theorem aqQ{t v:H}{F:ai}(b:gP d t)(av:cZ X F ([40]++t++[41]++v)):bM X (λr=>r=v) F (gA (aS true m) (.op [40]) ([40]++t++[41]++v) F):=by
 have he:[40]++t++[41]++v=40::(t++(41::v)):=by simp
 rw[he] at av⊢;rw[GB];refine bM.N hm (kw.ls (pre:=[]) (v:=41::v) (.inl rfl) b.cc (jE.op (oN v) (m1 v) rfl) (av.sfx ⟨[40],rfl⟩)).aI (λa r' _ Z=>?_) (λ_=>ab.ji X.ok _);grind[A1,oN,m1,bM.ok]
theorem acI{t v:H}{F:ai}(b:c4 v=true)(e:gP d t)(av:cZ X F ([123,32]++(t++[10])++[125]++v)):bM X (λr=>r=v) F (gA (aS true m) (.word [123] true) ([123,32]++(t++[10])++[125]++v) F):=by
 have he:[123,32]++(t++[10])++[125]++v=123::([32]++(t++(10::([125]++v)))):=by simp
 rw[he] at av⊢;rw[zQ,bh rfl];have c:cZ X F ([32]++(t++(10::([125]++v)))):=av.sfx ⟨[123],rfl⟩;refine bM.N hm (kw.ls (.inr (.inl rfl)) e.cc (jE.ya (w:=[125]) hm eR (by simp) (by decide) (by decide) b rfl (c.sfx ⟨32::t,by simp⟩)) c).aI (λa r' _ Z=>?_) (λ_=>ab.cF X.ok _);subst Z;rw[rN (by simp) (by decide) (by decide) b];exact bM.ok
theorem acJ{t u v:H}{F:ai}(b:c4 v=true)(f:gP d t)(hu:gP d u)(av:cZ X F ([105,102,32]++(t++[59])++[32,116,104,101,110,32]++(u++[10])++[102,105]++v)):bM X (λr=>r=v) F (gA (aS true m) (.word jW true) ([105,102,32]++(t++[59])++[32,116,104,101,110,32]++(u++[10])++[102,105]++v) F):=by
 have bk:=mW X.ok m;have he:[105,102,32]++(t++[59])++[32,116,104,101,110,32]++(u++[10])++[102,105]++v=jW++([32]++(t++(59::32::(hj++([32]++(u++(10::(eb++v)))))))):=by simp[jW,hj,eb]
 rw[he] at av⊢;rw[zQ,aO (by decide),bh rfl,oO,U5,cK];have c:=av.sfx (fR jW _);have e:cZ X F ([32]++(u++(10::(eb++v)))):=c.sfx ⟨32::t++59::32::hj,by simp⟩;have g:cZ X F (10::(eb++v)):=e.sfx ⟨32::u,by simp⟩;unfold DG;refine bM.q_ hm (yb X.ok bk) (kw.ls (.inr (.inl rfl)) f.cc (jE.U7 (w:=hj) hm eR (by decide) (by decide) (by decide) rfl rfl) c).aI (λa r' _ Z=>?_) (λ_=>ab.N X.ok (ab.cF X.ok _) λ_=>ab.N X.ok ((bk.ls _ _).aI _) λ_=>ab.gb X.ok λt=>ab.ite (ab.N X.ok (ab.cF X.ok _) λ_=>ab.ret _) (ab.ite (ab.N X.ok (ab.cF X.ok _) λ_=>ab.N X.ok ((bk.ls _ _).aI _) λ_=>ab.N X.ok (ab.cF X.ok _) λ_=>ab.ret _) (ab.N X.ok (ab.cF X.ok _) λ_=>ab.ret _)));subst Z;rw[aT (rN (by decide) (by decide) (by decide) rfl)];refine bM.q_ hm (yb X.ok bk) (kw.ls (.inr (.inl rfl)) hu.cc (jE.ya (w:=eb) hm eR (by decide) (by decide) (by decide) b rfl g) e).aI (λa r' _ Z=>?_) (λ_=>ab.gb X.ok λt=>ab.ite (ab.N X.ok (ab.cF X.ok _) λ_=>ab.ret _) (ab.ite (ab.N X.ok (ab.cF X.ok _) λ_=>ab.N X.ok ((bk.ls _ _).aI _) λ_=>ab.N X.ok (ab.cF X.ok _) λ_=>ab.ret _) (ab.N X.ok (ab.cF X.ok _) λ_=>ab.ret _)));subst Z;obtain⟨h,i⟩:=mH (w:=eb) (r:=v) (by decide) (by decide) (by decide) b;rw[aT (cu i),h,aO (by decide),aO (by decide),aT (rN (by decide) (by decide) (by decide) b)];exact bM.ok
theorem acK{t u v:H}{F:ai}(o:gP d t)(hu:gP d u)(av:cZ X F ([105,102,32,97,59,32,116,104,101,110,10]++(t++[10])++[101,108,105,102,32,98,10,116,104,101,110,32,99,10,101,108,115,101,32]++(u++[59])++[102,105,32,50,62,102]++v)):bM X (λr=>r=[32,50,62,102]++v) F (gA (aS true m) (.word jW true) ([105,102,32,97,59,32,116,104,101,110,10]++(t++[10])++[101,108,105,102,32,98,10,116,104,101,110,32,99,10,101,108,115,101,32]++(u++[59])++[102,105,32,50,62,102]++v) F):=by
 have bk:=mW X.ok m;have he:[105,102,32,97,59,32,116,104,101,110,10]++(t++[10])++[101,108,105,102,32,98,10,116,104,101,110,32,99,10,101,108,115,101,32]++(u++[59])++[102,105,32,50,62,102]++v=jW++([32]++([97]++(59::32::(hj++([10]++(t++(10::(ir++([32]++([98]++(10::(hj++([32]++([99]++(10::(gi++([32]++(u++(59::(eb++([32,50,62,102]++v))))))))))))))))))))):=by simp[jW,hj,eb,ir,gi]
 rw[he] at av⊢;rw[zQ,aO (by decide),bh rfl,oO,U5,cK];have g:=av.sfx (fR jW _);have h:cZ X F ([10]++(t++(10::(ir++([32]++([98]++(10::(hj++([32]++([99]++(10::(gi++([32]++(u++(59::(eb++([32,50,62,102]++v))))))))))))))))):=g.sfx ⟨[32]++([97]++(59::32::hj)),by simp⟩;have i:cZ X F (10::(ir++([32]++([98]++(10::(hj++([32]++([99]++(10::(gi++([32]++(u++(59::(eb++([32,50,62,102]++v))))))))))))))):=h.sfx ⟨10::t,by simp⟩;have j:cZ X F ([32]++([98]++(10::(hj++([32]++([99]++(10::(gi++([32]++(u++(59::(eb++([32,50,62,102]++v))))))))))))):=i.sfx ⟨10::ir,by simp⟩;have k:cZ X F (10::(hj++([32]++([99]++(10::(gi++([32]++(u++(59::(eb++([32,50,62,102]++v))))))))))):=j.sfx ⟨[32,98],by simp⟩;have l:cZ X F ([32]++([99]++(10::(gi++([32]++(u++(59::(eb++([32,50,62,102]++v))))))))):=k.sfx ⟨10::hj,by simp⟩;have n:cZ X F (10::(gi++([32]++(u++(59::(eb++([32,50,62,102]++v))))))):=l.sfx ⟨[32,99],by simp⟩;have p:cZ X F ([32]++(u++(59::(eb++([32,50,62,102]++v))))):=n.sfx ⟨10::gi,by simp⟩;have c:ab X.E m (N (cF eb) λ_=>(aZ (.inr ()):ad (Unit⊕Unit))):=ab.N X.ok (ab.cF X.ok _) λ_=>ab.ret _;have b:ab X.E m (N (bQ []) λt=>if cE t ir then N (cF ir) λ_=>(aZ (.inl ()):ad (Unit⊕Unit)) else
  if cE t gi then N (cF gi) λ_=>N (((aS true m).ls .ku false).aI (10::eb)) λ_=>N (cF eb) λ_=>aZ (.inr ()) else N (cF eb) λ_=>aZ (.inr ())):=ab.gb X.ok λt=>ab.ite (ab.N X.ok (ab.cF X.ok _) λ_=>ab.ret _) (ab.ite (ab.N X.ok (ab.cF X.ok _) λ_=>ab.N X.ok ((bk.ls _ _).aI _) λ_=>c) c)
 unfold DG;refine bM.q_ hm (yb X.ok bk) (kw.ls (.inr (.inl rfl)) (DF (.inl rfl)) (jE.U7 (w:=hj) hm eR (by decide) (by decide) (by decide) rfl rfl) g).aI (λa r' _ Z=>?_) (λ_=>ab.N X.ok (ab.cF X.ok _) λ_=>ab.N X.ok ((bk.ls _ _).aI _) λ_=>b);subst Z;rw[aT (rN (by decide) (by decide) (by decide) rfl)];refine bM.q_ hm (yb X.ok bk) (kw.ls (.inr (.inr rfl)) o.cc (jE.ya (w:=ir) hm eR (by decide) (by decide) (by decide) rfl rfl i) h).aI (λa r' _ Z=>?_) (λ_=>b);subst Z;obtain⟨e,f⟩:=mH (w:=ir) (r:=[32]++([98]++(10::(hj++([32]++([99]++(10::(gi++([32]++(u++(59::(eb++([32,50,62,102]++v))))))))))))) (by decide) (by decide) (by decide) rfl;rw[aT (cu f),e,bh (by decide),aT (rN (by decide) (by decide) (by decide) rfl)];show bM X _ F (if _ then ck (DG (aS true m)) () _ F else .bad _);rw[bh (by grind[List.length_cons]),cK];unfold DG;refine bM.q_ hm (yb X.ok bk) (kw.ls (.inr (.inl rfl)) (DF (.inr (.inl rfl))) (jE.ya (w:=hj) hm eR (by decide) (by decide) (by decide) rfl rfl k) j).aI (λa r' _ Z=>?_) (λ_=>ab.N X.ok (ab.cF X.ok _) λ_=>ab.N X.ok ((bk.ls _ _).aI _) λ_=>b);subst Z;rw[aT (rN (by decide) (by decide) (by decide) rfl)];refine bM.q_ hm (yb X.ok bk) (kw.ls (.inr (.inl rfl)) (DF (.inr (.inr rfl))) (jE.ya (w:=gi) hm eR (by decide) (by decide) (by decide) rfl rfl n) l).aI (λa r' _ Z=>?_) (λ_=>b);subst Z;obtain⟨e,f⟩:=mH (w:=gi) (r:=[32]++(u++(59::(eb++([32,50,62,102]++v))))) (by decide) (by decide) (by decide) rfl;rw[aT (cu f),e,aO (by decide),bh (by decide),aT (rN (by decide) (by decide) (by decide) rfl)];refine bM.q_ hm (yb X.ok bk) (kw.ls (.inr (.inl rfl)) hu.cc (jE.U6 (w:=eb) hm eR (by decide) (by decide) (by decide) rfl rfl (by decide)) p).aI (λa r' _ Z=>?_) (λ_=>c);subst Z;rw[aT (rN (by decide) (by decide) (by decide) rfl)];exact bM.ok
theorem acL{x u v:H}{F:ai}(b:c4 v=true){e:H}(he:e=[]\/e=[32])(hu:gP d u)(av:cZ X F (hn++([32]++(u++(59::(e++(jh++v))))))):bM X (λr=>r=v) F (iX (aS true m) x (hn++([32]++(u++(59::(e++(jh++v)))))) F):=by
 have bk:=mW X.ok m;unfold iX;rw[aT (iL.2 (rN (by decide) (by decide) (by decide) rfl))];have bl:jE X (jj true m) .done false (59::(e++(jh++v))) (59::(e++(jh++v))) (jh++v) F:=by
  rcases he with rfl|rfl
  ·exact jE.U6 (w:=jh) hm eR (by decide) (by decide) (by decide) b rfl (by decide)
  ·exact jE.U7 (w:=jh) hm eR (by decide) (by decide) (by decide) b rfl
 refine bM.N hm (kw.ls (.inr (.inl rfl)) hu.cc bl (av.sfx (fR hn _))).aI (λa r' _ Z=>?_) (λ_=>ab.cF X.ok _);subst Z;rw[rN (by decide) (by decide) (by decide) b];exact bM.ok
theorem acM{t u v:H}{F:ai}(e:c4 v=true)(f:gP d t)(hu:gP d u)(av:cZ X F ([119,104,105,108,101,32]++(t++[10])++[100,111,32]++(u++[59])++[32,100,111,110,101]++v)):bM X (λr=>r=v) F (gA (aS true m) (.word tT true) ([119,104,105,108,101,32]++(t++[10])++[100,111,32]++(u++[59])++[32,100,111,110,101]++v) F):=by
 have bk:=mW X.ok m;have he:[119,104,105,108,101,32]++(t++[10])++[100,111,32]++(u++[59])++[32,100,111,110,101]++v=tT++([32]++(t++(10::(hn++([32]++(u++(59::([32]++(jh++v))))))))):=by simp[tT,hn,jh]
 rw[he] at av⊢;rw[zQ,aO (by decide),aO (by decide),aO (by decide),aO (by decide),oO];have b:=av.sfx (fR tT _);have c:cZ X F (10::(hn++([32]++(u++(59::([32]++(jh++v))))))):=b.sfx ⟨32::t,by simp⟩;refine bM.N hm (kw.ls (.inr (.inl rfl)) f.cc (jE.ya (w:=hn) hm eR (by decide) (by decide) (by decide) rfl rfl c) b).aI (λa r' _ Z=>?_) (λ_=>ab.body X.ok bk _);subst Z;exact acL hm eR kw e (.inr rfl) hu (c.sfx (dN _ _))
end
theorem acN{X:fC}{D:ad Unit}{w u:H}{F:ai}(b:eZ X D w)(hu:c4 u=true)(a:u≠[])(av:cZ X F (w++u)):bM X (λr=>r=u) F (cO D (w++u) F):=by have:=(b u F a av).1;rw[JP hu a] at this;exact this.DD bM.ok
theorem DH{D:ad Unit}{w u:H}{F:ai}(a:w.all qT=true)(hu:c4 u=true)(b:u≠[]):cO D (w++u) F= .ok () u F:=by grind[SP,JP]
theorem acO{b:UInt8}{t:H}{F:ai}:b5 1 (b::t) F= .ok () t F:=rfl
def DI(D:ad Unit):Unit->ad (Unit⊕Unit):=λ_=>N (bQ []) λt=>match t with
 | .eof=>cb []
 | .word _ _=>N (cO D) λ_=>aZ (.inl ())
 | .line=>aZ (.inr ())
 | .op o=>if o=[59] then N (b5 1) λ_=>aZ (.inr ()) else bE
theorem aqR(D:ad Unit):pt D=ck (DI D) ():=rfl
theorem aqS{E:k4}(ok:E.mO){m:Nat}(hm:xG E m)(s:Unit):ab E m (DI (aS true m).dl s):=ab.gb ok λt=>by
 cases t with
 |eof=>simp[ab.cb]
 |word _ _=>exact ab.N ok (ab.cO ok hm.dl) λ_=>ab.ret _
 |line=>simp[ab.ret]
 |op o=>exact ab.ite (ab.N ok (ab.cQ ok _) λ_=>ab.ret _) ab.bE
section
variable{X:fC}{m:Nat}(hm:X.c0<=m)(eR:ab X.E m (jj true m)){d:Nat}(kw:ra X d m)
include hm eR kw
theorem aqT{w v:H}{F:ai}(b:fY d w)(av:cZ X F (32::97::32::(w++(59::32::v)))):bM X (λr=>r=32::v) F (pt (aS true m).dl (32::97::32::(w++(59::32::v))) F):=by have bk:=mW X.ok m;have hf:=λs=>aqS X.ok bk s;rw[aqR,cK];unfold DI;obtain⟨e,f⟩:=mH (w:=[97]) (r:=32::(w++(59::32::v))) (by simp) (by decide) (by decide) rfl;rw[aT (cu (by rw[k3];exact f)),e];simp only;rw[aT (DH (by decide) rfl (by simp))];show bM X _ F (if _ then ck (DI (aS true m).dl) () (32::(w++(59::32::v))) F else .bad _);rw[bh (by simp),cK];unfold DI;obtain⟨g,⟨x,p,h⟩,j⟩:=(Oe b).tok (u:=59::32::v);rw[aT (cu (by rw[k3];exact g)),h];simp only;have c:an (59::32::v)= .op [59]:=Oi (by decide);have i:c4 (59::32::v)=true:=(et.op (zR _) c (by decide) (by decide)).pH;refine bM.q_ hm hf (acN (kw.wd w b) i (by simp) (av.sfx ⟨[32,97,32],rfl⟩)) (λa r' _ Z=>?_) (λ_=>ab.ret _);subst Z;show bM X _ F (if _ then ck (DI (aS true m).dl) () (59::32::v) F else .bad _);rw[bh (by grind),cK];unfold DI;rw[aT (cu (zR _)),c];simp only;rw[if_pos trivial,aT acO];exact bM.ok
theorem acP{w u v:H}{F:ai}(h:c4 v=true)(i:fY d w)(hu:gP d u)(av:cZ X F ([102,111,114,32,120,32,105,110,32,97,32]++w++[59,32,100,111,32]++(u++[59])++[100,111,110,101]++v)):bM X (λr=>r=v) F (gA (aS true m) (.word mz true) ([102,111,114,32,120,32,105,110,32,97,32]++w++[59,32,100,111,32]++(u++[59])++[100,111,110,101]++v) F):=by
 have bk:=mW X.ok m;have he:[102,111,114,32,120,32,105,110,32,97,32]++w++[59,32,100,111,32]++(u++[59])++[100,111,110,101]++v=mz++(32::([120]++(32::(fW++(32::97::32::(w++(59::32::(hn++([32]++(u++(59::([]++(jh++v))))))))))))):=by simp[mz,fW,hn,jh]
 rw[he] at av⊢;generalize f:hn++([32]++(u++(59::([]++(jh++v)))))=z at av⊢;have b:cZ X F (32::97::32::(w++(59::32::z))):=av.sfx ⟨mz++(32::([120]++(32::fW))),by simp⟩;have c:cZ X F z:=b.sfx ⟨32::97::32::(w++[59,32]),by simp⟩;rw[zQ,if_neg (by decide),if_neg (by decide),if_pos rfl,List.drop_left];unfold pv;obtain⟨j,k⟩:=mH (w:=[120]) (r:=32::(fW++(32::97::32::(w++(59::32::z))))) (by simp) (by decide) (by decide) rfl;rw[aT (cu (by rw[k3];exact k)),j];simp only;rw[bh (by decide),aT Za];refine bM.N (P:=λr=>r=z) hm (bM.aI ?_) (λa r' _ Z=>?_) (λ_=>ab.body X.ok bk _)
 ·obtain⟨g,e⟩:=mH (w:=fW) (r:=32::97::32::(w++(59::32::z))) (by decide) (by decide) (by decide) rfl;rw[aT (cu (by rw[k3];exact e)),g,aO (by simp),aT (p9 e (by grind)),aT (cu e),g,if_pos (by decide)];rw[aT (show b5 2 (fW++(32::97::32::(w++(59::32::z)))) F= .ok () (32::97::32::(w++(59::32::z))) F from rfl)];refine bM.N hm (aqT hm eR kw i b) (λa r' _ Z=>?_) (λ_=>ab.N X.ok (ab.lines X.ok) λ_=>ab.ret _);subst Z;subst f;obtain⟨n,l⟩:=mH (w:=hn) (r:=[32]++(u++(59::([]++(jh++v))))) (by decide) (by decide) (by decide) rfl;rw[aT (p9 (by rw[k3];exact l) (by grind))];exact bM.ok
 ·subst Z;subst f;exact acL hm eR kw h (.inl rfl) hu c
theorem acR{v:H}{F:ai}(d:c4 v=true)(av:cZ X F ([102,111,114,32,120,10,100,111,32,97,10,100,111,110,101]++v)):bM X (λr=>r=v) F (gA (aS true m) (.word mz true) ([102,111,114,32,120,10,100,111,32,97,10,100,111,110,101]++v) F):=by
 have bk:=mW X.ok m;have he:[102,111,114,32,120,10,100,111,32,97,10,100,111,110,101]++v=mz++(32::([120]++(10::(hn++([32]++([97]++(10::(jh++v)))))))):=by rfl
 rw[he] at av⊢;have b:cZ X F (10::(hn++([32]++([97]++(10::(jh++v)))))):=av.sfx ⟨mz++[32,120],by simp⟩;have e:cZ X F ([32]++([97]++(10::(jh++v)))):=b.sfx ⟨10::hn,by simp⟩;rw[zQ,if_neg (by decide),if_neg (by decide),if_pos rfl,List.drop_left];unfold pv;obtain⟨g,h⟩:=mH (w:=[120]) (r:=10::(hn++([32]++([97]++(10::(jh++v)))))) (by simp) (by decide) (by decide) rfl;rw[aT (cu (by rw[k3];exact h)),g];simp only;rw[bh (by decide),aT Za];obtain⟨f,c⟩:=mH (w:=hn) (r:=[32]++([97]++(10::(jh++v)))) (by decide) (by decide) (by decide) rfl;generalize i:hn++([32]++([97]++(10::(jh++v))))=z at b f c⊢;refine bM.N (P:=λr=>r=z) hm (bM.aI ?_) (λa r' _ Z=>?_) (λ_=>ab.body X.ok bk _)
 ·rw[aT (cu (et.nl _).qj),aO (by simp[an])];refine bM.N hm (zO hm (j:=[10]) (x:=z) (.inr (.inl rfl)) c (by grind) b) (λa r' _ Z=>?_) (λ_=>ab.gb X.ok λt=>ab.ite (ab.N X.ok (ab.cQ X.ok _) λ_=>ab.N X.ok (ab.words X.ok bk) λ_=>ab.N X.ok (ab.lines X.ok) λ_=>ab.ret _) (ab.ret _));subst Z;rw[aT (cu c),f,aO (by decide)];exact bM.ok
 ·subst Z;subst i;unfold iX;rw[aT (iL.2 (rN (by decide) (by decide) (by decide) rfl))];refine bM.N hm (kw.ls (.inr (.inl rfl)) (DF (.inl rfl)) (jE.ya (w:=jh) hm eR (by decide) (by decide) (by decide) d rfl (e.sfx ⟨[32,97],rfl⟩)) e).aI (λa r' _ Z=>?_) (λ_=>ab.cF X.ok _);subst Z;rw[rN (by decide) (by decide) (by decide) d];exact bM.ok
end
def Ok(D:ad Unit):Unit->ad (Unit⊕Unit):=λ_=>N (bQ [120,41]) λt=>match t with
 | .eof=>cb [120,41]
 | .word _ _=>N ((cO D).aI [41]) λ_=>N (bQ [41]) λt=>match t with
   | .eof=>cb [41]
   | .op o=>if o=[124] then N (b5 1) λ_=>aZ (.inl ()) else if o=[41] then N (b5 1) λ_=>aZ (.inr ()) else bE
   |_=>bE
 |_=>bE
theorem U9(D:ad Unit):lj D=ck (Ok D) ():=rfl
theorem acS{b:UInt8}{t:H}(h:b≠124):an (124::b::t)= .op [124]:=by rw[mK (by simp)];simp[bu,kG,w3,List.isPrefixOf,h.symm]
theorem U_{D:ad Unit}{b:UInt8}{x y:H}{F:ai}(d:qT b=true)(e:b≠35)(a:bn y=some (b::41::x)):lj D y F= .ok () x F:=by have M:an (b::41::x)= .word [b] true:=n6 (w:=[b]) (by simp) (by grind) (et.op (oN x) (m1 x) (by decide) (by decide)).pH;rw[U9,cK];unfold Ok;rw[aT (cu a),M];simp only;have c:cO D (b::41::x) F= .ok () (41::x) F:=DH (w:=[b]) (u:=41::x) (by grind) (et.op (oN x) (m1 x) (by decide) (by decide)).pH (by simp);rw[aT (iL.2 c),aT (cu (oN x)),m1];rfl
theorem aqV{D:ad Unit}{x:H}{F:ai}:lj D (97::124::98::41::x) F= .ok () x F:=by have a:an (124::98::41::x)= .op [124]:=acS (by decide);have Y:bn (124::98::41::x)=some (124::98::41::x):=jX (by decide) (by decide) (by decide);have b:=(et.op Y a (by decide) (by decide)).pH;have M:an (97::124::98::41::x)= .word [97] true:=n6 (w:=[97]) (by simp) (by decide) b;rw[U9,cK];unfold Ok;rw[aT (cu (jX (by decide) (by decide) (by decide))),M];simp only;have c:cO D (97::124::98::41::x) F= .ok () (124::98::41::x) F:=DH (w:=[97]) (u:=124::98::41::x) (by decide) b (by simp);rw[aT (iL.2 c),aT (cu Y),a];simp only;rw[bh trivial,aT acO];show(if _ then ck (Ok D) () (98::41::x) F else .bad _)=_;rw[bh (by simp),<-U9];exact U_ (by decide) (by decide) (jX (by decide) (by decide) (by decide))
theorem acT{m:Nat}{y x:H}{F:ai}(Y:bn y=some x)(M:an x≠ .eof)(U:an x≠ .line)(he:ec .item (an x)=true):(aS true m).ls .item true y F= .ok 0 x F:=by rw[AV,sj,aT (iL.2 (p9 Y U)),cK];have a:=mi _ _ _ (cS _) Y;rw[ak4 a M he rfl];rfl
def zS(l:dK)(D:ad Unit):Unit->ad (Unit⊕Unit):=λ_=>N c5 λ_=>N (bQ []) λt=>if t= .eof then cb [] else if cE t eK then N (b5 4) λ_=>aZ (.inr ()) else
 N ((if t= .op [40] then b5 1 else aZ ())) λ_=>N (lj D) λ_=>N (l.ls .item true) λ_=>N (bQ []) λt=>if t= .op [59,59] then N (b5 2) λ_=>aZ (.inl ()) else aZ (.inl ())
theorem DK(l:dK)(D:ad Unit):nJ l D=ck (zS l D) ():=rfl
theorem acU{E:k4}(ok:E.mO){m:Nat}:ab E m (N (bQ []) λt=>if t= .op [59,59] then N (b5 2) λ_=>(aZ (.inl ()):ad (Unit⊕Unit)) else aZ (.inl ())):=ab.gb ok λt=>ab.ite (ab.N ok (ab.cQ ok _) λ_=>ab.ret _) (ab.ret _)
theorem acV{E:k4}(ok:E.mO){m:Nat}(hm:xG E m):ab E m (N (bQ []) λt=>if t= .eof then cb [] else if cE t eK then N (b5 4) λ_=>(aZ (.inr ()):ad (Unit⊕Unit)) else
 N ((if t= .op [40] then b5 1 else aZ ())) λ_=>N (lj (aS true m).dl) λ_=>N ((aS true m).ls .item true) λ_=>N (bQ []) λt=>if t= .op [59,59] then N (b5 2) λ_=>aZ (.inl ()) else aZ (.inl ())):=ab.gb ok λt=>ab.ite (ab.cb _) (ab.ite (ab.N ok (ab.cQ ok _) λ_=>ab.ret _)
 (ab.N ok (ab.ite (ab.cQ ok _) (ab.ret _)) λ_=>ab.N ok (ab.vk ok hm) λ_=>ab.N ok (hm.ls _ _) λ_=>acU ok))
theorem aqW{E:k4}(ok:E.mO){m:Nat}(hm:xG E m)(s:Unit):ab E m (zS (aS true m) (aS true m).dl s):=ab.N ok (ab.lines ok) λ_=>acV ok hm
section
variable{X:fC}{m:Nat}(hm:X.c0<=m)(eR:ab X.E m (jj true m)){d:Nat}(kw:ra X d m)
include hm eR kw
theorem aqX{u v:H}{F:ai}(k:c4 v=true)(hu:gP d u)(av:cZ X F ([32,97,124,98,41]++([32]++(u++([59,59]++([10]++([40,99,41,32,59,59,32,100,41,32]++(eK++v)))))))):bM X (λr=>r=v) F (nJ (aS true m) (aS true m).dl ([32,97,124,98,41]++([32]++(u++([59,59]++([10]++([40,99,41,32,59,59,32,100,41,32]++(eK++v))))))) F):=by
 have bk:=mW X.ok m;have hf:=λs=>aqW X.ok bk s;obtain⟨c,e⟩:=mH (w:=eK) (r:=v) (by decide) (by decide) (by decide) k;have l:nJ (aS true m) (aS true m).dl (eK++v) F= .ok () v F:=by rw[DK,cK];unfold zS;rw[aT (p9 e (by grind)),aT (cu e),c,if_neg (by simp),if_pos (by decide)];rfl
 have n:nJ (aS true m) (aS true m).dl ([32,100,41,32]++(eK++v)) F= .ok () v F:=by
  rw[DK,cK];unfold zS;have Y:bn ([32,100,41,32]++(eK++v))=some (100::41::32::(eK++v)):=by show bn (32::100::41::32::(eK++v))=_;rw[k3];exact jX (by decide) (by decide) (by decide)
  have b:an (100::41::32::(eK++v))= .word [100] true:=n6 (w:=[100]) (by simp) (by decide) (et.op (oN _) (m1 _) (by decide) (by decide)).pH;have f:=mi _ _ _ (Nat.le_refl _) Y
  rw[aT (p9 Y (by grind)),aT (cu f),b,if_neg (by simp),if_neg (by decide),if_neg (by simp),aT (show aZ () (100::41::32::(eK++v)) F= .ok () (100::41::32::(eK++v)) F from rfl),aT (U_ (by decide) (by decide) f),
   aT (acT (x:=eK++v) (by grind[k3]) (by grind) (by grind) (by rw[c];decide)),aT (cu e),c,aO (by simp)]
  show(if _ then ck (zS (aS true m) (aS true m).dl) () (eK++v) F else .bad _)=_;rw[bh (by grind),<-DK];exact l
 have g:bM X (λr=>r=v) F (nJ (aS true m) (aS true m).dl ([10]++([40,99,41,32,59,59,32,100,41,32]++(eK++v))) F):=by
  have Y:bn ([40,99,41,32,59,59,32,100,41,32]++(eK++v))=some ([40,99,41,32,59,59,32,100,41,32]++(eK++v)):=jX (by decide) (by decide) (by decide);have b:an ([40,99,41,32,59,59,32,100,41,32]++(eK++v))= .op [40]:=by rfl
  have h:cZ X F ([10]++([40,99,41,32,59,59,32,100,41,32]++(eK++v))):=av.sfx ⟨[32,97,124,98,41]++([32]++(u++[59,59])),by simp⟩;rw[DK,cK];unfold zS;generalize i:[40,99,41,32,59,59,32,100,41,32]++(eK++v)=z at Y b h⊢;refine bM.q_ hm hf (zO hm (j:=[10]) (x:=z) (.inr (.inl rfl)) Y (by grind) h) (λa r' _ Z=>?_) (λ_=>acV X.ok bk);subst Z;rw[aT (cu Y),b,aO (by simp),aO (by decide),bh rfl];subst i;rw[aT (show b5 1 ([40,99,41,32,59,59,32,100,41,32]++(eK++v)) F= .ok () (99::41::32::59::59::([32,100,41,32]++(eK++v))) F from rfl),
   aT (U_ (x:=32::59::59::([32,100,41,32]++(eK++v))) (by decide) (by decide) (jX (by decide) (by decide) (by decide))),
   aT (acT (x:=59::59::([32,100,41,32]++(eK++v))) (by simp[k3,zR]) (by simp[GC]) (by simp[GC]) (by rfl)),
   aT (cu (zR _)),GC,bh rfl,aT (show b5 2 (59::59::([32,100,41,32]++(eK++v))) F= .ok () ([32,100,41,32]++(eK++v)) F from rfl)]
  show bM X _ F (if _ then ck (zS (aS true m) (aS true m).dl) () ([32,100,41,32]++(eK++v)) F else .bad _);rw[bh (by simp),<-DK,n];exact bM.ok
 generalize i:[10]++([40,99,41,32,59,59,32,100,41,32]++(eK++v))=z at av g⊢;rw[DK,cK];unfold zS;have o:an (124::98::41::([32]++(u++([59,59]++z))))= .op [124]:=acS (by decide);have Y:bn (97::124::98::41::([32]++(u++([59,59]++z))))=some (97::124::98::41::([32]++(u++([59,59]++z)))):=jX (by decide) (by decide) (by decide);have b:an (97::124::98::41::([32]++(u++([59,59]++z))))= .word [97] true:=n6 (w:=[97]) (by simp) (by decide) (et.op (jX (by decide) (by decide) (by decide)) o (by decide) (by decide)).pH;show bM X _ F (cX _ _ (N c5 _ (32::97::124::98::41::([32]++(u++([59,59]++z)))) F))
 rw[aT (p9 (ae:=97::124::98::41::([32]++(u++([59,59]++z)))) (show bn (32::97::124::98::41::([32]++(u++([59,59]++z))))=_ by grind[k3]) (by grind)),
  aT (cu Y),b,aO (by simp),aO (by decide),aO (by simp),aT (show aZ () (97::124::98::41::([32]++(u++([59,59]++z)))) F= .ok () (97::124::98::41::([32]++(u++([59,59]++z)))) F from rfl),aT aqV]
 have p:cZ X F ([32]++(u++([59,59]++z))):=av.sfx (fR _ _);refine bM.q_ hm hf (kw.ls (v:=[59,59]++z) (.inr (.inl rfl)) hu.cc (jE.op (zR _) GC rfl) p) (λa r' _ Z=>?_) (λ_=>acU X.ok);subst Z;rw[aT (cu (show bn ([59,59]++z)=some ([59,59]++z) from zR _)),bh (show an ([59,59]++z)= .op [59,59] from GC),aT (show b5 2 ([59,59]++z) F= .ok () z F from rfl)];show bM X _ F (if _ then ck (zS (aS true m) (aS true m).dl) () z F else .bad _);rw[bh (by grind),<-DK];exact g
theorem acW{w u v:H}{F:ai}(i:c4 v=true)(f:fY d w)(hu:gP d u)(av:cZ X F ([99,97,115,101,32]++w++[32,105,110,32,97,124,98,41,32]++(u++[])++[59,59,10,40,99,41,32,59,59,32,100,41,32,101,115,97,99]++v)):bM X (λr=>r=v) F (gA (aS true m) (.word oA true) ([99,97,115,101,32]++w++[32,105,110,32,97,124,98,41,32]++(u++[])++[59,59,10,40,99,41,32,59,59,32,100,41,32,101,115,97,99]++v) F):=by
 have bk:=mW X.ok m;have he:[99,97,115,101,32]++w++[32,105,110,32,97,124,98,41,32]++(u++[])++[59,59,10,40,99,41,32,59,59,32,100,41,32,101,115,97,99]++v=oA++(32::(w++(32::(fW++([32,97,124,98,41]++([32]++(u++([59,59]++([10]++([40,99,41,32,59,59,32,100,41,32]++(eK++v))))))))))):=by simp[oA,fW,eK]
 rw[he] at av⊢;have c:=aqX hm eR kw (v:=v) (u:=u) (F:=F) i hu;have e:c4 ([32,97,124,98,41]++([32]++(u++([59,59]++([10]++([40,99,41,32,59,59,32,100,41,32]++(eK++v)))))))=true:=rfl;generalize [32,97,124,98,41]++([32]++(u++([59,59]++([10]++([40,99,41,32,59,59,32,100,41,32]++(eK++v))))))=z at av c e⊢;have g:cZ X F (w++(32::(fW++z))):=av.sfx ⟨oA++[32],by simp⟩;have j:cZ X F z:=g.sfx ⟨w++(32::fW),by simp⟩;rw[zQ,if_neg (by decide),if_neg (by decide),if_neg (by decide),if_pos rfl,List.drop_left];unfold qJ;obtain⟨k,⟨x,p,l⟩,s⟩:=(Oe f).tok (u:=32::(fW++z));rw[aT (cu (by rw[k3];exact k)),l];simp only;have n:c4 z=true:=e;obtain⟨o,h⟩:=mH (w:=fW) (r:=z) (by decide) (by decide) (by decide) n;refine bM.N (P:=λr=>r=fW++z) hm (bM.aI ?_) (λa r' b Z=>?_) (λt=>ab.ite (ab.N X.ok (ab.cQ X.ok _) λ_=>(ab.items X.ok bk).aI _) ab.bE)
 ·refine bM.N hm (acN (kw.wd w f) rfl (by simp) g) (λa r' _ Z=>?_) (λ_=>ab.N X.ok (ab.lines X.ok) λ_=>ab.gb X.ok λt=>ab.ite (ab.cb _) (ab.ret _));subst Z;rw[aT (p9 (by rw[k3];exact h) (by grind)),aT (cu h),o,if_neg (by simp)];exact bM.ok
 ·subst Z;have q:a= .word fW true:=by
   have b:=iL.1 b;obtain⟨_,ae,y,_,b⟩:=b7 b;obtain⟨_,A,B,_,b⟩:=b7 b;obtain⟨t,C,D,az,b⟩:=b7 b;have xO:=nM az;split at b
   ·cases b
   ·cases b;grind
  subst q;rw[bh (by decide),aT (show b5 2 (fW++z) F= .ok () z F from rfl)];exact(c j).aI
end
theorem aqY{D:ad Unit}{y v:H}{F:ai}(b:y=[32,50,62,102]\/y=[32,62,102])(a:c4 v=true)(c:v≠[]):dI D (y++v) F= .ok true v F:=by
 have M:fX (y++v) F= .ok (some [62]) (102::v) F:=by
  rcases b with rfl|rfl
  ·have Y:bn ([32,50,62,102]++v)=some (50::62::102::v):=by show bn (32::50::62::102::v)=_;rw[k3];exact jX (by decide) (by decide) (by decide)
   unfold fX;rw[Y];rfl
  ·have Y:bn ([32,62,102]++v)=some (62::102::v):=by show bn (32::62::102::v)=_;rw[k3];exact jX (by decide) (by decide) (by decide)
   unfold fX;rw[Y];rfl
 unfold dI;rw[aT M];simp only;rw[aO (by decide),aO (by decide)];obtain⟨d,e⟩:=mH (w:=[102]) (r:=v) (by decide) (by decide) (by decide) a;have U:jK D [120] (102::v) F= .ok () v F:=by unfold jK;rw[aT (cu (show bn (102::v)=some (102::v) from e)),show an (102::v)= .word [102] true from d];exact DH (w:=[102]) (by decide) a c
 rw[aT U];rfl
theorem Vb{D:ad Unit}{y v v':H}{F:ai}(bm:y=[]\/y=[32,50,62,102]\/y=[32,62,102])(a:et v v'):g0 D (y++v) F= .ok () v' F:=by
 rcases bm with rfl|bm
 ·exact a.lY D F
 ·have M:dI D (y++v) F= .ok true v F:=aqY bm a.pH a.ne;unfold g0;rw[cK,aT M];have ax:v.length<(y++v).length:=by grind
  show(if v.length<(y++v).length then g0 D v F else .bad v)=_;rw[bh ax];exact a.lY D F
section
variable{X:fC}{m:Nat}(hm:X.c0<=m)(eR:ab X.E m (jj true m)){d:Nat}(kw:ra X d m)
include hm eR kw
theorem Vc{t v:H}{F:ai}(b:c4 v=true)(e:gP d t)(av:cZ X F (123::([10]++(t++(10::([125]++v)))))):bM X (λr=>r=v) F (gA (aS true m) (.word [123] true) (123::([10]++(t++(10::([125]++v))))) F):=by rw[zQ,bh rfl];have c:cZ X F ([10]++(t++(10::([125]++v)))):=av.sfx ⟨[123],rfl⟩;refine bM.N hm (kw.ls (.inr (.inr rfl)) e.cc (jE.ya (w:=[125]) hm eR (by simp) (by decide) (by decide) b rfl (c.sfx ⟨10::t,by simp⟩)) c).aI (λa r' _ Z=>?_) (λ_=>ab.cF X.ok _);subst Z;rw[rN (by simp) (by decide) (by decide) b];exact bM.ok
end
theorem Bp{X:fC}{m:Nat}(hm:X.c0<=m){c v v' y:H}{F:ai}(ay:DE c){t:Tok}(b:an (c++(y++v))=t)(g:gz t=true)(d:et v v')(e:y=[]\/y=[32,50,62,102]\/y=[32,62,102])
  (aw:bM X (λr=>r=y++v) F (gA (aS true m) t (c++(y++v)) F)):bM X (λr=>r=v') F (fM true (some (aS true m)) (dy (some (aS true m))) (c++(y++v)) F):=by
 obtain⟨⟨M,U,f,h,i⟩,j⟩:=ay.facts (y++v);have bk:=mW X.ok (m+1);unfold fM;rw[aT (cu M),aO f,bh (by grind),b];refine bM.N (n:=m+1) (by omega) (show bM X (λr=>r=y++v) F (qK (some (aS true m)) t (c++(y++v)) F) from aw.named) (λa r' _ Z=>?_) (λ_=>ab.lY X.ok bk.dl);subst Z;rw[Vb e d];exact bM.ok
section
variable{X:fC}{m:Nat}(hm:X.c0<=m){d:Nat}(kw:ra X d m)
include hm kw
theorem aqZ{t v v':H}{F:ai}(f:et v v')(g:gP d t)(eR:ab X.E m (jj true m))(av:cZ X F ([102,40,41,32,123,10]++(t++[10])++[125,32,62,102]++v)):bM X (λr=>r=v') F (fM true (some (aS true (m+1))) (dy (some (aS true (m+1)))) ([102,40,41,32,123,10]++(t++[10])++[125,32,62,102]++v) F):=by
 have bk:=mW X.ok (m+1);have he:[102,40,41,32,123,10]++(t++[10])++[125,32,62,102]++v=[102]++(40::41::32::123::([10]++(t++(10::([125]++([32,62,102]++v)))))):=by simp
 rw[he] at av⊢;have aw:=Vc hm eR kw (t:=t) (v:=[32,62,102]++v) (F:=F) rfl g (av.sfx ⟨[102,40,41,32],rfl⟩);have c:c4 ([10]++(t++(10::([125]++([32,62,102]++v)))))=true:=rfl;generalize [10]++(t++(10::([125]++([32,62,102]++v))))=z at av aw c⊢;have h:an (40::41::32::123::z)= .op [40]:=by rfl
 have b:bn (40::41::32::123::z)=some (40::41::32::123::z):=jX (by decide) (by decide) (by decide);obtain⟨i,e⟩:=mH (w:=[102]) (r:=40::41::32::123::z) (by decide) (by decide) (by decide) (IZ _);unfold fM;rw[aT (cu e),i,if_neg (by simp),if_neg (by decide)];simp only;rw[if_neg (by decide),aT (show dI (dy (some (aS true (m+1)))) ([102]++(40::41::32::123::z)) F= .ok false ([102]++(40::41::32::123::z)) F from Zb e (by decide) (by decide)),aO (by simp),aT (DH (by decide) (IZ _) (by simp)),bh (by decide),aT (cu b),h,bh rfl];refine bM.N (P:=λr=>r=v') (n:=m+1) (by omega) ?_ (λa r' _ Z=>by subst Z;exact bM.ok) (λ_=>ab.ret _);have j:(aS true (m+1)).has=true:=rfl;have k:bn (32::123::z)=some (123::z):=by rw[k3];exact jX (by decide) (by decide) (by decide)
 obtain⟨l,o⟩:=mH (w:=[123]) (r:=z) (by decide) (by decide) (by decide) c;unfold kH;simp only;rw[bh j];refine bM.named ?_
 rw[aT (show b5 1 (40::41::32::123::z) F= .ok () (41::32::123::z) F from rfl),aT (cu (oN _)),m1,aO (by simp),bh rfl,
  aT (show b5 1 (41::32::123::z) F= .ok () (32::123::z) F from rfl),aT (iL.2 (p9 k (by grind))),
  aT (cu (show bn (123::z)=some (123::z) from o)),show an (123::z)= .word [123] true from l,aO (by simp),bh (by decide)]
 refine bM.N (n:=m+1) (by omega) (show bM X (λr=>r=[32,62,102]++v) F ((aS true (m+1)).cp (.word [123] true) (123::z) F) from aw.named) (λa r' _ Z=>?_) (λ_=>ab.ite bk.rd (ab.ret _));subst Z;rw[bh trivial];rw[show(aS true (m+1)).rd=g0 (dy (some (aS true m))) from rfl,Vb (.inr (.inr rfl)) f];exact bM.ok
end
theorem aq1{X:fC}{n:Nat}(hm:X.c0<=n){lo:Option dK}(hD:ab X.E n (dy lo)):∀w,fY 0 w->x9 w/\eZ X (dy lo) w:=λw a=>⟨Oe a,eZ.consts hm hD rfl w a⟩
theorem Bq{X:fC}{m d:Nat}(hm:X.c0<=m+1)(hW:∀w,fY d w->eZ X (dy (some (aS true m))) w){c v v':H}{F:ai}(Y:wW (fY d) (fY 0) c)(b:et v v')(av:cZ X F (c++v)):bM X (λq=>q=v') F (fM true (some (aS true m)) (dy (some (aS true m))) (c++v) F):=by have bk:=mW X.ok (m+1);have hD:ab X.E (m+1) (dy (some (aS true m))):=bk.dl;exact aqD hm hD (show iu (dy (some (aS true m))) from(qR true (m+1)).dl) (λw a=>⟨Oe a,hW w a⟩) (aq1 hm hD) Y b av
theorem aq2{X:fC}{m:Nat}(hm:X.c0<=m+1):zP X (fM true (some (aS true m)) (dy (some (aS true m)))) (x_ 0):=by
 have bk:=mW X.ok (m+1);have hD:ab X.E (m+1) (dy (some (aS true m))):=bk.dl;refine⟨λ{c v v' F} ay a av=>?_,λ{c} x ay=>(ay.aD.facts x).1⟩;have hW:∀w,fY 0 w->eZ X (dy (some (aS true m))) w:=eZ.consts hm hD rfl
 rcases ay with ay|rfl|rfl|rfl
 ·exact Bq hm hW (qi.q ay) a av
 ·exact Bq hm hW (wW.one (.inl rfl)) a av
 ·exact Bq hm hW (wW.one (.inr (.inl rfl))) a av
 ·exact Bq hm hW (wW.one (.inr (.inr rfl))) a av
theorem aq3{X:fC}{m d:Nat}(aD:d<=2)(hm:X.c0<=m)(kw:ra X d m)(e:ra X d (m+1))(eR:ab X.E m (jj true m)):zP X (fM true (some (aS true (m+1))) (dy (some (aS true (m+1))))) (x_ (d+1)):=by
 have bk:=mW X.ok (m+1);have f:=Oj X.ok m;have a:X.c0<=m+1:=by omega
 have hW:∀w,fY (d+1) w->eZ X (dy (some (aS true (m+1)))) w:=acn a bk aD e.U4 e.wd
 refine⟨λ{c v v' F} ay b av=>?_,λ{c} x ay=>(ay.aD.facts x).1⟩;have g:=ay.aD;rcases ay with(ay|ay)|rfl|rfl|rfl
 ·grind[Bq,qi.q]
 ·rcases ay with⟨t,M,rfl⟩|⟨t,M,rfl⟩|⟨t,u,M,U,rfl⟩|⟨t,u,M,U,rfl⟩|⟨t,u,M,U,rfl⟩|⟨w,u,M,U,rfl⟩|rfl|⟨w,u,M,U,rfl⟩|⟨t,M,rfl⟩
  ·exact Bp a g (y:=[]) (mK (by simp)|>.2 (SQ _)) rfl b (.inl rfl) (aqQ a f e M av)
  ·exact Bp a g (y:=[]) (n6 (w:=[123]) (by simp) (by decide) (rM _)) (by decide) b (.inl rfl) (acI a f e b.pH M av)
  ·exact Bp a g (y:=[]) (n6 (w:=jW) (by decide) (by decide) (rM _)) (by decide) b (.inl rfl) (acJ a f e b.pH M U av)
  ·have he:∀(z:H),[105,102,32,97,59,32,116,104,101,110,10]++(t++[10])++[101,108,105,102,32,98,10,116,104,101,110,32,99,10,101,108,115,101,32]++(u++[59])++[102,105,32,50,62,102]++z=([105,102,32,97,59,32,116,104,101,110,10]++(t++[10])++[101,108,105,102,32,98,10,116,104,101,110,32,99,10,101,108,115,101,32]++(u++[59])++[102,105])++([32,50,62,102]++z):=λz=>by simp
   have aw:=acK a f e M U av;rw[he] at aw⊢;exact Bp a ⟨105,_,rfl,by decide,by decide,by decide,by decide,by decide,.inr ⟨by decide,.inl (by decide)⟩⟩ (n6 (w:=jW) (by decide) (by decide) (rM _)) (by decide) b (.inr (.inl rfl)) aw
  ·exact Bp a g (y:=[]) (n6 (w:=tT) (by decide) (by decide) (rM _)) (by decide) b (.inl rfl) (acM a f e b.pH M U av)
  ·exact Bp a g (y:=[]) (n6 (w:=mz) (by decide) (by decide) (rM _)) (by decide) b (.inl rfl) (acP a f e b.pH M U av)
  ·exact Bp a g (y:=[]) (n6 (w:=mz) (by decide) (by decide) (rM _)) (by decide) b (.inl rfl) (acR a f e b.pH av)
  ·exact Bp a g (y:=[]) (n6 (w:=oA) (by decide) (by decide) (rM _)) (by decide) b (.inl rfl) (acW a f e b.pH M U av)
  grind[aqZ]
 ·exact Bq (by omega) hW (wW.one (.inl rfl)) b av
 ·exact Bq (by omega) hW (wW.one (.inr (.inl rfl))) b av
 ·exact Bq (by omega) hW (wW.one (.inr (.inr rfl))) b av
theorem ra.of{X:fC}{m d:Nat}(hm:X.c0<=m+1)(eF:zP X (fM true (some (aS true m)) (dy (some (aS true m)))) (x_ d))(hW:∀w,fY d w->eZ X (dy (some (aS true m))) w):ra X d (m+1):=
 ⟨λ{pre t v v' b ctx no F} az a bl av=>aqP hm (ab.command X.ok (mW X.ok m)) eF (λx k ay=>(ay.aD.facts x).2 k) az a bl av,hW,λ{t v v' b ctx no F} k a bl av=>by obtain⟨c,l,M,U,rfl⟩:=a;rw[rb] at av⊢;exact acC hm (ab.command X.ok (mW X.ok m)) eF (λx k ay=>(ay.aD.facts x).2 k) bl.ce bl.acE bl.acF bl.go l.length l c k (cS _) M U av⟩
theorem Vd{X:fC}(ay:1<=X.c0):∀d,d<=3->∀n,X.c0+2*d<=n->ra X d n
 |0,_,n,av=>by
  obtain⟨m,rfl⟩:∃m,n=m+1:=⟨n-1,by omega⟩
  exact ra.of (by omega) (aq2 (by omega)) (eZ.consts (m:=m+1) (by omega) (mW X.ok (m+1)).dl rfl)
 |d+1,aD,n,av=>by
  obtain⟨m,rfl⟩:∃m,n=m+3:=⟨n-3,by omega⟩
  have b:=Vd ay d (by omega) (m+1) (by omega);have a:=Vd ay d (by omega) (m+2) (by omega);exact ra.of (by omega) (aq3 (by omega) (by omega) b a (Oj X.ok m)) (acn (by omega) (mW X.ok (m+2)) (by omega) a.U4 a.wd)
def gQ(c:H):Prop:=(69:UInt8)∉c/\c≠[]/\c.getLast?≠some 10
theorem gQ.app{x y:H}(b:(69:UInt8)∉x)(a:gQ y):gQ (x++y):=by obtain⟨M,U,c⟩:=a;refine⟨by grind,by simp[U],?_⟩;simp_all
theorem gQ.k{x y:H}(a:gQ x)(b:(69:UInt8)∉y/\y≠[]/\y.getLast?≠some 10):gQ (x++y):=gQ.app a.1 b
theorem gQ.args{W:H->Prop}(hW:∀w,W w->gQ w):∀{ws:bw},(∀w∈ws,W w)->jb ws=[]\/gQ (jb ws)
 |[],_=> .inl rfl
 |w::t,h=>by
  have he:jb (w::t)=[32]++(w++jb t):=by rfl
  right;rw[he];refine gQ.app (by decide) ?_;rcases gQ.args hW (ws:=t) (λw a=>h w (by grind)) with M|M
  ·grind
  ·exact gQ.app (hW w (h w (by simp))).1 M
theorem gQ.simple{W a:H->Prop}(hW:∀w,W w->gQ w)(b:∀w,a w->gQ w){s:H}(h:qi W a s):gQ s:=by
 obtain⟨x,ws,r,M,U,rfl,c⟩:=h;have d:gQ x:=by simp only[q7,kM,rf,uA] at M;rcases M with rfl|rfl|rfl|rfl<;>exact⟨by decide,by decide,by decide⟩
 have e:gQ (x++jb ws):=by
  rcases gQ.args hW U with h|h
  ·grind
  ·exact gQ.app d.1 h
 rcases c with rfl|rfl|⟨w,f,rfl⟩
 ·grind
 ·grind[gQ.k]
 ·exact gQ.app e.1 (gQ.app (by decide) (b w f))
theorem gQ.list{C:H->Prop}(a:∀c,C c->gQ c){t:H}(h:rY C t):gQ t:=by
 obtain⟨c,l,M,U,rfl⟩:=h;induction l generalizing c with
 |nil=>grind[cR]
 |cons p l b=>
  have he:c++cR (p::l)=(c++p.1)++(p.2++cR l):=by simp[cR]
  rw[he];obtain⟨d,e⟩:=U p (by simp);refine gQ.app ?_ (b p.2 e λq f=>U q (by grind));have:(69:UInt8)∉p.1:=(by decide:∀j∈jl,(69:UInt8)∉j) p.1 d;simp[(a c M).1,this]
theorem Ol:∀d,(∀w,fY d w->gQ w)/\∀t,gP d t->gQ t
 |0=>by
  have aw:∀w∈nj,gQ w:=by unfold gQ;decide
  exact⟨aw,λt e=>gQ.list (λc ay=>gQ.simple aw aw ay) e⟩
 |d+1=>by
  obtain⟨f,a⟩:=Ol d
  have aw:∀w∈nj,gQ w:=by unfold gQ;decide
  have g:∀w,fY (d+1) w->gQ w:=by
   intro w h;rcases h with h|⟨t,M,h|h⟩|⟨v,M,h⟩
   ·grind
   ·subst h;exact gQ.k (gQ.app (by decide) (a t M)) ⟨by decide,by decide,by decide⟩
   ·subst h;exact gQ.k (gQ.app (by decide) (a t M)) ⟨by decide,by decide,by decide⟩
   ·subst h;exact gQ.k (gQ.app (by decide) (f v M)) ⟨by decide,by decide,by decide⟩
  refine⟨g,λt e=>gQ.list (λc ay=>?_) e⟩;rcases ay with ay|ay
  ·exact gQ.simple g aw ay
  ·have j:∀{t:H}{b:UInt8},gP d t->b≠69->(69:UInt8)∉t++[b]:=λe i=>by simp[(a _ e).1,yl i]
   rcases ay with⟨t,M,rfl⟩|⟨t,M,rfl⟩|⟨t,u,M,U,rfl⟩|⟨t,u,M,U,rfl⟩|⟨t,u,M,U,rfl⟩|⟨w,u,M,U,rfl⟩|rfl|⟨w,u,M,U,rfl⟩|⟨t,M,rfl⟩
   ·exact gQ.k (gQ.app (by decide) (a t M)) ⟨by decide,by decide,by decide⟩
   ·exact gQ.app (by simp[(a t M).1]) ⟨by decide,by decide,by decide⟩
   ·exact gQ.app (by simp[(a t M).1,(a u U).1]) ⟨by decide,by decide,by decide⟩
   ·exact gQ.app (by simp[(a t M).1,(a u U).1]) ⟨by decide,by decide,by decide⟩
   ·exact gQ.app (by simp[(a t M).1,(a u U).1]) ⟨by decide,by decide,by decide⟩
   ·exact gQ.app (by simp[(f w M).1,(a u U).1]) ⟨by decide,by decide,by decide⟩
   ·exact⟨by decide,by decide,by decide⟩
   ·exact gQ.app (by simp[(f w M).1,(a u U).1]) ⟨by decide,by decide,by decide⟩
   ·exact gQ.app (by simp[(a t M).1]) ⟨by decide,by decide,by decide⟩
theorem acZ:∀(r:H),r=(hS r).1/\(hS r).2=[]\/r=(hS r).1++10::(hS r).2
 |[]=> .inl ⟨rfl,rfl⟩
 |b::t=>by
  unfold hS;by_cases h:b=10
  ·grind
  simp_all[acZ]
theorem aub{b:UInt8}{t:H}(h:o0 b=false)(U:b≠45):bu (60::60::b::t)=[60,60]:=by simp only[o0,J3,OL,ne_eq] at h;simp_all[bu,kG,yl]
end Go.Eng
namespace Go.Eng
open Go Go.Proofs
theorem aq4{s:H}(Y:(c6 s).length<=1000000)(aD:∀q,h3 false 30 (c6 s)≠ .deep q):MA s=some (match h3 false 30 (c6 s) with| .ok a _ _=>(a:Int)|_=> -1):=by
 have h:=aav s Y;unfold MA;cases az:h3 false 30 (c6 s) with
 |ok a r F=>simp_all[aP]
 |more op nd ds=>simp_all[aP]
 |bad r=>rw[az] at h;obtain⟨_,op,h⟩:=h;simp_all[aP]
 |deep q=>grind
theorem aq5{r:H}{n:Nat}(av:n<=30)(h:∀q,h3 true n r≠ .deep q){fr:Bool}{m:Nat}(hm:n<=m):AW (h3 true n r) (h3 fr m r)/\∀q,h3 fr m r≠ .deep q:=by grind[AW,alc]
def oM(x:dD Nat):Int:=match x with| .ok a _ _=>(a:Int)|_=> -1
theorem aq6(s:H):∃t,c6 s=t++[10]:=by
 unfold c6;split
 ·grind[List.getLast?_eq_some_iff]
 simp
theorem aq7(s:H):(c6 s).length<=s.length+1:=by grind[c6]
theorem Ve{n:Nat}(h:n<=2000000):((n:Nat):Int)<=9223372036854775807:=by omega
def vr(x:dD Nat):Int:=match x with| .ok _ _ _=>0| .more _ _ _=>1|_=>2
theorem AW.vr{x y:dD Nat}(h:AW x y)(a:∀q,x≠ .deep q):vr y=vr x:=by
 rcases h with⟨q,h⟩|rfl|⟨_,_,_,_,rfl,rfl⟩
 ·grind
 ·rfl
 ·rfl
theorem aq8{s:H}(Y:(c6 s).length<=1000000):∃a:Int,MD s=some (vr (h3 true 30 (c6 s)),a):=by
 have h:=apM Y;unfold MD;cases az:h3 true 30 (c6 s) with
 |ok a r F=>rw[az] at h;obtain⟨st,M,U,_⟩:=h;exact⟨st.2.2.2.2.2.1,by rw[M,aP rfl];dsimp only;rw[U];rfl⟩
 |more op nd ds=>rw[az] at h;obtain⟨st,c,M,U,_⟩:=h;exact⟨st.2.2.2.2.2.1,by rw[M,aP rfl];dsimp only;rw[U];rfl⟩
 |bad r=>rw[az] at h;obtain⟨st,c,M,U⟩:=h;exact⟨st.2.2.2.2.2.1,by rw[M,aP rfl];dsimp only;rw[U];rfl⟩
 |deep q=>rw[az] at h;obtain⟨st,c,M,U⟩:=h;exact⟨st.2.2.2.2.2.1,by rw[M,aP rfl];dsimp only;rw[U];rfl⟩
end Go.Eng
namespace Go.Eng
def m2(j:Bool):H:=bif j then [92,10] else []
theorem ac0{j:Bool}{r:H}(h:r<:+m2 j):r=[]\/r=[10]\/r=[92,10]:=by
 cases j with
 |false=>left;exact List.suffix_nil.1 h
 |true=>simpa[m2,List.suffix_cons_iff,or_comm,or_assoc,or_left_comm] using h
theorem JT{j:Bool}{b:UInt8}{u:H}(h:b::u<:+m2 j):b≠36/\b≠40/\(bn (b::u)=some (b::u)->gz (an (b::u))=false):=by
 rcases ac0 h with h|h|h
 ·cases h
 ·cases h;exact⟨by decide,by decide,λ_=>by decide⟩
 ·cases h;exact⟨by decide,by decide,λh=>by rw[nK] at h;simp[fL] at h⟩
def j5(j:Bool):fC where
 E:={T:=m2 j,bz:=λ_=>0,c:=1,Q:=λ_ _=>True}
 ok:=by
  refine⟨cS _,λ_ _ _ _=>cS _,λ_ _ _ _ _ _=>trivial,λ_ _=>trivial,λ_ _ _ _ _ _ _ _ _ _ _=>trivial,λu h=>absurd rfl (JT h).1,λu h=>absurd rfl (JT h).1,λr h M U=>?_,λu h=>absurd rfl (JT h).2.1⟩;cases r with
  |nil=>simp[an,gz] at U
  |cons b u=>rw[(JT h).2.2 M] at U;cases U
 c0:=1
theorem j5.h{j:Bool}{r:H}{F:ai}:(j5 j).E.g_ (j5 j).c0 r F↔r<:+m2 j:=⟨λh=>h.sfx,λh=>⟨h,cS _,trivial⟩⟩
theorem cZ.m2{j:Bool}{r:H}{F:ai}(h:r<:+m2 j):cZ (j5 j) F r:=by
 intro t r' b a;have:t=[]:=by rcases ac0 (b.trans h) with h|h|h<;>cases h;rfl
 subst this;cases F with
 |nil=>exact .inl rfl
 |cons d ds=>unfold lh at a;simp[kZ] at a
def sw(j:Bool)(r0:H)(x:dD Unit):Prop:=match x with
 | .ok _ r F=>r<:+r0/\cZ (j5 j) F r
 | .deep _=>False
 |_=>True
theorem bM.x{j:Bool}{r0 v:H}{F:ai}{x:dD Unit}(h:bM (j5 j) (λr=>r=v) F x)(c:m2 j<:+r0)(b:v<:+r0)(av:cZ (j5 j) F r0):sw j r0 x:=by
 cases x with
 |ok a r' d=>
  rcases h with⟨rfl,rfl⟩|h
  ·exact⟨b,av.sfx b⟩
  ·exact⟨(j5.h.1 h).trans c,cZ.m2 (j5.h.1 h)⟩
 |more _ _ _=>trivial
 |bad _=>trivial
 |deep _=>exact h
theorem sw.named{j:Bool}{r0 n:H}{m:ad Unit}{r:H}{F:ai}(h:sw j r0 (m r F)):sw j r0 (m.named n r F):=by unfold ad.named;cases hm:m r F<;>rw[hm] at h<;>first|exact h|trivial
structure g8(j:Bool)(r:H):Prop where
 qQ:∀u,r=36::40::u->u.head?≠some 40->∀n F,7<=n->cZ (j5 j) F r->sw j r ((aS true n).dl r F)
 p7:∀u,r=36::123::u->∀n F,7<=n->cZ (j5 j) F r->sw j r ((aS true n).dl r F)
 comp:bn r=some r->gz (an r)=true->∀n F,7<=n->cZ (j5 j) F r->sw j r ((aS true n).cp (an r) r F)
 func:∀u,r=40::u->∀n F,7<=n+1->cZ (j5 j) F r->sw j r (kH true (some (aS true n)) r F)
inductive dB(j:Bool):Nat->H->Prop
 |nil:dB j 0 []
 |mark {k:Nat} {T:H} (b:UInt8):dB j k T->dB j (k+1) (b::T)
 |free {k:Nat} {T:H} {b:UInt8}:dB j k T->(m2 j<:+b::T->g8 j (b::T))->dB j k (b::T)
theorem dB.sfx{j:Bool}{k:Nat}{T:H}(h:dB j k T):∀{r:H},r<:+T->∃i,i<=k/\dB j i r:=by
 induction h with
 |nil=>intro r Z;rw[List.suffix_nil.1 Z];exact⟨0,cS _,.nil⟩
 |mark b h a=>
  intro r Z;rcases List.suffix_cons_iff.1 Z with rfl|Z
  ·exact⟨_,cS _,.mark b h⟩
  ·obtain⟨i,M,U⟩:=a Z;exact⟨i,by omega,U⟩
 |free h ay a=>
  intro r Z;rcases List.suffix_cons_iff.1 Z with rfl|Z
  ·exact⟨_,cS _,.free h ay⟩
  ·exact a Z
theorem dB.num{j:Bool}{k:Nat}{T:H}(h:dB j k T):∃bz:H->Nat,bz T=k/\(∀r r',r'<:+r->r<:+T->bz r'<=bz r)/\∀b u,b::u<:+T->bz u+1=bz (b::u)\/(m2 j<:+b::u->g8 j (b::u)):=by
 have a:∀{b:UInt8}{T:H}{bz:H->Nat}{k m:Nat},bz T=k->(∀r r',r'<:+r->r<:+T->bz r'<=bz r)->(∀c u,c::u<:+T->bz u+1=bz (c::u)\/(Go.Eng.m2 j<:+c::u->g8 j (c::u)))->k<=m->(k+1=m\/(Go.Eng.m2 j<:+b::T->g8 j (b::T)))->
   ∃bz:H->Nat,bz (b::T)=m/\(∀r r',r'<:+r->r<:+b::T->bz r'<=bz r)/\∀c u,c::u<:+b::T->bz u+1=bz (c::u)\/(Go.Eng.m2 j<:+c::u->g8 j (c::u)):=by
  intro b T bz k m M U d hm f
  have ax:∀{r:H},r<:+T->r≠b::T:=λZ he=>by have:=Z.length_le;rw[he] at this;simp at this;omega
  refine⟨λr=>if r=b::T then m else bz r,bh rfl,λr r' Z bl=>?_,λc u hu=>?_⟩
  ·rcases List.suffix_cons_iff.1 bl with rfl|bl
   ·rcases List.suffix_cons_iff.1 Z with rfl|Z
    ·exact cS _
    ·simp only[aO (ax Z),cU];have:=U T r' Z fS;omega
   ·simp only[aO (ax bl),aO (ax (Z.trans bl))];exact U r r' Z bl
  ·rcases List.suffix_cons_iff.1 hu with hu|hu
   ·cases hu;simp only[aO (ax fS),cU,M];exact f
   ·simp only[aO (ax hu),aO (ax ((dN c u).trans hu))];exact d c u hu
 induction h with
 |nil=>exact⟨λ_=>0,rfl,λ_ _ _ _=>cS _,λb u h=>by simp at h⟩
 |mark b h e=>obtain⟨bz,M,U,d⟩:=e;exact a M U d (Nat.le_succ _) (.inl rfl)
 |free h ay e=>obtain⟨bz,M,U,d⟩:=e;exact a M U d (cS _) (.inr ay)
def DL(j:Bool)(T:H):Prop:=∀r F o tabs r' a,r<:+T->cZ (j5 j) F r->bu r=o->(o=[60,60]/\tabs=false\/o=[60,60,45]/\tabs=true)->gS tabs (r.drop o.length) F= .ok () r' a->cZ (j5 j) a r'
theorem dB.nd{j:Bool}{k:Nat}{T:H}(h:dB j k T)(q:m2 j<:+T)(aD:DL j T){n:Nat}(av:k+7<=n):∃E:k4,E.mO/\E.T=T/\E.bz T+E.c<=n/\∀F,E.Q T F↔cZ (j5 j) F T:=by
 obtain⟨bz,M,U,f⟩:=h.num
 have nd:∀{E:k4}{r:H}{x:dD Unit},(∀r F,E.Q r F=cZ (j5 j) F r)->sw j r x->h_ E r x:=λ{E r x} d g=>by
  cases x with
  |ok a r' z=>exact⟨g.1,by rw[d];exact g.2⟩
  |more _ _ _=>trivial
  |bad _=>trivial
  |deep _=>exact g
 have e:∀{b:UInt8}{u:H},b::u<:+T->(b=36\/b=40\/bn (b::u)=some (b::u)/\gz (an (b::u))=true)->m2 j<:+b::u:=by
  intro b u hu hb;rcases List.suffix_or_suffix_of_suffix hu q with h|h
  ·obtain⟨s,t,v⟩:=JT h;rcases hb with hb|hb|⟨hb,m⟩
   ·exact absurd hb s
   ·exact absurd hb t
   ·rw[v hb] at m;cases m
  ·exact h
 refine⟨{T:=T,bz:=bz,c:=7,Q:=λr F=>cZ (j5 j) F r},⟨by show 1<=7;omega,U,λr r' F Z _ d=>d.sfx Z,λr _=>cZ.nil,aD,λu hu y=>?_,λu hu=>?_,λr Z Y ay=>?_,λu hu=>?_⟩,rfl,by show bz T+7<=n;omega,λ_=>Iff.rfl⟩
 ·rcases f 36 _ hu with h|h
  ·left;have:=U (40::u) u (dN _ _) ((dN _ _).trans hu);show bz u+1<=bz _;omega
  ·right;exactλn F av d=>nd (λ_ _=>rfl) ((h (e hu (.inl rfl))).qQ u rfl y n F av d)
 ·rcases f 36 _ hu with h|h
  ·left;have:=U (123::u) u (dN _ _) ((dN _ _).trans hu);show bz u+1<=bz _;omega
  ·right;exactλn F av d=>nd (λ_ _=>rfl) ((h (e hu (.inl rfl))).p7 u rfl n F av d)
 ·cases r with
  |nil=>simp[an,gz] at ay
  |cons b u=>
   rcases f b u Z with h|h
   ·left
    have aw:∃i,((b::u).drop (lJ (an (b::u))).length)=u.drop i:=by
     cases l:an (b::u) with
     |op o=>exact⟨0,rfl⟩
     |word w p=>
      rw[l] at ay;cases w with
      |nil=>cases p with
       |true=>exact absurd ay (by decide)
       |false=>exact absurd ay (by decide)
      |cons c w=>exact⟨w.length,rfl⟩
     |line=>rw[l] at ay;simp[gz] at ay
     |eof=>rw[l] at ay;simp[gz] at ay
    obtain⟨i,bg⟩:=aw;show bz ((b::u).drop _)+1<=bz _;rw[bg];have:=U u (u.drop i) (lM _ _) ((dN _ _).trans Z);omega
   ·right;exactλn F av d=>nd (λ_ _=>rfl) ((h (e Z (.inr (.inr ⟨Y,ay⟩)))).comp Y ay n F av d)
 ·rcases f 40 _ hu with h|h
  ·left;show bz u+1<=bz _;omega
  ·right;exactλn F av d=>nd (λ_ _=>rfl) ((h (e hu (.inr (.inl rfl)))).func u rfl n F av d)
def wY:H->Bool
 |40::_=>true
 |123::_=>true
 |36::40::_=>true
 |36::123::_=>true
 |105::102::_=>true
 |119::104::_=>true
 |117::110::_=>true
 |102::111::_=>true
 |99::97::115::_=>true
 |_=>false
theorem GD{r:H}(h:gz (an r)=true):(∃u,r=40::u)\/∃w,oB w=true/\an r= .word w true/\w<+:r:=by
 cases a:an r with
 |eof=>rw[a] at h;exact absurd h (by decide)
 |line=>rw[a] at h;exact absurd h (by decide)
 |op o=>
  rw[a] at h;have:o=[40]:=by simpa[gz] using h
  subst this;obtain⟨u,hu⟩:=(h4 a).2.1;exact .inl ⟨u,hu.symm⟩
 |word w p=>
  rw[a] at h;cases p with
  |false=>simp[gz] at h
  |true=>refine .inr ⟨w,by simpa[gz] using h,rfl,U3 (by rw[a];simp[cE])⟩
theorem DM{w:H}(h:oB w=true):w=jW\/w=tT\/w=Fk\/w=mz\/w=oA\/w=[123]:=by simpa[oB] using h
theorem g8.plain{j:Bool}{r:H}(h:wY r=false):g8 j r:=by
 refine⟨λu hu=>?_,λu hu=>?_,λY ay=>?_,λu hu=>?_⟩
 ·subst hu;cases h
 ·subst hu;cases h
 ·exfalso;rcases GD ay with⟨u,rfl⟩|⟨w,a,_,u,rfl⟩
  ·cases h
  ·rcases DM a with rfl|rfl|rfl|rfl|rfl|rfl<;>cases h
 ·subst hu;cases h
def wZ:H->Bool
 |[]=>true
 |b::t=> !wY (b::t)&& !(t==[]&&([36,105,119,117,102,99]:H).contains b)&& !(b::t==[99,97])&&wZ t
theorem Vf{b:UInt8}{t v:H}(M:wY (b::t)=false)(U:(t==[]&&([36,105,119,117,102,99]:H).contains b)=false)(a:(b::t==[99,97])=false):wY (b::t++v)=false:=by
 match t,M,U,a with
 |[],M,U,a=>simp at U;unfold wY at M⊢;split<;>simp_all
 |[c],M,U,a=>simp at a;unfold wY at M⊢;split<;>simp_all
 |c::d::t,M,U,a=>unfold wY at M⊢;split<;>simp_all
theorem dB.const{j:Bool}{k:Nat}{v:H}(h:dB j k v):∀{p:H},wZ p=true->dB j k (p++v)
 |[],_=>h
 |b::t,az=>by simp only[wZ,hU,Bw] at az;exact .free (h.const az.2) λ_=>g8.plain (Vf az.1.1.1 az.1.1.2 az.1.2)
theorem dB.last{j:Bool}{k:Nat}{v:H}(h:dB j k v)(a:c4 v=true){b:UInt8}(d:b=105\/b=102\/b=99):dB j k (b::v):=by
 refine .free h λ_=>g8.plain ?_;cases v with
 |nil=>rcases d with rfl|rfl|rfl<;>rfl
 |cons c t=>
  have ay:∀x∈([102,111,97]:H),c≠x:=by intro x f e;subst e;have:c4 (c::t)=false:=IY ((by decide:∀x∈([102,111,97]:H),qT x=true) c f);rw[this] at a;cases a
  have M:=ay 102 (by simp);have U:=ay 111 (by simp);have g:=ay 97 (by simp);unfold wY;rcases d with rfl|rfl|rfl<;>(split<;>simp_all)
theorem aq9{j:Bool}{r w:H}(c:∃v,an r= .word w true/\∀F,cZ (j5 j) F r->∀m,6<=m->v<:+r/\bM (j5 j) (λq=>q=v) F (gA (aS true m) (.word w true) r F))(d:∀u,r≠40::u)(a:∀u,r≠36::u)(e:m2 j<:+r):g8 j r:=by
 obtain⟨v,f,aw⟩:=c;refine⟨λu hu=>absurd hu (a _),λu hu=>absurd hu (a _),λY ay n F av b=>?_,λu hu=>absurd hu (d _)⟩
 obtain⟨m,rfl⟩:∃m,n=m+1:=⟨n-1,by omega⟩
 obtain⟨g,h⟩:=aw F b m (by omega);rw[f];show sw j r (((gA (aS true m) (.word w true)).named (lJ (.word w true))) r F);exact(h.x e g b).named
section
variable{j:Bool}{d:Nat}(aD:d<=2)
include aD
theorem JU{m:Nat}(hm:5<=m):ra (j5 j) d m/\ab (j5 j).E m (jj true m)/\(j5 j).c0<=m:=by
 obtain⟨k,rfl⟩:∃k,m=k+1:=⟨m-1,by omega⟩
 exact⟨Vd (cS _) d (by omega) _ (by show 1+2*d<=_;omega),Oj (j5 j).ok k,by show 1<=_;omega⟩
theorem g8.sub{t v:H}(c:gP d t)(e:m2 j<:+36::40::(t++41::v)):g8 j (36::40::(t++41::v)):=by
 have he:[36,40]++t++[41]++v=36::40::(t++41::v):=by simp
 refine⟨λu hu l n F av b=>?_,λu hu=>(by cases hu),λY ay=>?_,λu hu=>(by cases hu)⟩
 ·obtain⟨m,rfl⟩:∃m,n=m+1:=⟨n-1,by omega⟩
  obtain⟨f,o,g⟩:=JU (j:=j) aD (m:=m) (by omega);have:=UY g aD f.U4 (mW (j5 j).ok m) c (v:=v) (F:=F) (by rw[he];exact b);rw[he] at this;have i:bM (j5 j) (λq=>q=v) F (dy (some (aS true m)) (36::40::(t++41::v)) F):=by
   rcases this with h|h
   ·rw[h];exact bM.ok
   ·exact jN.DD (.inr h) (bM.ok (a:=()))
  exact i.x e (by rw[<-he];exact fR _ _) b
 ·exfalso;rcases GD ay with⟨u,hu⟩|⟨w,k,_,u,hu⟩
  ·cases hu
  ·rcases DM k with rfl|rfl|rfl|rfl|rfl|rfl<;>cases hu
theorem Vg{u:H}(Y:bn u=some u)(M:an u≠ .op [41]){n:Nat}{F:ai}(av:7<=n+1):sw j (40::u) (kH true (some (aS true n)) (40::u) F):=by
 obtain⟨m,rfl⟩:∃m,n=m+1:=⟨n-1,by omega⟩
 unfold kH;simp only;rw[bh (show(aS true (m+1)).has=true from rfl)];refine sw.named ?_;rw[aT (show b5 1 (40::u) F= .ok () u F from rfl),aT (cu Y)];by_cases h:an u= .eof
 ·rw[bh h];trivial
 ·rw[aO h,aO M];trivial
theorem g8.par{t v:H}(e:rY (x_ d) t)(f:m2 j<:+40::(t++41::v)):g8 j (40::(t++41::v)):=by
 have g:an (40::(t++41::v))= .op [40]:=wA _;refine⟨λu hu=>(by cases hu),λu hu=>(by cases hu),λY ay n F av b=>?_,λu hu n F av b=>?_⟩
 ·obtain⟨m,rfl⟩:∃m,n=m+1:=⟨n-1,by omega⟩
  obtain⟨i,w,k⟩:=JU (j:=j) aD (m:=m) (by omega);have:bM (j5 j) (λr=>r=v) F (gA (aS true m) (.op [40]) (40::(t++41::v)) F):=by rw[GB];refine bM.N k (i.ls (pre:=[]) (v:=41::v) (.inl rfl) e (jE.op (oN v) (m1 v) rfl) (b.sfx ⟨[40],rfl⟩)).aI (λa r' _ Z=>?_) (λ_=>ab.ji (j5 j).ok _);subst Z;rw[A1 (oN v) (m1 v)];exact bM.ok
  rw[g];show sw j _ (((gA (aS true m) (.op [40])).named (lJ (.op [40]))) _ F);exact(this.x f ⟨40::(t++[41]),by simp⟩ b).named
 ·obtain⟨c,l,M,U,o⟩:=e;obtain⟨⟨p,x,y,z,A⟩,q⟩:=M.aD.facts (cR l++41::v);have s:t++41::v=c++(cR l++41::v):=by rw[o];simp
  rw[s];refine Vg aD p (λh=>?_) av;have:=q .paren;rw[h] at this;cases this
theorem g8.aq_{w v:H}(b:fY d w)(e:m2 j<:+36::123::([120,58,45]++(w++125::v))):g8 j (36::123::([120,58,45]++(w++125::v))):=by
 have he:[36,123,120,58,45]++w++[125]++v=36::123::([120,58,45]++(w++125::v)):=by simp
 refine⟨λu hu=>(by cases hu),λu hu n F av c=>?_,λY ay=>?_,λu hu=>(by cases hu)⟩
 ·obtain⟨m,rfl⟩:∃m,n=m+1:=⟨n-1,by omega⟩
  obtain⟨f,k,g⟩:=JU (j:=j) aD (m:=m) (by omega);have:=acm g (mW (j5 j).ok m) (f.wd w b) (v:=v) (F:=F) (by rw[he];exact c);rw[he] at this;have i:bM (j5 j) (λq=>q=v) F (dy (some (aS true m)) (36::123::([120,58,45]++(w++125::v))) F):=by
   rcases this with h|h
   ·rw[h];exact bM.ok
   ·exact jN.DD (.inr h) (bM.ok (a:=()))
  exact i.x e (by rw[<-he];exact fR _ _) c
 ·exfalso;rcases GD ay with⟨u,hu⟩|⟨w,b,_,u,hu⟩
  ·cases hu
  ·rcases DM b with rfl|rfl|rfl|rfl|rfl|rfl<;>cases hu
end
theorem g8.ara{j:Bool}{u:H}:g8 j (123::120::u):=by
 refine⟨λu hu=>(by cases hu),λu hu=>(by cases hu),λY ay=>?_,λu hu=>(by cases hu)⟩;exfalso;rcases GD ay with⟨u,hu⟩|⟨w,a,b,v,hu⟩
 ·cases hu
 ·rcases DM a with rfl|rfl|rfl|rfl|rfl|rfl<;>try cases hu
  have U:=Nd _ _ (Ug b);rw[show(123::120::u:H).drop ([123]:H).length=120::u from rfl,IY (by decide)] at U;cases U
def jO{α:Type}(x:dD α):Prop:=∃q,x= .bad q
theorem jO.N{α β:Type}{m:ad α}{k:α->ad β}{r:H}{F:ai}(h:jO (m r F)):jO (Go.Eng.N m k r F):=by obtain⟨q,h⟩:=h;exact⟨q,hp h⟩
theorem jO.aI{α:Type}{m:ad α}{x r:H}{F:ai}(h:jO (m r F)):jO (m.aI x r F):=by obtain⟨q,h⟩:=h;exact⟨q,by unfold ad.aI;rw[h]⟩
theorem jO.named{α:Type}{m:ad α}{x r:H}{F:ai}(h:jO (m r F)):jO (m.named x r F):=by obtain⟨q,h⟩:=h;exact⟨q,by unfold ad.named;rw[h]⟩
theorem jO.rep{σ α:Type}{f:σ->ad (σ⊕α)}{s:σ}{r:H}{F:ai}(h:jO (f s r F)):jO (ck f s r F):=by obtain⟨q,h⟩:=h;exact⟨q,by rw[cK,h];rfl⟩
theorem jO.x{j:Bool}{r:H}{x:dD Unit}(h:jO x):sw j r x:=by obtain⟨q,rfl⟩:=h;trivial
theorem jO.ls{n:Nat}{c:Ctx}{no:Bool}{x:H}{F:ai}(Y:bn x=some x)(a:an x≠ .eof)(ax:an x≠ .line)(b:cE (an x) [33]=false)(he:ec c (an x)=false)
  (ay:jO (fM true (some (aS true n)) (dy (some (aS true n))) x F)):jO ((aS true (n+1)).ls c no x F):=by
 rw[AV,sj,aT (iL.2 (p9 Y ax))];refine jO.rep ?_;rw[IU Y a he];refine jO.N (m:=jj true (n+1)) (jO.N (m:=fv _) ?_);unfold fv;rw[aT (cu Y),b];simp only[fo,cH];rw[aT (show aZ () x F= .ok () x F from rfl)];exact ay.N
theorem ac1(t:H):c4 (41::t)=true:=(et.op (oN t) (m1 t) (by decide) (by decide)).pH
theorem ac2{D:ad Unit}{d:UInt8}{w x:H}{F:ai}{n:Nat}(b:(d::w).all qT=true)(f:d≠35)(c:c4 x=true)(Z:fg (bu ((d::w++x).dropWhile cf))=false)(M:rI (d::w)=false)(U:oB (d::w)=false)(g:my (d::w)=false)(a:x≠[]):
  fM true (some (aS true n)) D (d::w++x) F=ho true D x F:=by
 obtain⟨h,e⟩:=mH (w:=d::w) (r:=x) (by simp) b (by simpa using f) c;unfold fM;rw[aT (cu e),h,aO (by simp),aO (by simp[gz,U])];simp only;rw[aO (by simp[M]),aT (s7 e Z),aO (by simp),aT (DH b c a),aO (by simp[g])]
theorem arc{n:Nat}{u:H}{F:ai}:jO (fM true (some (aS true n)) (dy (some (aS true n))) (49::43::40::u) F):=by
 rw[show(49::43::40::u:H)=[49,43]++(40::u) from rfl,ac2 (d:=49) (w:=[43]) (by decide) (by decide) (IZ _) (by
  rw[show([49,43]++(40::u):H).dropWhile cf=43::40::u from rfl,mV (by decide)];decide) (by decide) (by decide) (by decide) (by simp)]
 unfold ho;refine jO.rep ?_;rw[aT (s7 (IW u) (by rw[show(40::u:H).dropWhile cf=40::u from rfl,SQ];decide)),aO (by simp),aT (Fz _ _)];exact⟨_,rfl⟩
theorem ac3{n:Nat}{u:H}{F:ai}:jO (gA (aS true (n+1)) (.op [40]) (40::49::43::40::u) F):=by rw[GB];obtain⟨b,c⟩:=mH (w:=[49,43]) (r:=40::u) (by simp) (by decide) (by decide) (IZ _);have a:an (49::43::40::u)= .word [49,43] true:=b;exact jO.N (jO.aI (jO.ls (x:=49::43::40::u) c (by rw[a];simp) (by rw[a];simp) (by rw[a];rfl) (by rw[a];rfl) arc))
theorem ac4{j:Bool}{u:H}(Y:bn u=some u)(a:an u≠ .op [41])(aw:∀n F,jO (gA (aS true (n+2)) (.op [40]) (40::u) F)):g8 j (40::u):=by
 refine⟨λv hu=>(by cases hu),λv hu=>(by cases hu),λ_ ay n F av b=>?_,λv hu n F av b=>Vg (d:=0) (by omega) Y a av⟩
 obtain⟨m,rfl⟩:∃m,n=m+3:=⟨n-3,by omega⟩
 rw[wA];exact((aw m F).named (x:=lJ (.op [40]))).x
theorem g8.aj{j:Bool}{u:H}:g8 j (40::49::43::40::u):=by obtain⟨a,b⟩:=mH (w:=[49,43]) (r:=40::u) (by simp) (by decide) (by decide) (IZ _);exact ac4 b (by rw[show an (49::43::40::u)=_ from a];simp) λn F=>ac3
theorem g8.cB{j:Bool}{u:H}:g8 j (40::40::49::43::40::u):=by refine ac4 (IW _) (by rw[wA];simp) λn F=>?_;rw[GB];refine jO.N (jO.aI (jO.ls (x:=40::49::43::40::u) (IW _) (by rw[wA];simp) (by rw[wA];simp) (by rw[wA];rfl) (by rw[wA];rfl) ?_));unfold fM;rw[aT (Fz _ _),aO (by simp),bh (by rfl)];exact jO.N (jO.named (x:=lJ (.op [40])) (ac3 (n:=n)))
theorem g8.a3{j:Bool}{u:H}:g8 j (40::50::41::u):=by
 obtain⟨f,g⟩:=mH (w:=[50]) (r:=41::u) (by simp) (by decide) (by decide) (ac1 _);have a:an (50::41::u)= .word [50] true:=f;have b:bn (50::41::u)=some (50::41::u):=g;have c:=et.op (oN u) (m1 u) (by decide) (by decide);refine⟨λv hu=>(by cases hu),λv hu=>(by cases hu),λ_ ay n F av e=>?_,λv hu n F av e=>Vg (d:=0) (by omega) b (by rw[a];simp) av⟩
 obtain⟨m,rfl⟩:∃m,n=m+2:=⟨n-2,by omega⟩
 rw[wA];refine sw.named (m:=gA (aS true (m+1)) (.op [40])) ?_;have ay:fM true (some (aS true m)) (dy (some (aS true m))) (50::41::u) F= .ok () (41::u) F:=by
  rw[show(50::41::u:H)=[50]++(41::u) from rfl,ac2 (d:=50) (w:=[]) (by decide) (by decide) (ac1 _) (by
   rw[show([50]++(41::u):H).dropWhile cf=41::u from rfl,<-(h4 (m1 u)).1];decide) (by decide) (by decide) (by decide) (by simp)]
  exact c.simple _ F
 have h:=(Y_ b (by rw[a];rfl) ay (oN u) (by rw[m1];simp) (by rw[m1];simp) (by rw[m1];simp)).2;have ax:(aS true (m+1)).ls .paren false (50::41::u) F= .ok 1 (41::u) F:=by rw[AV,sj,aT (iL.2 (p9 b (by rw[a];simp))),cK,IU b (by rw[a];simp) (by rw[a];rfl),aT (show jj true (m+1) (50::41::u) F= .ok () (41::u) F from h),aT (cu (oN u)),m1];rfl
 rw[GB,aT (iL.2 (show(aS true (m+1)).ls .paren false ((40::50::41::u).drop 1) F=_ from ax)),A1 (oN u) (m1 u)];exact⟨⟨[40,50,41],rfl⟩,e.sfx ⟨[40,50,41],rfl⟩⟩
theorem dB.JV{j:Bool}{k:Nat}{v:H}(h:dB j k v):∀w∈nj,dB j k (w++v):=by
 have aw:∀w∈nj,w=[36,40,40,49,43,40,50,41,41,41]\/wZ w=true:=by decide
 intro w a;rcases aw w a with rfl|ay
 ·have b:dB j k (40::([50,41,41,41]++v)):= .free (h.const (by decide)) λ_=>g8.a3;have U:dB j k (40::([49,43]++(40::([50,41,41,41]++v)))):= .free (b.const (by decide)) λ_=>g8.aj;have M:dB j k (40::(40::([49,43]++(40::([50,41,41,41]++v))))):= .free U λ_=>g8.cB;refine .free M λd=>⟨λu hu c=>?_,λu hu=>(by cases hu),λY ay=>?_,λu hu=>(by cases hu)⟩
  ·cases hu;exact absurd rfl c
  ·exfalso;rcases GD ay with⟨u,hu⟩|⟨w,a,_,u,hu⟩
   ·cases hu
   ·rcases DM a with rfl|rfl|rfl|rfl|rfl|rfl<;>cases hu
 ·exact h.const ay
section
variable{X:fC}{m:Nat}(hm:X.c0<=m)(eR:ab X.E m (jj true m)){d:Nat}(kw:ra X d m)
include hm eR kw
theorem are{u v:H}{F:ai}(hu:gP d u)(av:cZ X F (jW++([32]++([98]++(10::(hj++([32]++([99]++(10::(gi++([32]++(u++(59::(eb++([32,50,62,102]++v))))))))))))))):
  bM X (λr=>r=[32,50,62,102]++v) F (gA (aS true m) (.word jW true) (jW++([32]++([98]++(10::(hj++([32]++([99]++(10::(gi++([32]++(u++(59::(eb++([32,50,62,102]++v)))))))))))))) F):=by
 have bk:=mW X.ok m;rw[zQ,aO (by decide),bh rfl,oO,U5,cK];have c:=av.sfx (fR jW _);have e:cZ X F (10::(hj++([32]++([99]++(10::(gi++([32]++(u++(59::(eb++([32,50,62,102]++v))))))))))):=c.sfx ⟨[32,98],by simp⟩;have f:cZ X F ([32]++([99]++(10::(gi++([32]++(u++(59::(eb++([32,50,62,102]++v))))))))):=e.sfx ⟨10::hj,by simp⟩;have g:cZ X F (10::(gi++([32]++(u++(59::(eb++([32,50,62,102]++v))))))):=f.sfx ⟨[32,99],by simp⟩;have i:cZ X F ([32]++(u++(59::(eb++([32,50,62,102]++v))))):=g.sfx ⟨10::gi,by simp⟩;have b:ab X.E m (N (cF eb) λ_=>(aZ (.inr ()):ad (Unit⊕Unit))):=ab.N X.ok (ab.cF X.ok _) λ_=>ab.ret _;have h:ab X.E m (N (bQ []) λt=>if cE t ir then N (cF ir) λ_=>(aZ (.inl ()):ad (Unit⊕Unit)) else
  if cE t gi then N (cF gi) λ_=>N (((aS true m).ls .ku false).aI (10::eb)) λ_=>N (cF eb) λ_=>aZ (.inr ()) else N (cF eb) λ_=>aZ (.inr ())):=ab.gb X.ok λt=>ab.ite (ab.N X.ok (ab.cF X.ok _) λ_=>ab.ret _) (ab.ite (ab.N X.ok (ab.cF X.ok _) λ_=>ab.N X.ok ((bk.ls _ _).aI _) λ_=>b) b)
 unfold DG;refine bM.q_ hm (yb X.ok bk) (kw.ls (.inr (.inl rfl)) (DF (.inr (.inl rfl))) (jE.ya (w:=hj) hm eR (by decide) (by decide) (by decide) rfl rfl e) c).aI (λa r' _ Z=>?_) (λ_=>ab.N X.ok (ab.cF X.ok _) λ_=>ab.N X.ok ((bk.ls _ _).aI _) λ_=>h);subst Z;rw[aT (rN (by decide) (by decide) (by decide) rfl)];refine bM.q_ hm (yb X.ok bk) (kw.ls (.inr (.inl rfl)) (DF (.inr (.inr rfl))) (jE.ya (w:=gi) hm eR (by decide) (by decide) (by decide) rfl rfl g) f).aI (λa r' _ Z=>?_) (λ_=>h);subst Z;obtain⟨j,k⟩:=mH (w:=gi) (r:=[32]++(u++(59::(eb++([32,50,62,102]++v))))) (by decide) (by decide) (by decide) rfl;rw[aT (cu k),j,aO (by decide),bh (by decide),aT (rN (by decide) (by decide) (by decide) rfl)];refine bM.q_ hm (yb X.ok bk) (kw.ls (.inr (.inl rfl)) hu.cc (jE.U6 (w:=eb) hm eR (by decide) (by decide) (by decide) rfl rfl (by decide)) i).aI (λa r' _ Z=>?_) (λ_=>b);subst Z;rw[aT (rN (by decide) (by decide) (by decide) rfl)];exact bM.ok
theorem arf{t v v':H}{F:ai}(e:et v v')(f:gP d t)(av:cZ X F (40::41::32::123::([10]++(t++(10::([125]++([32,62,102]++v))))))):
  bM X (λr=>r=v') F (kH true (some (aS true (m+1))) (40::41::32::123::([10]++(t++(10::([125]++([32,62,102]++v)))))) F):=by
 have bk:=mW X.ok (m+1);have aw:=Vc hm eR kw (t:=t) (v:=[32,62,102]++v) (F:=F) rfl f (av.sfx ⟨[40,41,32],rfl⟩);have b:c4 ([10]++(t++(10::([125]++([32,62,102]++v)))))=true:=rfl;generalize [10]++(t++(10::([125]++([32,62,102]++v))))=z at av aw b⊢;have g:(aS true (m+1)).has=true:=rfl;have h:bn (32::123::z)=some (123::z):=by rw[k3];exact jX (by decide) (by decide) (by decide)
 obtain⟨c,i⟩:=mH (w:=[123]) (r:=z) (by decide) (by decide) (by decide) b;unfold kH;simp only;rw[bh g];refine bM.named ?_
 rw[aT (show b5 1 (40::41::32::123::z) F= .ok () (41::32::123::z) F from rfl),aT (cu (oN _)),m1,aO (by simp),bh rfl,
  aT (show b5 1 (41::32::123::z) F= .ok () (32::123::z) F from rfl),aT (iL.2 (p9 h (by rw[show an (123::z)= .word [123] true from c];simp))),
  aT (cu (show bn (123::z)=some (123::z) from i)),show an (123::z)= .word [123] true from c,aO (by simp),bh (by decide)]
 refine bM.N (n:=m+1) (by omega) (show bM X (λr=>r=[32,62,102]++v) F ((aS true (m+1)).cp (.word [123] true) (123::z) F) from aw.named) (λa r' _ Z=>?_) (λ_=>ab.ite bk.rd (ab.ret _));subst Z;rw[bh trivial];rw[show(aS true (m+1)).rd=g0 (dy (some (aS true m))) from rfl,Vb (.inr (.inr rfl)) e];exact bM.ok
end
theorem et.sfx{v v':H}(h:et v v'):v'<:+v:=ef h.qj
section
variable{j:Bool}{d:Nat}(aD:d<=2)
include aD
theorem g8.kw{r w v:H}(c:oB w=true)(a:an r= .word w true)(e:v<:+r)(f:m2 j<:+r)
  (aw:∀m F,ra (j5 j) d m->ab (j5 j).E m (jj true m)->(j5 j).c0<=m->cZ (j5 j) F r->bM (j5 j) (λq=>q=v) F (gA (aS true m) (.word w true) r F)):g8 j r:=by
 have az:∃u,r=w++u:=by obtain⟨u,hu⟩:=U3 (r:=r) (w:=w) (by rw[a];simp[cE]);exact⟨u,hu.symm⟩
 obtain⟨u,rfl⟩:=az
 have b:∀x,(w++u).head?=some x->x≠40/\x≠36:=by intro x g;rcases DM c with rfl|rfl|rfl|rfl|rfl|rfl<;>(cases g;decide)
 refine aq9 ⟨v,a,λF h m hm=>⟨e,?_⟩⟩ (λu hu=>(b 40 (by rw[hu];rfl)).1 rfl) (λu hu=>(b 36 (by rw[hu];rfl)).2 rfl) f;obtain⟨i,k,l⟩:=JU (j:=j) aD (m:=m) (by omega);exact aw m F i k l h
theorem g8.fn{t v v':H}(b:et v v')(e:gP d t)(f:m2 j<:+40::41::32::123::([10]++(t++(10::([125]++([32,62,102]++v)))))):g8 j (40::41::32::123::([10]++(t++(10::([125]++([32,62,102]++v)))))):=by
 refine⟨λu hu=>(by cases hu),λu hu=>(by cases hu),λ_ ay n F av a=>?_,λu hu n F av a=>?_⟩
 ·obtain⟨m,rfl⟩:∃m,n=m+2:=⟨n-2,by omega⟩
  rw[wA];refine(jO.named (m:=gA (aS true (m+1)) (.op [40])) ?_).x;rw[GB];refine jO.N (jO.aI ?_);show jO ((aS true (m+1)).ls .paren false (41::_) F);rw[AV,sj,aT (iL.2 (p9 (oN _) (by rw[m1];simp)))];refine jO.rep ?_;unfold fa;rw[aT (cu (oN _)),m1,aO (by simp),aO (by simp)];exact jO.N ⟨_,YX (c:= .paren) (oN _) (by rw[m1];rfl) (by rw[m1];simp)⟩
 ·obtain⟨m,rfl⟩:∃m,n=m+1:=⟨n-1,by omega⟩
  obtain⟨g,h,i⟩:=JU (j:=j) aD (m:=m) (by omega);refine(arf i h g b e a).x f (b.sfx.trans ?_) a;exact⟨40::41::32::123::([10]++(t++(10::([125]++[32,62,102])))),by simp⟩
end
theorem et.FH(u:H):et (41::u) (41::u):=et.op (oN u) (m1 u) (by decide) (by decide)
theorem et.GF(u:H):et (59::u) (59::u):=by
 cases u with
 |nil=>exact et.op (zR []) (by decide) (o:=[59]) (by decide) (by decide)
 |cons b t=>
  by_cases h:b=59
  ·subst h;exact et.op (zR _) GC (by decide) (by decide)
  ·exact et.op (zR _) (Oi h) (by decide) (by decide)
section
variable{j:Bool}
structure ur(j:Bool)(d:Nat):Prop where
 wd:∀{w v:H}{k:Nat},fY d w->dB j k v->dB j k (w++v)
 ls:∀{t v v':H}{k:Nat},gP d t->et v v'->dB j k v->dB j k (t++v)
theorem ur.list{C:H->Prop}(a:∀{c v v':H}{k:Nat},C c->et v v'->dB j k v->dB j k (c++v)){t v v':H}{k:Nat}(d:rY C t)(e:et v v')(h:dB j k v):dB j k (t++v):=by
 obtain⟨c,l,M,U,rfl⟩:=d;induction l generalizing c with
 |nil=>simpa[cR] using a M e h
 |cons p l f=>
  obtain⟨b,g⟩:=U p (by simp);have i:=f p.2 g λq m=>U q (by simp[m]);obtain⟨r,n⟩:=U0 (x:=p.2++cR l++v) b;have o:=a M n (i.const ((by decide:∀j∈jl,wZ j=true) p.1 b));have he:c++cR (p::l)++v=c++(p.1++(p.2++cR l++v)):=by simp[cR]
  rw[he];exact o
theorem ur.simple{W:H->Prop}(hW:∀{w v:H}{k:Nat},W w->dB j k v->dB j k (w++v)){c v:H}{k:Nat}(ay:qi W (fY 0) c)(h:dB j k v):dB j k (c++v):=by
 obtain⟨x,ws,r,M,U,rfl,b⟩:=ay;have d:dB j k (r++v):=by
  rcases b with rfl|rfl|⟨w,a,rfl⟩
  ·exact h
  ·exact h.const (by decide)
  ·have:=(h.JV w a).const (p:=[32,62]) (by decide);simpa using this
 have e:dB j k (jb ws++(r++v)):=by
  clear M;induction ws with
  |nil=>exact d
  |cons w ws f=>have:=(hW (U w (by simp)) (f λw a=>U w (by simp[a]))).const (p:=[32]) (by decide);simpa[jb] using this
 have:=e.const ((by decide:∀x∈q7,wZ x=true) x M);simpa using this
theorem ur.word{d:Nat}(aD:d<=2)(i:ur j d){w v:H}{k:Nat}(c:fY (d+1) w)(h:dB j k v):dB j k (w++v):=by
 have a:∀{t u:H},gP d t->dB j k u->dB j k (36::40::(t++41::u)):=λ{t u} e hu=>
  .free (.free (i.ls e (et.FH u) (hu.const (p:=[41]) (by decide))) λb=>g8.par aD e.cc b) λb=>g8.sub aD e b
 rcases c with c|⟨t,M,rfl|rfl⟩|⟨x,M,rfl⟩
 ·exact h.JV w c
 ·simpa using a M h
 ·have:=(a M (h.const (p:=[34]) (by decide))).const (p:=[34,120]) (by decide);simpa using this
 ·have U:=(i.wd M (h.const (p:=[125]) (by decide))).const (p:=[120,58,45]) (by decide);have f:dB j k (36::123::([120,58,45]++(x++125::v))):= .free (.free U λ_=>g8.ara) λb=>g8.aq_ aD M b;simpa using f
theorem ur.comp{d:Nat}(aD:d<=2)(i:ur j d){c v v':H}{k:Nat}(ay:tg (gP d) (fY d) c)(q:et v v')(h:dB j k v):dB j k (c++v):=by
 have n:=q.pH;rcases ay with⟨t,M,rfl⟩|⟨t,M,rfl⟩|⟨t,u,M,U,rfl⟩|⟨t,u,M,U,rfl⟩|⟨t,u,M,U,rfl⟩|⟨w,u,M,U,rfl⟩|rfl|⟨w,u,M,U,rfl⟩|⟨t,M,rfl⟩
 ·have:dB j k (40::(t++41::v)):= .free (i.ls M (et.FH v) (h.const (p:=[41]) (by decide))) λa=>g8.par aD M.cc a;simpa using this
 ·have l:=(i.ls M (et.nl _) (h.const (p:=[10,125]) (by decide))).const (p:=[32]) (by decide);have he:[123,32]++(t++[10])++[125]++v=123::([32]++(t++([10,125]++v))):=by simp
  rw[he];refine .free l λa=>?_;rw[<-he] at a⊢;refine g8.kw aD (w:=[123]) (v:=v) (by decide) (n6 (w:=[123]) (by decide) (by decide) (rM _)) (fR _ _) a λm F b e f g=>acI f e b n M g
 ·have l:=(i.ls M (et.GF _) ((i.ls U (et.nl _) (((h.last n (.inl rfl):dB j k (105::v)).free λ_=>g8.plain rfl:dB j k (102::105::v)).const (p:=[10]) (by decide))).const (p:=[59,32,116,104,101,110,32]) (by decide))).const (p:=[102,32]) (by decide);have he:[105,102,32]++(t++[59])++[32,116,104,101,110,32]++(u++[10])++[102,105]++v=105::([102,32]++(t++([59,32,116,104,101,110,32]++(u++([10]++(102::105::v)))))):=by simp
  rw[he];refine .free l λa=>?_;rw[<-he] at a⊢;exact g8.kw aD (w:=jW) (v:=v) (by decide) (n6 (w:=jW) (by decide) (by decide) (rM _)) (fR _ _) a λm F b e f g=>acJ f e b n M U g
 ·have l:=(i.ls U (et.GF _) ((h.last n (.inr (.inl rfl)):dB j k (102::v)).const (p:=[59,102,105,32,50,62]) (by decide))).const (p:=[102,32,98,10,116,104,101,110,32,99,10,101,108,115,101,32]) (by decide);have he:105::([102,32,98,10,116,104,101,110,32,99,10,101,108,115,101,32]++(u++([59,102,105,32,50,62]++(102::v))))=jW++([32]++([98]++(10::(hj++([32]++([99]++(10::(gi++([32]++(u++(59::(eb++([32,50,62,102]++v))))))))))))):=by simp[jW,hj,gi,eb]
  have aj:dB j k (105::([102,32,98,10,116,104,101,110,32,99,10,101,108,115,101,32]++(u++([59,102,105,32,50,62]++(102::v))))):=by refine .free l λa=>?_;rw[he] at a⊢;exact g8.kw aD (w:=jW) (v:=[32,50,62,102]++v) (by decide) (n6 (w:=jW) (by decide) (by decide) (rM _)) ⟨jW++([32]++([98]++(10::(hj++([32]++([99]++(10::(gi++([32]++(u++(59::eb))))))))))),by simp⟩ a λm F b e f g=>are f e b U g
  have a3:=(i.ls M (et.nl _) (aj.const (p:=[10,101,108]) (by decide))).const (p:=[102,32,97,59,32,116,104,101,110,10]) (by decide);have o:[105,102,32,97,59,32,116,104,101,110,10]++(t++[10])++[101,108,105,102,32,98,10,116,104,101,110,32,99,10,101,108,115,101,32]++(u++[59])++[102,105,32,50,62,102]++v=105::([102,32,97,59,32,116,104,101,110,10]++(t++([10,101,108]++(105::([102,32,98,10,116,104,101,110,32,99,10,101,108,115,101,32]++(u++([59,102,105,32,50,62]++(102::v)))))))):=by simp
  rw[o];refine .free a3 λa=>?_;rw[<-o] at a⊢;exact g8.kw aD (w:=jW) (v:=[32,50,62,102]++v) (by decide) (n6 (w:=jW) (by decide) (by decide) (rM _)) ⟨[105,102,32,97,59,32,116,104,101,110,10]++(t++[10])++[101,108,105,102,32,98,10,116,104,101,110,32,99,10,101,108,115,101,32]++(u++[59])++[102,105],by simp⟩ a λm F b e f g=>acK f e b M U g
 ·have l:=(i.ls M (et.nl _) ((i.ls U (et.GF _) (h.const (p:=[59,32,100,111,110,101]) (by decide))).const (p:=[10,100,111,32]) (by decide))).const (p:=[104,105,108,101,32]) (by decide);have he:[119,104,105,108,101,32]++(t++[10])++[100,111,32]++(u++[59])++[32,100,111,110,101]++v=119::([104,105,108,101,32]++(t++([10,100,111,32]++(u++([59,32,100,111,110,101]++v))))):=by simp
  rw[he];refine .free l λa=>?_;rw[<-he] at a⊢;exact g8.kw aD (w:=tT) (v:=v) (by decide) (n6 (w:=tT) (by decide) (by decide) (rM _)) (fR _ _) a λm F b e f g=>acM f e b n M U g
 ·have l:=(i.wd M ((i.ls U (et.GF _) (h.const (p:=[59,100,111,110,101]) (by decide))).const (p:=[59,32,100,111,32]) (by decide))).const (p:=[111,114,32,120,32,105,110,32,97,32]) (by decide);have he:[102,111,114,32,120,32,105,110,32,97,32]++w++[59,32,100,111,32]++(u++[59])++[100,111,110,101]++v=102::([111,114,32,120,32,105,110,32,97,32]++(w++([59,32,100,111,32]++(u++([59,100,111,110,101]++v))))):=by simp
  rw[he];refine .free l λa=>?_;rw[<-he] at a⊢;exact g8.kw aD (w:=mz) (v:=v) (by decide) (n6 (w:=mz) (by decide) (by decide) (rM _)) (fR _ _) a λm F b e f g=>acP f e b n M U g
 ·have l:=h.const (p:=[111,114,32,120,10,100,111,32,97,10,100,111,110,101]) (by decide);refine .free l λa=>?_;exact g8.kw aD (w:=mz) (v:=v) (by decide) (n6 (w:=mz) (by decide) (by decide) (rM _)) (fR [102,111,114,32,120,10,100,111,32,97,10,100,111,110,101] _) a λm F b e f g=>acR f e b n g
 ·have a0:=((h.last n (.inr (.inr rfl)):dB j k (99::v)).const (p:=[32,59,59,32,100,41,32,101,115,97]) (by decide)).const (p:=[99,41]) (by decide);have l:dB j k (40::([99]++41::([32,59,59,32,100,41,32,101,115,97]++(99::v)))):= .free a0 λa=>g8.par (d:=0) (by omega) (DF (.inr (.inr rfl))) a;have aj:=(i.wd M ((i.ls U (et.GF _) (l.const (p:=[59,59,10]) (by decide))).const (p:=[32,105,110,32,97,124,98,41,32]) (by decide))).const (p:=[97,115,101,32]) (by decide);have he:[99,97,115,101,32]++w++[32,105,110,32,97,124,98,41,32]++(u++[])++[59,59,10,40,99,41,32,59,59,32,100,41,32,101,115,97,99]++v=99::([97,115,101,32]++(w++([32,105,110,32,97,124,98,41,32]++(u++([59,59,10]++(40::([99]++41::([32,59,59,32,100,41,32,101,115,97]++(99::v))))))))):=by simp
  rw[he];refine .free aj λa=>?_;rw[<-he] at a⊢;exact g8.kw aD (w:=oA) (v:=v) (by decide) (n6 (w:=oA) (by decide) (by decide) (rM _)) (fR _ _) a λm F b e f g=>acW f e b n M U g
 ·have l:=(i.ls M (et.nl _) ((h.last n (.inr (.inl rfl)):dB j k (102::v)).const (p:=[10,125,32,62]) (by decide))).const (p:=[10]) (by decide);have he:123::([10]++(t++([10,125,32,62]++(102::v))))=123::([10]++(t++(10::([125]++([32,62,102]++v))))):=by simp
  have aj:dB j k (123::([10]++(t++([10,125,32,62]++(102::v))))):=by refine .free l λa=>?_;rw[he] at a⊢;exact g8.kw aD (w:=[123]) (v:=[32,62,102]++v) (by decide) (n6 (w:=[123]) (by decide) (by decide) (Fm _)) ⟨123::([10]++(t++(10::[125]))),by simp⟩ a λm F b e f g=>Vc f e b rfl M g
  have a3:dB j k (40::([41,32]++(123::([10]++(t++([10,125,32,62]++(102::v))))))):=by refine .free (aj.const (by decide)) λa=>?_;rw[he] at a⊢;exact g8.fn aD q M a
  have r:dB j k (102::(40::([41,32]++(123::([10]++(t++([10,125,32,62]++(102::v)))))))):= .free a3 λ_=>g8.plain rfl;have o:[102,40,41,32,123,10]++(t++[10])++[125,32,62,102]++v=102::(40::([41,32]++(123::([10]++(t++([10,125,32,62]++(102::v))))))):=by simp
  rw[o];exact r
theorem GG:∀d,d<=3->ur j d
 |0,_=>⟨λa h=>h.JV _ a,λc b h=>ur.list (λay _ h=>ur.simple (λa h=>h.JV _ a) ay h) c b h⟩
 |d+1,aD=>by
  have i:=GG d (by omega);refine⟨λa h=>i.word (by omega) a h,λc b h=>ur.list (λay b h=>?_) c b h⟩;rcases ay with ay|ay
  ·exact ur.simple (λa h=>i.word (by omega) a h) ay h
  ·exact i.comp (by omega) ay b h
end
def mN:H->Nat
 |[]=>0
 |b::t=>(if !wY (b::t)&& !(t==[]&&([36,105,119,117,102,99]:H).contains b)&& !(b::t==[99,97]) then 0 else 1)+mN t
section
variable{j:Bool}
theorem dB.any{k:Nat}{B:H}(h:dB j k B):∀a,dB j (k+mN a) (a++B)
 |[]=>h
 |b::t=>by
  have c:=h.any t;unfold mN;split
  ·rename_i az;simp only[hU,Bw] at az;rw[Nat.zero_add];exact .free c λ_=>g8.plain (Vf az.1.1 az.1.2 az.2)
  ·rw[show k+(1+mN t)=k+mN t+1 by omega];exact .mark b c
def dh(j:Bool)(K:Nat)(w:H):Prop:=∀a C,w=a++C->∀k B,dB j k B->∃i,i<=k+K/\dB j i (a++B)
theorem dh.mono{K a:Nat}{w:H}(h:dh j K w)(aw:K<=a):dh j a w:=λb C he k B c=>by obtain⟨i,M,U⟩:=h b C he k B c;grind
theorem dh.nil:dh j 0 []:=λa C he k B b=>by obtain⟨rfl,_⟩:=List.append_eq_nil_iff.1 he.symm;grind
theorem dh.const{p y:H}{K b:Nat}(e:dh j b y)(az:∀n,n<=p.length->mN (p.take n)<=K)(g:mN p+b<=K):dh j K (p++y):=by
 intro c C he k B d;rcases List.append_eq_append_iff.1 he with⟨a,M,U⟩|⟨a,M,U⟩
 ·obtain⟨i,h,f⟩:=e a C U k B d;refine⟨i+mN p,by omega,?_⟩;rw[M,rb];exact f.any p
 ·refine⟨k+mN c,?_,d.any c⟩;grind[List.take_left]
theorem dh.of{p:H}{K:Nat}(az:∀n,n<=p.length->mN (p.take n)<=K):dh j K p:=by have:=dh.const (dh.nil (j:=j)) az (by have:=az p.length (cS _);grind);grind
theorem dh.app{x y:H}{K:Nat}(c:dh j K x)(e:dh j K y)(g:∀a C k B,y=a++C->a≠[]->dB j k (a++B)->dB j k (x++(a++B))):dh j K (x++y):=by
 intro d C he k B b;rcases List.append_eq_append_iff.1 he with⟨a,M,U⟩|⟨a,M,U⟩
 ·by_cases f:a=[]
  ·subst f;rw[k8] at M;exact c d [] (by grind) k B b
  ·obtain⟨i,h,l⟩:=e a C U k B b;grind
 ·exact c d a M k B b
structure JW(j:Bool)(d:Nat):Prop where
 wd:∀{w:H},fY d w->dh j (4+2*d) w
 ls:∀{t:H},gP d t->dh j (4+2*d) t
theorem On{w:H}(a:w∈nj):dh j 4 w:=dh.of ((by decide:∀w∈nj,∀n,n<=w.length->mN (w.take n)<=4) w a)
theorem dh.uu{d:Nat}(aD:d<=3){t y:H}{b:UInt8}{K:Nat}(e:b=10\/b=41\/b=59)(f:gP d t)(h:dh j K t)(g:dh j K (b::y)):dh j K (t++b::y):=by
 refine h.app g λa C k B he av i=>?_;cases a with
 |nil=>grind
 |cons c a=>
  cases he;refine(GG d aD).ls f (v':=b::(a++B)) ?_ i;rcases e with rfl|rfl|rfl
  ·simp[et.nl]
  ·simp[et.FH]
  simp[et.GF]
theorem dh.Oo{d:Nat}(aD:d<=3){w y:H}{K:Nat}(b:fY d w)(h:dh j K w)(c:dh j K y):dh j K (w++y):=h.app c λa C k B he av e=>(GG d aD).wd b e
theorem dh.list{C:H->Prop}{K:Nat}(g:∀{c:H},C c->dh j K c)(hW:∀{c v v':H}{k:Nat},C c->et v v'->dB j k v->dB j k (c++v)){t:H}(u:rY C t):dh j K t:=by
 obtain⟨c,l,M,U,rfl⟩:=u;induction l generalizing c with
 |nil=>grind[cR]
 |cons p l w=>
  obtain⟨e,y⟩:=U p (by simp);have z:=w p.2 y λq F=>U q (by grind);have he:c++cR (p::l)=c++(p.1++(p.2++cR l)):=by simp[cR]
  rw[he];intro A D hA k B f
  have G:∀n,n<=p.1.length->mN (p.1.take n)=0:=(by decide:∀q∈jl,∀n,n<=q.length->mN (q.take n)=0) p.1 e
  rcases List.append_eq_append_iff.1 hA with⟨a,h,m⟩|⟨a,h,m⟩
  ·rcases List.append_eq_append_iff.1 m with⟨b,E,o⟩|⟨b,E,o⟩
   ·obtain⟨i,d,r⟩:=z b D o k B f;obtain⟨I,s⟩:=U0 (x:=b++B) e;refine⟨i,d,?_⟩;have:=hW M s (r.const ((by decide:∀j∈jl,wZ j=true) p.1 e));grind
   ·have d:=f.any a;have:mN a=0:=by grind[List.take_left]
    rw[this] at d;obtain⟨i,r,s⟩:=g M c [] (by simp) k (a++B) d;grind
  ·exact g M A a h k B f
theorem dh.simple{d:Nat}(aD:d<=3){c:H}(hW:∀{w:H},fY d w->dh j (4+2*d) w)(ay:qi (fY d) (fY 0) c):dh j (4+2*d) c:=by
 obtain⟨x,ws,r,M,U,rfl,b⟩:=ay;have Z:dh j (4+2*d) r:=by
  rcases b with rfl|rfl|⟨w,a,rfl⟩
  ·exact dh.nil.mono (by omega)
  ·exact(dh.of (K:=0) (by decide)).mono (by omega)
  ·exact(dh.const (K:=4) (On a) (p:=[32,62]) (by decide) (by decide)).mono (by omega)
 have g:dh j (4+2*d) (jb ws++r):=by
  clear M;induction ws with
  |nil=>exact Z
  |cons w ws e=>have f:=dh.Oo aD (U w (by simp)) (hW (U w (by simp))) (e λw a=>U w (by grind));have:=dh.const f (p:=[32]) (K:=4+2*d) (λn av=>kN ((by decide:∀n,n<=([32]:H).length->mN (([32]:H).take n)<=0) n av) (by omega)) (by rw[show mN [32]=0 from rfl];omega);grind[jb]
 have h:∀x∈q7,(∀n,n<=x.length->mN (x.take n)<=4)/\mN x=0:=by decide
 grind[dh.const]
theorem dh.k{p y:H}{K a c:Nat}(az:∀n,n<=p.length->mN (p.take n)<=c)(b:dh j a y)(d:c+a<=K):dh j K (p++y):=dh.const b (λn av=>kN (az n av) (by omega)) (by have:=az p.length (cS _);grind)
theorem dh.jn{p y:H}{K a c c0:Nat}(az:∀n,n<=p.length->mN (p.take n)<=c0)(ay:mN p=c)(b:dh j a y)(h0:c0<=K)(d:c+a<=K):dh j K (p++y):=dh.const b (λn av=>kN (az n av) h0) (by omega)
theorem JW.word{d:Nat}(aD:d<=2)(i:JW j d){w:H}(a:fY (d+1) w):dh j (4+2*(d+1)) w:=by
 rcases a with a|⟨t,M,rfl|rfl⟩|⟨x,M,rfl⟩
 ·exact(On a).mono (by omega)
 ·have:=dh.k (p:=[36,40]) (c:=2) (K:=4+2*(d+1)) (by decide) (dh.uu (by omega) (.inr (.inl rfl)) M (i.ls M) ((dh.of (p:=[41]) (K:=0) (by decide)).mono (by omega))) (by omega);grind
 ·have:=dh.k (p:=[34,120,36,40]) (c:=2) (K:=4+2*(d+1)) (by decide) (dh.uu (by omega) (.inr (.inl rfl)) M (i.ls M) ((dh.of (p:=[41,34]) (K:=0) (by decide)).mono (by omega))) (by omega);grind
 ·have:=dh.k (p:=[36,123,120,58,45]) (c:=2) (K:=4+2*(d+1)) (by decide) (dh.Oo (by omega) M (i.wd M) ((dh.of (p:=[125]) (K:=0) (by decide)).mono (by omega))) (by omega);grind
theorem JW.comp{d:Nat}(aD:d<=2)(i:JW j d){c:H}(ay:tg (gP d) (fY d) c):dh j (4+2*(d+1)) c:=by
 have a:d<=3:=by omega
 rcases ay with⟨t,M,rfl⟩|⟨t,M,rfl⟩|⟨t,u,M,U,rfl⟩|⟨t,u,M,U,rfl⟩|⟨t,u,M,U,rfl⟩|⟨w,u,M,U,rfl⟩|rfl|⟨w,u,M,U,rfl⟩|⟨t,M,rfl⟩
 ·have:=dh.k (p:=[40]) (c:=2) (K:=4+2*(d+1)) (by decide) (dh.uu a (.inr (.inl rfl)) M (i.ls M) ((dh.of (p:=[41]) (K:=0) (by decide)).mono (by omega))) (by omega);grind
 ·have:=dh.k (p:=[123,32]) (c:=2) (K:=4+2*(d+1)) (by decide) (dh.uu a (.inl rfl) M (i.ls M) ((dh.of (p:=[10,125]) (K:=0) (by decide)).mono (by omega))) (by omega);grind
 ·have:=dh.k (p:=[105,102,32]) (c:=2) (K:=4+2*(d+1)) (by decide) (dh.uu a (.inr (.inr rfl)) M (i.ls M) (dh.k (p:=[59,32,116,104,101,110,32]) (c:=0) (K:=4+2*d) (by decide) (dh.uu a (.inl rfl) U (i.ls U) ((dh.of (p:=[10,102,105]) (K:=1) (by decide)).mono (by omega))) (by omega))) (by omega);simp_all
 ·have:=dh.jn (p:=[105,102,32,97,59,32,116,104,101,110,10]) (c:=1) (c0:=2) (K:=4+2*(d+1)) (by decide) rfl (dh.uu a (.inl rfl) M ((i.ls M).mono (by omega)) (dh.jn (p:=[10,101,108,105,102,32,98,10,116,104,101,110,32,99,10,101,108,115,101,32]) (c:=1) (c0:=2) (K:=4+2*d+1) (by decide) rfl (dh.uu a (.inr (.inr rfl)) U (i.ls U) ((dh.of (p:=[59,102,105,32,50,62,102]) (K:=1) (by decide)).mono (by omega))) (by omega) (by omega))) (by omega) (by omega);simp_all
 ·have:=dh.k (p:=[119,104,105,108,101,32]) (c:=2) (K:=4+2*(d+1)) (by decide) (dh.uu a (.inl rfl) M (i.ls M) (dh.k (p:=[10,100,111,32]) (c:=0) (K:=4+2*d) (by decide) (dh.uu a (.inr (.inr rfl)) U (i.ls U) ((dh.of (p:=[59,32,100,111,110,101]) (K:=0) (by decide)).mono (by omega))) (by omega))) (by omega);simp_all
 ·have:=dh.k (p:=[102,111,114,32,120,32,105,110,32,97,32]) (c:=2) (K:=4+2*(d+1)) (by decide) (dh.Oo a M (i.wd M) (dh.k (p:=[59,32,100,111,32]) (c:=0) (K:=4+2*d) (by decide) (dh.uu a (.inr (.inr rfl)) U (i.ls U) ((dh.of (p:=[59,100,111,110,101]) (K:=0) (by decide)).mono (by omega))) (by omega))) (by omega);grind
 ·exact(dh.of (K:=2) (by decide)).mono (by omega)
 ·have:=dh.k (p:=[99,97,115,101,32]) (c:=2) (K:=4+2*(d+1)) (by decide) (dh.Oo a M (i.wd M) (dh.jn (p:=[32,105,110,32,97,124,98,41,32]) (c:=0) (c0:=1) (K:=4+2*d) (by decide) rfl (dh.uu a (.inr (.inr rfl)) U (i.ls U) ((dh.of (p:=[59,59,10,40,99,41,32,59,59,32,100,41,32,101,115,97,99]) (K:=2) (by decide)).mono (by omega))) (by omega) (by omega))) (by omega);grind
 ·have:=dh.k (p:=[102,40,41,32,123,10]) (c:=2) (K:=4+2*(d+1)) (by decide) (dh.uu a (.inl rfl) M (i.ls M) ((dh.of (p:=[10,125,32,62,102]) (K:=1) (by decide)).mono (by omega))) (by omega);grind
theorem Oq:∀d,d<=3->JW j d
 |0,_=>⟨λa=>On a,λb=>dh.list (λay=>dh.simple (d:=0) (by omega) (λa=>On a) ay) (λay c h=>ur.simple (λa h=>h.JV _ a) ay h) b⟩
 |d+1,aD=>by
  have i:=Oq d (by omega);have w:=GG (j:=j) d (by omega);have e:=GG (j:=j) (d+1) aD;refine⟨λa=>i.word (by omega) a,λb=>dh.list (λay=>?_) (λay c h=>?_) b⟩
  ·rcases ay with ay|ay
   ·exact dh.simple (d:=d+1) aD (λa=>i.word (by omega) a) ay
   ·exact i.comp (by omega) ay
  ·rcases ay with ay|ay
   ·exact ur.simple (λa h=>e.wd a h) ay h
   ·exact w.comp (by omega) ay c h
end
end Go.Eng
namespace Go.Eng
open Go Go.Proofs
theorem arh{I:H}{st:dM}(h:eH I st){n:Int}(M:1<=n)(U:n<=1000000):∃v c,iK st n=some (v,c)/\0<=v/\v<n/\eH I c:=by
 by_cases d:n<=256
 ·exact tf h M d
 unfold iK;obtain⟨v,s1,i,t,aj,e⟩:=JM h;obtain⟨w,s2,j,u,z,f⟩:=JM e;obtain⟨x,a,k,e1,A,g⟩:=JM f;obtain⟨y,B,l,C,D,b⟩:=JM g;have ay:=h.c;rw[eu (show¬n<=0 by omega),eu d];simp only[aU];rw[i,aP rfl];dsimp only;rw[show(st.1,s1.2.1,s1.2.2)=s1 by rw[ay,<-e.c],j,aP rfl];dsimp only;rw[show(st.1,s2.2.1,s2.2.2)=s2 by rw[ay,<-f.c],k,aP rfl];dsimp only;rw[show(st.1,a.2.1,a.2.2)=a by rw[ay,<-g.c],l,aP rfl];dsimp only;rw[bX (show n≠0 by omega)];have m:W (v*16777216)=v*16777216:=dJ (by omega) (by omega);have o:W (w*65536)=w*65536:=dJ (by omega) (by omega);have p:W (x*256)=x*256:=dJ (by omega) (by omega);have q:W (v*16777216+w*65536)=v*16777216+w*65536:=dJ (by omega) (by omega);have r:W (v*16777216+w*65536+x*256)=v*16777216+w*65536+x*256:=dJ (by omega) (by omega);have s:W (v*16777216+w*65536+x*256+y)=v*16777216+w*65536+x*256+y:=dJ (by omega) (by omega);rw[m,o,p,q,r,s];refine⟨_,_,rfl,Int.tmod_nonneg _ (by omega),Int.tmod_lt_of_pos _ (by omega),ay,b.lo,b.bg,b.b3⟩
def bits:bw:=[([97]:H),([98,49]:H),([32]:H),([32]:H),([10]:H),([10]:H),([59]:H),([38]:H),([124]:H),([38,38]:H),([124,124]:H),([59,59]:H),([40]:H),([41]:H),([105,102,32]:H),([116,104,101,110,32]:H),([101,108,115,101,32]:H),([101,108,105,102,32]:H),([102,105]:H),([100,111,32]:H),([100,111,110,101]:H),([119,104,105,108,101,32]:H),([117,110,116,105,108,32]:H),([102,111,114,32]:H),([120,32]:H),([105,110,32]:H),([99,97,115,101,32]:H),([101,115,97,99]:H),([123,32]:H),([125]:H),([33,32]:H),([60]:H),([62]:H),([60,60,69]:H),([60,60,45,69]:H),([69,10]:H),([9,69,10]:H),([50,62]:H),([62,38,49]:H),([39]:H),([39,113,39]:H),([34]:H),([34,113,34]:H),([92]:H),([92,10]:H),([36]:H),([36,40]:H),([36,40,40]:H),([49,43,40,50,41]:H),([41,41]:H),([36,123]:H),([125]:H),([96]:H),([96,99,96]:H),([35,114]:H),([9]:H),([102,40,41,32]:H),([195,169]:H)]
theorem ac6:∀p∈bits,p.length<=6:=by decide
def vz(n:Nat)(x:H):Prop:=∃ar:bw,ar.length<=n/\(∀p∈ar,p∈bits)/\x=ar.flatten
theorem vz.len{n:Nat}{x:H}(h:vz n x):x.length<=6*n:=by
 obtain⟨ar,M,U,rfl⟩:=h
 have:∀ar:bw,(∀p∈ar,p∈bits)->ar.flatten.length<=6*ar.length:=by
  intro ar;induction ar with
  |nil=>intro _;simp
  |cons p t a=>intro h;have M:=ac6 p (h p (by simp));have U:=a λq b=>h q (by simp[b]);simp only[List.flatten_cons,qk,nn];omega
 have:=this ar U;omega
theorem ac7(x:dM)(ys:bw)(j:H×Int×Int->Option (H×dM))(k:H×Int×Int×Int->Option (H×dM))(s:H)(c a b:Int):IF x ys j k (s,c,a,b)=bif(decide (0<c)) then
 (au (iK (x.1,a,b) (ys.length:Int)) λv=>(a2 (0<=v.1/\v.1<(ys.length:Int))<|(a2 (((s.length+(at' ys v.1).length:Nat):Int)<=9223372036854775807)<|k ((s++(at' ys v.1)),(W (c-1)),v.2.2.1,v.2.2.2)))) else j (s,a,b):=rfl
theorem ari{I:H}{x:dM}(g:x.1=I){j:H×Int×Int->Option (H×dM)}:∀(bz c:Nat)(s:H)(st:dM),c<bz->c<=12->s.length+6*c<=900000->eH I st->
  ∃y a,fixF (IF x bits j) bz (s,(c:Int),st.2.1,st.2.2)=j (s++y,a.2.1,a.2.2)/\vz c y/\eH I a:=by
 intro bz;induction bz with
 |zero=>intro c s st h;omega
 |succ bz b=>
  intro c s st ay z Y h;rw[fm];generalize fixF (IF x bits j) bz=k at b⊢;cases c with
  |zero=>rw[ac7];refine⟨[],st,?_,⟨[],by simp,by simp,rfl⟩,h⟩;rw[eu (show¬(0:Int)<((0:Nat):Int) by decide),aU,k8]
  |succ c=>
   have d:(bits.length:Int)=58:=by decide
   obtain⟨v,i,m,e,f,o⟩:=tf h (n:=(bits.length:Int)) (by rw[d];decide) (by rw[d];decide);have az:=at_mem (l:=bits) e f;have A:=ac6 _ az;rw[ac7,decide_eq_true (show(0:Int)<((c+1:Nat):Int) by omega),aL,g,h.st,m,aP rfl];dsimp only;have q:W (((c+1:Nat):Int)-1)=(c:Int):=by rw[dJ (by omega) (by omega)];omega
   rw[bX ⟨e,f⟩,bX (q9 _ _ (by omega) (by omega)),q];obtain⟨y,a,r,⟨ar,B,t,u⟩,w⟩:=b c (s++at' bits v) i (by omega) (by omega) (by simp only[qk];omega) o;refine⟨at' bits v++y,a,by rw[r,rb],⟨at' bits v::ar,by simp;omega,λp h=>?_,by rw[u];rfl⟩,w⟩;rcases kM.1 h with rfl|h
   ·exact az
   ·exact t p h
theorem arj(x:dM)(n:Int):xC x n=au (iK x (W (n+1))) λz=>fixF (IF x bits λq=>some (q.1,(x.1,q.2.1,q.2.2))) bC ([],z.1,z.2.2.1,z.2.2.2):=rfl
theorem Ot{I:H}{st:dM}(h:eH I st){n:Nat}(av:n<=12):∃y a,xC st (n:Int)=some (y,a)/\vz n y/\eH I a:=by
 have d:W ((n:Int)+1)=((n+1:Nat):Int):=by rw[dJ (by omega) (by omega)];omega
 obtain⟨v,e,f,m,o,g⟩:=tf h (n:=((n+1:Nat):Int)) (by omega) (by omega)
 obtain⟨c,rfl⟩:∃c:Nat,v=(c:Int):=⟨v.toNat,by omega⟩
 rw[arj,d,f,aP rfl];obtain⟨y,a,i,⟨ar,p,k,l⟩,b⟩:=ari h.c (j:=λq=>some (q.1,(st.1,q.2.1,q.2.2))) bC c [] e (by rw[gF];omega) (by omega) (by simp;omega) g;exact⟨y,a,by rw[i,re,h.c,b.st],⟨ar,by omega,k,l⟩,b⟩
def uw:H:=[92,10]
def w1:H:=[99,97,116,32,60,60,45,39,69,32,70,39,32,60,60,92,71,10,120,10,9,69,32,70,10,121,10,71,10]
def ti:bw:=[[],([32,38,38,32]:H),([32,124,32]:H),([59,32]:H)]
def ux:H:=[99,97,116,32,60,60,69]
def vA:H:=[10,120,10,69,10]
noncomputable def Ou(x:dM)(z:H×Int×Int):Option (H×dM):=
 au (iK (x.1,z.2.1,z.2.2) 12) λv=>bif decide (v.1=0) then(a2 (((z.1.length+uw.length:Nat):Int)<=9223372036854775807)<|some (z.1++uw,(x.1,v.2.2.1,v.2.2.2))) else some (z.1,(x.1,v.2.2.1,v.2.2.2))
noncomputable def Ov(x:dM)(y:Int)(z:H×Int×Int):Option (H×dM):=
 bif decide (y=10) then au (xC (x.1,z.2.1,z.2.2) 2) λv=>(a2 (((z.1.length+v.1.length:Nat):Int)<=9223372036854775807)<|Ou x (z.1++v.1,v.2.2.1,v.2.2.2)) else Ou x z
noncomputable def Ow(x:dM)(y:Int)(z:H×Int×Int):Option (H×dM):=
 bif decide (y=9) then au (iK (x.1,z.2.1,z.2.2) (W ((z.1.length:Int)+1))) λu=>
 (a2 (0<=(0:Int)/\(0:Int)<=u.1/\u.1<=(z.1.length:Int))<|au (xC (x.1,u.2.2.1,u.2.2.2) 1) λv=>(a2 ((((b1 z.1 0 u.1).length+v.1.length:Nat):Int)<=9223372036854775807)<|(a2 (0<=u.1/\u.1<=(z.1.length:Int)/\(z.1.length:Int)<=(z.1.length:Int))<|(a2 (((((b1 z.1 0 u.1)++v.1).length+(b1 z.1 u.1 (z.1.length:Int)).length:Nat):Int)<=9223372036854775807)<|Ov x y ((((b1 z.1 0 u.1)++v.1)++(b1 z.1 u.1 (z.1.length:Int))),v.2.2.1,v.2.2.2))))) else Ov x y z
noncomputable def Ox(x:dM)(y:Int)(z:H×Int×Int):Option (H×dM):=
 bif(bif(bif(decide (3<y)) then(decide (y<9)) else false) then(decide (0<(z.1.length:Int))) else false) then
 au (iK (x.1,z.2.1,z.2.2) (W ((z.1.length:Int)+1))) λu=>
 (a2 (0<=(0:Int)/\(0:Int)<=u.1/\u.1<=(z.1.length:Int))<|Ow x y ((b1 z.1 0 u.1),u.2.2.1,u.2.2.2)) else Ow x y z
noncomputable def JX(x:dM)(y:Int)(z:H×Int×Int):Option (H×dM):=
 bif decide (y=3) then(a2 (((w1.length+z.1.length:Nat):Int)<=9223372036854775807)<|Ox x y (w1++z.1,z.2.1,z.2.2)) else Ox x y z
theorem ark(x:dM):IG x=au (iK x 12) λu=>bif decide (u.1=0) then au (xC (x.1,u.2.2.1,u.2.2.2) 12) λv=>some (v.1,(x.1,v.2.2.1,v.2.2.2)) else
 au (sY.hZ (x.1,u.2.2.1,u.2.2.2) 3 []) λv=>bif decide (u.1<3) then au (iK (x.1,v.2.2.1,v.2.2.2) 4) λw=>
  (a2 (0<=w.1/\w.1<(ti.length:Int))<|(a2 (((ux.length+(at' ti w.1).length:Nat):Int)<=9223372036854775807)<|(a2 ((((ux++(at' ti w.1)).length+v.1.length:Nat):Int)<=9223372036854775807)<|(a2 (((((ux++(at' ti w.1))++v.1).length+vA.length:Nat):Int)<=9223372036854775807)<|JX x u.1 (((ux++(at' ti w.1))++v.1)++vA,w.2.2.1,w.2.2.2))))) else JX x u.1 (v.1,v.2.2.1,v.2.2.2):=rfl
def JY(T:H):Prop:=vz 12 T\/∃t o,gP 3 t/\t.length<=460000/\(o=[]\/o=uw)/\((∃s∈ti,T=ux++s++t++vA++o)\/T=w1++t++o\/∃a C B P m,t=a++C/\(B=[]/\m=2\/B=C/\m=1)/\vz m P/\T=a++P++B++o)
theorem ac8{I:H}{x st:dM}(b:x.1=I)(h:eH I st){s:H}(Y:s.length<=900000):∃o c,Ou x (s,st.2.1,st.2.2)=some (s++o,c)/\(o=[]\/o=uw):=by
 obtain⟨v,e,d,f,g,i⟩:=tf h (n:=12) (by omega) (by omega);unfold Ou;dsimp only;rw[b,h.st,d,aP rfl];dsimp only;by_cases a:v=0
 ·rw[decide_eq_true a,aL,bX (q9 s uw (by omega) (by decide))];exact⟨_,_,rfl,.inr rfl⟩
 ·rw[eu a,aU];exact⟨[],_,by rw[k8],.inl rfl⟩
theorem ac9{I:H}{x st:dM}(b:x.1=I)(h:eH I st){s:H}(Y:s.length<=800000){y:Int}:∃P o a,Ov x y (s,st.2.1,st.2.2)=some (s++P++o,a)/\(o=[]\/o=uw)/\(P=[]\/y=10/\vz 2 P):=by
 unfold Ov;by_cases c:y=10
 ·obtain⟨P,j,g,f,i⟩:=Ot h (n:=2) (by omega);have ax:=f.len;rw[decide_eq_true c,aL];dsimp only;rw[b,h.st,show(2:Int)=((2:Nat):Int) from rfl,g,aP rfl];dsimp only;rw[bX (q9 s P (by omega) (by omega))];obtain⟨o,a,d,e⟩:=ac8 b i (s:=s++P) (by simp only[qk];omega);exact⟨P,o,a,d,e,.inr ⟨c,f⟩⟩
 ·rw[eu c,aU];obtain⟨o,a,d,e⟩:=ac8 b h (s:=s) (by omega);exact⟨[],o,a,by rw[k8];exact d,e,.inl rfl⟩
theorem ac_(s:H)(v:Int):b1 s 0 v=s.take v.toNat:=by unfold b1;simp
theorem arl(s:H){v:Int}(h:0<=v):b1 s v (s.length:Int)=s.drop v.toNat:=by unfold b1;rw[GM];simp
theorem ada{I:H}{st:dM}(h:eH I st){s:H}(Y:s.length<=700000):∃v a,iK st (W ((s.length:Int)+1))=some (v,a)/\(0<=v/\v<=(s.length:Int))/\eH I a:=by have b:W ((s.length:Int)+1)=(s.length:Int)+1:=dJ (by omega) (by omega);obtain⟨v,a,c,d,f,e⟩:=arh h (n:=(s.length:Int)+1) (by omega) (by omega);exact⟨v,a,by rw[b];exact c,⟨d,by omega⟩,e⟩
theorem adb{I:H}{x st:dM}(e:x.1=I)(h:eH I st){s:H}(Y:s.length<=700000){y:Int}:∃j C B P m o a,Ow x y (s,st.2.1,st.2.2)=some (j++P++B++o,a)/\s=j++C/\(y=9\/C=[])/\(B=[]/\m=2/\C=[]\/B=C/\m=1)/\vz m P/\(o=[]\/o=uw)/\(y=9\/y=10\/P=[]):=by
 unfold Ow;by_cases c:y=9
 ·obtain⟨v,w,q,b,k⟩:=ada h Y;obtain⟨P,z,r,p,t⟩:=Ot k (n:=1) (by omega);have ax:=p.len;rw[decide_eq_true c,aL];dsimp only;rw[e,h.st,q,aP rfl];dsimp only;rw[bX ⟨sx 0,b.1,b.2⟩,k.st,show(1:Int)=((1:Nat):Int) from rfl,r,aP rfl];dsimp only;rw[ac_,arl s b.1];have A:(s.take v.toNat).length<=s.length:=by rw[OG];exact Nat.min_le_right _ _
  have D:(s.drop v.toNat).length<=s.length:=by simp
  rw[bX (q9 _ P (by omega) (by omega)),bX ⟨b.1,b.2,sx _⟩,bX (q9 _ _ (by simp only[qk];omega) (by omega))];obtain⟨Q,o,a,f,g,d⟩:=ac9 e t (s:=s.take v.toNat++P++s.drop v.toNat) (by simp only[qk];have:=OG (i:=v.toNat) (l:=s);have:=DR (i:=v.toNat) (l:=s);omega) (y:=y);have u:Q=[]:=by
   rcases d with h|⟨h,_⟩
   ·exact h
   ·omega
  subst u;refine⟨s.take v.toNat,s.drop v.toNat,s.drop v.toNat,P,1,o,a,by rw[f,k8],(Vr _ _).symm,.inl c,.inr ⟨rfl,rfl⟩,p,g,.inl c⟩
 ·rw[eu c,aU];obtain⟨P,o,a,f,g,d⟩:=ac9 e h (s:=s) (by omega) (y:=y);refine⟨s,[],[],P,2,o,a,by rw[f];simp,by simp,.inr rfl,.inl ⟨rfl,rfl,rfl⟩,?_,g,?_⟩
  ·rcases d with rfl|⟨_,h⟩
   ·exact⟨[],by simp,by simp,rfl⟩
   ·exact h
  ·rcases d with h|⟨h,_⟩
   ·exact .inr (.inr h)
   ·exact .inr (.inl h)
theorem ade{I:H}{x st:dM}(f:x.1=I)(h:eH I st){s:H}(Y:s.length<=700000){y:Int}:∃a C B P m o b,Ox x y (s,st.2.1,st.2.2)=some (a++P++B++o,b)/\s=a++C/\(B=[]/\m=2\/B=C/\m=1)/\vz m P/\(o=[]\/o=uw)/\(y<=3->C=[]/\P=[]):=by
 unfold Ox;dsimp only;by_cases ay:(3<y/\y<9)/\(0:Int)<(s.length:Int)
 ·obtain⟨v,w,p,l,q⟩:=ada h Y;rw[decide_eq_true ay.1.1,decide_eq_true ay.1.2,decide_eq_true ay.2];simp only[aL];rw[f,h.st,p,aP rfl];dsimp only;rw[bX ⟨sx 0,l.1,l.2⟩,ac_];obtain⟨a,C,B,P,m,o,b,g,d,i,e,j,k,c⟩:=adb f q (s:=s.take v.toNat) (by simp;omega) (y:=y);have n:C=[]:=by
   rcases i with h|h
   ·omega
   ·exact h
  have r:B=[]:=by
   rcases e with h|h
   ·exact h.1
   ·rw[h.1,n]
  have hm:m<=2:=by rcases e with h|h<;>omega
  rw[n,k8] at d;obtain⟨ar,z,t,u⟩:=j;refine⟨a,s.drop v.toNat,B,P,2,o,b,g,?_,.inl ⟨r,rfl⟩,⟨ar,by omega,t,u⟩,k,λh=>by omega⟩;rw[<-d];exact(Vr _ _).symm
 ·have:(bif(bif(decide (3<y)) then(decide (y<9)) else false) then(decide ((0:Int)<(s.length:Int))) else false)=false:=by
   cases h:(bif(bif(decide (3<y)) then(decide (y<9)) else false) then(decide ((0:Int)<(s.length:Int))) else false) with
   |false=>rfl
   |true=>exact absurd (by simpa using h) ay
  rw[this,aU];obtain⟨a,C,B,P,m,o,b,g,d,i,e,j,k,c⟩:=adb f h (s:=s) Y (y:=y);refine⟨a,C,B,P,m,o,b,g,d,?_,j,k,λh=>⟨?_,?_⟩⟩
  ·rcases e with h|h
   ·exact .inl ⟨h.1,h.2.1⟩
   ·exact .inr h
  ·rcases i with h|h
   ·omega
   ·exact h
  ·rcases c with h|h|h
   ·omega
   ·omega
   ·exact h
theorem arn{I:H}{st:dM}(h:eH I st):∃T a,IG st=some (T,a)/\JY T:=by
 obtain⟨y,O,J,Q,R,k⟩:=tf h (n:=12) (by omega) (by omega);have ay:=h.c;rw[ark,J,aP rfl];dsimp only;by_cases D:y=0
 ·obtain⟨P,K,p,e,L⟩:=Ot k (n:=12) (by omega);rw[decide_eq_true D,aL,ay,k.st,show(12:Int)=((12:Nat):Int) from rfl,p,aP rfl];exact⟨_,_,rfl,.inl e⟩
 rw[eu D,aU,ay,k.st];obtain⟨t,K,p,e,L,q⟩:=aql (sfx:=[]) (by decide) k;rw[k8] at p;have ax:pE 3<=460000:=(q8 (d:=3) (by decide)).2.1;rw[p,aP rfl];dsimp only
 have rest:∀{s:H}{f:dM},eH I f->s.length<=700000->y≠3->∃c C B P m o a,JX st y (s,f.2.1,f.2.2)=some (c++P++B++o,a)/\s=c++C/\(B=[]/\m=2\/B=C/\m=1)/\vz m P/\(o=[]\/o=uw)/\(y<=3->C=[]/\P=[]):=λ{s f} r Y u=>by unfold JX;rw[eu u,aU];exact ade ay r Y
 by_cases r:y<3
 ·obtain⟨v,f,M,E,F,x⟩:=tf q (n:=4) (by omega) (by omega);have G:=at_mem (l:=ti) E F;have S:=(by decide:∀s∈ti,s.length<=4) _ G;rw[decide_eq_true r,aL,q.st,M,aP rfl];dsimp only;have U:ux.length=7:=rfl;rw[bX ⟨E,F⟩,bX (q9 _ _ (by decide) (by omega)),bX (q9 _ _ (by simp only[qk];omega) (by omega)),bX (q9 _ _ (by simp only[qk];omega) (by decide))];have N:vA.length=5:=rfl;obtain⟨c,C,B,P,m,o,a,g,b,i,z,j,w⟩:=rest (s:=ux++at' ti v++t++vA) x (by simp only[qk];omega) (by omega);obtain⟨rfl,rfl⟩:=w (by omega);have A:B=[]:=by rcases i with h|h<;>exact h.1
  subst A;rw[k8] at b;refine⟨_,a,g,.inr ⟨t,o,e,by omega,j,.inl ⟨_,G,?_⟩⟩⟩;rw[k8,k8,<-b]
 rw[eu r,aU];by_cases u:y=3
 ·unfold JX;have V:w1.length=29:=rfl;rw[decide_eq_true u,aL];dsimp only;rw[bX (q9 _ _ (by decide) (by omega))];obtain⟨c,C,B,P,m,o,a,g,b,i,z,j,w⟩:=ade ay q (s:=w1++t) (by simp only[qk];omega) (y:=y);obtain⟨rfl,rfl⟩:=w (by omega);have A:B=[]:=by rcases i with h|h<;>exact h.1
  subst A;rw[k8] at b;refine⟨_,a,g,.inr ⟨t,o,e,by omega,j,.inr (.inl ?_)⟩⟩;rw[k8,k8,<-b]
 ·obtain⟨c,C,B,P,m,o,a,g,b,i,z,j,w⟩:=rest (s:=t) q (by omega) u;exact⟨_,a,g,.inr ⟨t,o,e,by omega,j,.inr (.inr ⟨c,C,B,P,m,b,i,z,rfl⟩)⟩⟩
theorem arp(I:H)(a:I.length<=1048576):∃T,IH I=some T/\JY T:=by obtain⟨st,b,M⟩:=ab3 I a;obtain⟨T,e,c,d⟩:=arn M;unfold IH;rw[b,aP rfl,c];exact⟨T,rfl,d⟩
end Go.Eng
namespace Go.Eng
theorem adg{b:UInt8}{r d a:H}(h:b::r<:+d++a)(hA:b∉d):b::r<:+a:=by
 induction d with
 |nil=>exact h
 |cons c d e=>
  rcases List.suffix_cons_iff.1 h with h|h
  ·cases h;simp at hA
  ·exact e h (λf=>hA (by simp[f]))
theorem Vh(d:Nat):(∀w,fY d w->(60:UInt8)∉w)/\∀t,gP d t->(60:UInt8)∉t:=by
 have aw:∀w∈nj,(60:UInt8)∉w:=by decide
 have Y:∀{W:H->Prop},(∀w,W w->(60:UInt8)∉w)->∀{c:H},qi W (fY 0) c->(60:UInt8)∉c:=by
  rintro W hW c ⟨x,ws,r,M,U,rfl,k⟩;have m:=(by decide:∀x∈q7,(60:UInt8)∉x) x M;have e:(60:UInt8)∉jb ws:=by
   intro h;simp only[jb,List.mem_flatMap,kM] at h;obtain⟨w,b,h|h⟩:=h
   ·exact absurd h (by decide)
   ·exact hW w (U w b) h
  have n:(60:UInt8)∉r:=by
   rcases k with rfl|rfl|⟨w,b,rfl⟩
   ·simp
   ·decide
   ·have:=aw w b;simp[this]
  simp[m,e,n]
 have ax:∀{C:H->Prop},(∀c,C c->(60:UInt8)∉c)->∀{t:H},rY C t->(60:UInt8)∉t:=by
  rintro C i t ⟨c,l,M,U,rfl⟩;have e:(60:UInt8)∉cR l:=by
   intro h;simp only[cR,List.mem_flatMap,tl] at h;obtain⟨p,az,h|h⟩:=h
   ·exact(by decide:∀j∈jl,(60:UInt8)∉j) _ (U p az).1 h
   ·exact i _ (U p az).2 h
  simp[i c M,e]
 induction d with
 |zero=>exact⟨aw,λt f=>ax (λc ay=>Y aw ay) f⟩
 |succ d o=>
  obtain⟨g,a⟩:=o
  have b:∀w,fY (d+1) w->(60:UInt8)∉w:=by
   intro w h;rcases h with h|⟨t,M,rfl|rfl⟩|⟨v,M,rfl⟩
   ·exact aw w h
   ·simp[a t M]
   ·simp[a t M]
   ·simp[g v M]
  refine⟨b,λt f=>ax (λc ay=>?_) f⟩;rcases ay with ay|ay
  ·exact Y b ay
  ·rcases ay with⟨t,M,rfl⟩|⟨t,M,rfl⟩|⟨t,u,M,U,rfl⟩|⟨t,u,M,U,rfl⟩|⟨t,u,M,U,rfl⟩|⟨w,u,M,U,rfl⟩|rfl|⟨w,u,M,U,rfl⟩|⟨t,M,rfl⟩
   ·simp[a t M]
   ·simp[a t M]
   ·simp[a t M,a u U]
   ·simp[a t M,a u U]
   ·simp[a t M,a u U]
   ·simp[g w M,a u U]
   ·decide
   ·simp[g w M,a u U]
   ·simp[a t M]
theorem adi:∀(n:Nat)(d:H)(tabs:Bool)(r q:H),r.length<=n->kZ d tabs r=some q->∃p s,r=p++(d++s)/\(s=[]/\q=[]\/s=10::q):=by
 intro n;induction n with
 |zero=>intro d tabs r q av h;have:=nQ.1 (Nat.le_zero.1 av);subst this;simp[kZ] at h
 |succ n c=>
  intro d tabs r q av h;cases r with
  |nil=>simp[kZ] at h
  |cons b t=>
   rw[C0] at h;have Y:=acZ (b::t);have a:=ME (b::t) (by simp);generalize (b::t:H)=r at*;by_cases ax:(if tabs then(hS r).1.dropWhile (· ==9) else(hS r).1)=d
   ·rw[bh ax] at h;cases h
    have az:∃p,(hS r).1=p++d:=by
     cases tabs with
     |true=>exact⟨(hS r).1.takeWhile (· ==9),by rw[<-ax];simp[OI]⟩
     |false=>exact⟨[],by simpa using ax⟩
    obtain⟨p,az⟩:=az;rcases Y with⟨M,U⟩|M
    ·exact⟨p,[],by rw[k8,<-az];exact M,.inl ⟨rfl,U⟩⟩
    ·exact⟨p,10::(hS r).2,by rw[<-rb,<-az];exact M,.inr rfl⟩
   ·rw[aO ax] at h;obtain⟨p,s,M,U⟩:=c d tabs _ q (by omega) h;rcases Y with⟨aq,e⟩|aq
    ·refine⟨(hS r).1++p,s,?_,U⟩;rw[e] at M;rw[rb,<-M,k8];exact aq
    ·refine⟨(hS r).1++10::p,s,?_,U⟩;rw[M] at aq;exact aq.trans (by simp)
theorem adj:∀(F:ai)(d:H)(tabs:Bool)(r q:H),lh (F++[(d,tabs)]) r= .inl q->∃m,lh F r= .inl m/\kZ d tabs m=some q
 |[],d,tabs,r,q,h=>by
  refine⟨r,rfl,?_⟩;simp only[re,lh] at h;cases a:kZ d tabs r with
  |none=>rw[a] at h;cases h
  |some x=>rw[a] at h;simpa[lh] using h
 |e::F,d,tabs,r,q,h=>by
  simp only[ib,lh] at h⊢;cases a:kZ e.1 e.2 r with
  |none=>rw[a] at h;cases h
  |some x=>rw[a] at h;exact adj F d tabs x q h
def DN(j:Bool)(x:H):Prop:=(∃y,(x=69::y\/x=45::69::y)/\∀u tt d tabs q,10::u<:+y->tt<:+u->(10:UInt8)∉d->kZ (69::d) tabs tt=some q->q<:+m2 j)\/x.head?=some 60\/x=[]\/x=[10]\/x=[92,10]
theorem DL.of{j:Bool}{T:H}(h:∀x,60::60::x<:+T->DN j x):DL j T:=by
 intro r F o tabs r' N Z O a s aD
 have C:∃x,r=60::60::x/\(tabs=true->∃z,x=45::z)/\(tabs=false->x.head?≠some 45):=by
  rcases s with⟨rfl,rfl⟩|⟨rfl,rfl⟩
  ·have:[60,60]<+:r:=by
    have U:an r= .op [60,60]:=by
     cases r with
     |nil=>simp[bu,kG] at a
     |cons b t=>rw[mK (by simp)];exact a
    exact(h4 U).2.1
   obtain⟨x,rfl⟩:=this;refine⟨x,rfl,by simp,λ_ hh=>?_⟩;cases x with
   |nil=>cases hh
   |cons c z=>cases hh;simp[bu,kG,w3,List.isPrefixOf] at a
  ·have:[60,60,45]<+:r:=by
    have U:an r= .op [60,60,45]:=by
     cases r with
     |nil=>simp[bu,kG] at a
     |cons b t=>rw[mK (by simp)];exact a
    exact(h4 U).2.1
   obtain⟨x,rfl⟩:=this;exact⟨45::x,rfl,λ_=>⟨x,rfl⟩,by simp⟩
 obtain⟨x,rfl,M,U⟩:=C;have D:=h x Z;have E:(60::60::x).drop o.length=bif tabs then x.drop 1 else x:=by
  rcases s with⟨rfl,rfl⟩|⟨rfl,rfl⟩
  ·rfl
  ·obtain⟨z,rfl⟩:=M rfl;rfl
 rw[E] at aD;rcases D with⟨y,bm,G⟩|hh|rfl|rfl|rfl
 ·have f:(bif tabs then x.drop 1 else x)=69::y:=by
   cases tabs with
   |true=>obtain⟨z,rfl⟩:=M rfl;rcases bm with bm|bm<;>cases bm;rfl
   |false=>
    rcases bm with rfl|rfl
    ·rfl
    ·exact absurd rfl (U rfl)
  rw[f] at aD;have s1:bn (69::y)=some (69::y):=jX (by decide) (by decide) (by decide)
  have s2:∃w p,an (69::y)= .word w p:=by rw[xT,aO (by decide),mV (by decide),aO (by simp)];exact⟨_,_,rfl⟩
  obtain⟨w,p,s2⟩:=s2;have I:dr (69::y)=(dr y).map λq=>(69::q.1,q.2):=by rw[zg,aO (by rw[IY (by decide)];simp),aO (by decide),aO (by decide),aO (by decide),aO (by decide)]
  unfold gS at aD;rw[s1] at aD;simp only[s2,I] at aD;cases g:dr y with
  |none=>rw[g] at aD;cases aD
  |some v=>
   obtain⟨u,q,J⟩:=v;rw[g] at aD;simp only[BB] at aD;by_cases e1:(69::u).contains 10=true
   ·rw[bh e1] at aD;cases aD
   rw[aO e1,aO (by simp)] at aD;by_cases A:J≠[]
   ·rw[bh A] at aD;cases aD
   rw[aO A] at aD;by_cases B:q=[]
   ·rw[bh B] at aD;cases aD
   rw[aO B] at aD;cases aD;have i:r'<:+y:=MJ _ _ _ (cS _) g;intro tt k d l;right;obtain⟨m,K,L⟩:=adj _ _ _ _ _ l;have:=G tt m u tabs k (d.trans i) (ve F tt [] m K).1 (λh=>e1 (by simp[h])) L;exact j5.h.2 this
 ·exfalso;cases x with
  |nil=>cases hh
  |cons c z=>
   cases hh;have d:tabs=false:=by
    cases tabs with
    |false=>rfl
    |true=>obtain⟨z,n⟩:=M rfl;cases n
   subst d
   have s2:∃o,an (60::z)= .op o:=by
    rw[xT,aO (by decide)];by_cases h0:bu (60::z)=[]
    ·have:bu (60::z)≠[]:=by
      have hf:(kG.find? (λo=>o.isPrefixOf (60::z))).isSome=true:=by rw[List.find?_isSome];exact⟨[60],by decide,by simp[List.isPrefixOf]⟩
      obtain⟨o,a⟩:=Kc.1 hf;unfold bu;rw[a];have:=List.mem_of_find?_eq_some a;intro e;simp at e;subst e;exact absurd this (by decide)
     exact absurd h0 this
    ·rw[bh h0];exact⟨_,rfl⟩
   obtain⟨P,s2⟩:=s2;have s1:bn (60::z)=some (60::z):=jX (by decide) (by decide) (by decide);unfold gS at aD;simp only[aU] at aD;rw[s1] at aD;simp only[s2] at aD;cases aD
 all_goals
  exfalso;have d:tabs=false:=by
   cases tabs with
   |false=>rfl
   |true=>obtain⟨z,n⟩:=M rfl;cases n
  subst d;unfold gS at aD;simp[bn,fL,an] at aD
theorem adk{j:Bool}{k:Nat}{T:H}(h:dB j k T)(aw:k<=23)(a:m2 j<:+T)(aD:DL j T):∀q,h3 true 30 T≠ .deep q:=by obtain⟨E,M,rfl,b,_⟩:=h.nd a aD (n:=30) (by omega);grind[Zd]
theorem arv{x a y b:H}(h:x++69::a=y++69::b)(g:(69:UInt8)∉y)(i:(69:UInt8)∉b):a=b:=by
 rcases List.append_eq_append_iff.1 h with⟨c,d,f⟩|⟨c,d,f⟩
 ·cases c with
  |nil=>grind
  |cons e c=>grind
 ·cases c with
  |nil=>grind
  |cons e c=>grind
theorem adl{t s o:H}{j:Bool}(b:gP 3 t)(Y:s∈ti)(e:o=m2 j):∀q,h3 true 30 (ux++s++t++vA++o)≠ .deep q:=by
 have he:ux++s++t++vA++o=[99,97,116,32]++(60::60::([69]++(s++(t++(10::([120,10,69,10]++o)))))):=by simp[ux,vA]
 rw[he];have g:wZ o=true:=by subst e;cases j<;>decide
 have M:dB j 0 (10::([120,10,69,10]++o)):=by have:=((dB.nil (j:=j)).const g).const (p:=[10,120,10,69,10]) (by decide);grind
 have U:=((GG 3 (by omega)).ls b (et.nl _) M).const ((by decide:∀s∈ti,wZ s=true) s Y);have i:=(U.const (p:=[69]) (by decide)).const (p:=[99,97,116,32,60,60]) (by decide);have k:(60:UInt8)∉[69]++(s++(t++(10::([120,10,69,10]++o)))):=by
  have l:=(by decide:∀s∈ti,(60:UInt8)∉s) s Y;have aj:=(Vh 3).2 t b;have a3:(60:UInt8)∉o:=by subst e;cases j<;>decide
  grind
 have a:(69:UInt8)∉s++(t++[10,120,10])/\(69:UInt8)∉10::o:=by
  have l:=(by decide:∀s∈ti,(69:UInt8)∉s) s Y;have aj:=((Ol 3).2 t b).1;have a3:(69:UInt8)∉o:=by subst e;cases j<;>decide
  grind
 generalize A:s++(t++(10::([120,10,69,10]++o)))=y at*;have f:y=(s++(t++[10,120,10]))++69::(10::o):=by simp_all
 refine adk (show dB j 0 ([99,97,116,32]++(60::60::([69]++y))) from i) (by omega) ?_ (DL.of λx m=> .inl ⟨y,.inl ?_,λu tt d tabs q hu n B r=>?_⟩)
 ·grind
 ·have:=adg m (by decide);rcases List.suffix_cons_iff.1 this with h|h
  ·grind
  ·rcases List.suffix_cons_iff.1 h with h|h
   ·cases h
   ·exact absurd (h.subset (by simp)) k
 ·obtain⟨p,s2,v,C⟩:=adi _ _ _ _ _ (cS _) r;obtain⟨w,z⟩:=n.trans ((dN 10 u).trans hu);rw[v,f] at z;have D:d++s2=10::o:=arv (x:=w++p) (y:=s++(t++[10,120,10])) (by grind) a.1 a.2;have E:d=[]:=by
   cases d with
   |nil=>rfl
   |cons c d=>grind
  grind
theorem DN.none{j:Bool}{x y:H}(a:x=69::y\/x=45::69::y)(h:∀u,10::u<:+y->(69:UInt8)∉u):DN j x:=by refine .inl ⟨y,a,λu tt d tabs q hu b e c=>?_⟩;obtain⟨p,s2,f,g⟩:=adi _ _ _ _ _ (cS _) c;exact absurd (b.subset (by grind)) (h u hu)
def Oy(w:H):Bool:=w==[]||w.head?==some 60||(match w with|69::y=> !y.dropLast.contains 10|45::69::y=> !y.dropLast.contains 10|_=>false)
def DO:H->Bool
 |60::60::w=>Oy w&&DO (60::w)
 |_::w=>DO w
 |[]=>true
theorem Vj{w:H}:∀{p:H},DO p=true->60::60::w<:+p->Oy w=true
 |[],_,h=>by grind
 |b::p,aw,h=>by
  rcases List.suffix_cons_iff.1 h with h|h
  ·cases h;simp_all[DO]
  ·refine Vj ?_ h;unfold DO at aw;grind
theorem arx{t f C B P o:H}{m:Nat}(g:gP 3 t)(hA:t=f++C)(D:B=[]/\m=2\/B=C/\m=1)(N:vz m P)(E:o=[]\/o=[10]\/o=[92,10]):∀q,h3 true 30 (f++(P++(B++o)))≠ .deep q:=by
 have O:wZ o=true:=by rcases E with rfl|rfl|rfl<;>decide
 have h0:dB false 0 o:=by have:=(dB.nil (j:=false)).const O;grind
 obtain⟨ar,Q,a,rfl⟩:=N
 have F:∃i,i+3*m<=13/\dB false i (B++o):=by
  rcases D with⟨rfl,rfl⟩|⟨rfl,rfl⟩
  ·grind
  ·obtain⟨i,M,U⟩:=(Oq 3 (by omega)).ls g t [] (by simp) 0 o h0;obtain⟨R,S,G⟩:=U.sfx (r:=B++o) (by grind);grind
 obtain⟨i,bg,F⟩:=F
 have az:∀ar:bw,(∀p∈ar,p∈bits)->∃k,k<=i+3*ar.length/\dB false k (ar.flatten++(B++o)):=by
  intro ar;induction ar with
  |nil=>grind
  |cons p ar n=>intro h;obtain⟨k,I,l⟩:=n λq Y=>h q (by grind);have J:=l.any p;have:=(by decide:∀p∈bits,mN p<=3) p (h p (by simp));grind
 obtain⟨k,I,l⟩:=az ar a;obtain⟨k',J,K⟩:=(Oq 3 (by omega)).ls g f C hA k _ l;refine adk K (by omega) n_ (DL.of λx d=>?_);have s:(60:UInt8)∉f/\(60:UInt8)∉B:=by have:=(Vh 3).2 t g;grind
 have e:(69:UInt8)∉B++o:=by have:=((Ol 3).2 t g).1;grind
 have v:(60:UInt8)∉B++o:=by grind
 have d:=adg d s.1
 have T:∃w,60::60::w<:+ar.flatten/\x=w++(B++o):=by
  generalize ar.flatten=P at d;clear az l K I J hA;induction P with
  |nil=>exact absurd (d.subset (by simp)) v
  |cons b P n=>
   rcases List.suffix_cons_iff.1 d with h|h
   ·cases P with
    |nil=>simp only[ib,re,DP] at h;have U:60::x=B++o:=h.2;grind
    |cons c P=>simp only[ib,DP] at h;obtain⟨rfl,rfl,rfl⟩:=h;simp
   ·obtain⟨w,M,U⟩:=n h;grind
 obtain⟨w,M,rfl⟩:=T;have aw:Oy w=true/\(m=1->w=[69]\/w=[45,69]):=by
  match ar,Q,a,M with
  |[],_,_,M=>grind
  |[p],_,a,M=>
   have:=(by decide:∀p∈bits,DO p=true/\(p=[60,60,69]\/p=[60,60,45,69]\/p.count 60<=1)) p (a p (by simp));simp only[List.flatten_cons,List.flatten_nil,k8] at M;refine⟨Vj this.1 M,λ_=>?_⟩;rcases this.2 with rfl|rfl|U
   ·simp_all[List.suffix_cons_iff]
   ·simp_all[List.suffix_cons_iff]
   grind
  |[p,L],U,a,M=>refine⟨?_,λh=>by grind⟩;have:=(by decide:∀p∈bits,∀q∈bits,DO (p++q)=true) p (a p (by simp)) L (a L (by simp));grind[Vj]
  |_::_::_::_,U,_,_=>grind
 obtain⟨aw,V⟩:=aw;rcases D with⟨rfl,hm⟩|⟨W,hm⟩
 ·simp only[re] at*
  have A:∀y,(!y.dropLast.contains 10)=true->∀u,10::u<:+y++o->(69:UInt8)∉u:=by
   intro y A u hu;have ax:u.length<=o.length:=by
    false_or_by_contra
    obtain⟨z,X⟩:=hu;have:(10:UInt8)∈y.dropLast:=by
     have U:z.length<y.dropLast.length:=by have:=mL List.length X;grind
     have S:y.dropLast[z.length]? =some 10:=by
      rw[List.getElem?_dropLast];have G:z.length<y.length-1:=by grind
      rw[bh G];have Z:(y++o)[z.length]? =some 10:=by grind
      grind
     grind
    grind
   have:u<:+o:=by
    rcases List.suffix_or_suffix_of_suffix ((dN 10 u).trans hu) (fR y o) with h|h
    ·exact h
    ·rw[h.eq_of_length_le ax];simp
   grind
  unfold Oy at aw;simp only[yf] at aw;rcases aw with(aw|aw)|aw
  ·have:w=[]:=by grind
   subst this;rcases E with rfl|rfl|rfl
   ·exact .inr (.inr (.inl rfl))
   ·exact .inr (.inr (.inr (.inl rfl)))
   ·exact .inr (.inr (.inr (.inr rfl)))
  ·cases w with
   |nil=>grind
   |cons c w=>exact .inr (.inl (by grind))
  ·split at aw
   ·exact DN.none (.inl rfl) (A _ aw)
   ·exact DN.none (.inr rfl) (A _ aw)
   grind
 ·rcases V hm with rfl|rfl
  ·exact DN.none (.inl rfl) λu hu h=>e (hu.subset (by simp[h]))
  ·exact DN.none (.inr rfl) λu hu h=>e (hu.subset (by simp[h]))
def Bt:H->Bool
 |36::_=>false
 |r=>wY r
def tj:H->Nat
 |[]=>0
 |b::t=>(if Bt (b::t) then 1 else 0)+tj t
def Oz:H->Nat
 |[]=>0
 |b::t=>(if Bt (b::t)||(t==[]&&([105,119,117,102,99]:H).contains b)||b::t==[99,97] then 1 else 0)+Oz t
theorem arA{b:UInt8}{t v:H}(M:Bt (b::t)=false)(U:(t==[]&&([105,119,117,102,99]:H).contains b)=false)(c:(b::t==[99,97])=false):Bt (b::t++v)=false:=by
 by_cases a:b=36
 ·subst a;rfl
 ·have e:∀r:H,Bt (b::r)=wY (b::r):=λr=>by simp_all[Bt]
  grind[Vf]
theorem ado(v:H):∀p:H,tj (p++v)<=Oz p+tj v
 |[]=>by simp
 |b::t=>by
  have a:=ado v t;rw[ib,tj,Oz];split
  ·rename_i h;by_cases ay:(Bt (b::t)||(t==[]&&([105,119,117,102,99]:H).contains b)||b::t==[99,97])=true
   ·grind
   ·simp only[yf,BC,Bool.not_eq_true] at ay;grind[arA]
  omega
theorem J1:∀{r r':H},r'<:+r->tj r'<=tj r
 |[],r',h=>by grind
 |b::t,r',h=>by
  rcases List.suffix_cons_iff.1 h with rfl|h
  ·omega
  ·have:=J1 h;grind[tj]
theorem adp{P o:H}(d:vz 12 P)(c:o=[]\/o=[10]):∀q,h3 true 30 (P++o)≠ .deep q:=by
 obtain⟨ar,k,e,rfl⟩:=d
 have av:∀ar:bw,(∀p∈ar,p∈bits)->tj (ar.flatten++o)<=2*ar.length:=by
  intro ar;induction ar with
  |nil=>intro _;rcases c with rfl|rfl<;>decide
  |cons p ar l=>intro h;have M:=(by decide:∀p∈bits,Oz p<=2) p (h p (by simp));grind[ado]
 have m:=av ar e
 have a:∀{u v:H},Bt v=true->(∃b,v=b::u)->∀i,tj (u.drop i)+1<=tj v:=λ{u v} c f i=>by obtain⟨b,rfl⟩:=f;have:=J1 (lM i u);rw[tj,bh c];omega
 have ok:(k4.mk (ar.flatten++o) tj 1 λ_ _=>True).mO:=by
  refine⟨cS _,λ_ _ h _=>J1 h,λ_ _ _ _ _ _=>trivial,λ_ _=>trivial,λ_ _ _ _ _ _ _ _ _ _ _=>trivial,λu _ _=> .inl ?_,λu _=> .inl ?_,λr _ Y ay=> .inl ?_,λu _=> .inl (a rfl ⟨_,rfl⟩ 0)⟩
  ·exact kN (a (v:=40::u) rfl ⟨_,rfl⟩ 0) (J1 (dN _ _))
  ·exact kN (a (v:=123::u) rfl ⟨_,rfl⟩ 0) (J1 (dN _ _))
  ·show tj _+1<=tj r;rcases GD ay with⟨u,rfl⟩|⟨w,g,j,u,rfl⟩
   ·rw[wA];exact a rfl ⟨_,rfl⟩ 0
   ·rw[j];rcases DM g with rfl|rfl|rfl|rfl|rfl|rfl
    ·exact a (u:=[102]++u) (v:=105::([102]++u)) rfl ⟨_,rfl⟩ 1
    ·exact a (u:=[104,105,108,101]++u) (v:=119::([104,105,108,101]++u)) rfl ⟨_,rfl⟩ 4
    ·exact a (u:=[110,116,105,108]++u) (v:=117::([110,116,105,108]++u)) rfl ⟨_,rfl⟩ 4
    ·exact a (u:=[111,114]++u) (v:=102::([111,114]++u)) rfl ⟨_,rfl⟩ 2
    ·exact a (u:=[97,115,101]++u) (v:=99::([97,115,101]++u)) rfl ⟨_,rfl⟩ 3
    ·exact a (u:=u) (v:=123::u) rfl ⟨_,rfl⟩ 0
 exact Zd ok (n:=30) (by grind)
def uy:H:=[120,10,9,69,32,70,10,121,10,71,10]
def ye:ai:=[([69,32,70],true),([71],false)]
theorem adq{l x:H}(h:(10:UInt8)∉l):hS (l++10::x)=(l,x):=by
 induction l with
 |nil=>rfl
 |cons b l a=>simp only[kM,BC] at h;rw[ib,hS,aO (λe=>h.1 e.symm),a h.2]
theorem adr{d l x:H}{tabs:Bool}(ax:l≠[])(h:(10:UInt8)∉l)(aD:(if tabs then l.dropWhile (· ==9) else l)=d):kZ d tabs (l++10::x)=some x:=by obtain⟨b,t,rfl⟩:=List.exists_cons_of_ne_nil ax;have:=adq (x:=x) h;simp_all[C0]
theorem ads{d l x:H}{tabs:Bool}(ax:l≠[])(h:(10:UInt8)∉l)(aD:(if tabs then l.dropWhile (· ==9) else l)≠d):kZ d tabs (l++10::x)=kZ d tabs x:=by obtain⟨b,t,rfl⟩:=List.exists_cons_of_ne_nil ax;have:=adq (x:=x) h;simp_all[C0]
theorem arB(s:H):lh ye (uy++s)= .inl s:=by
 have M:kZ [69,32,70] true (uy++s)=some ([121,10,71,10]++s):=by show kZ _ _ ([120]++10::([9,69,32,70]++10::([121,10,71,10]++s)))=_;rw[ads (by simp) (by decide) (by decide),adr (by simp) (by decide) (by decide)]
 have U:kZ [71] false ([121,10,71,10]++s)=some s:=by show kZ _ _ ([121]++10::([71]++10::s))=_;grind[ads,adr]
 grind[ye,lh]
theorem adt{tabs:Bool}{y q d:H}{b:UInt8}{F:ai}(a:fL b=false/\b≠35/\b≠10/\o0 b=false)(Y:bn (b::y)=some (b::y))(aD:dr (b::y)=some (d,q,[]))(c:q≠[])(e:d.contains 10=false)(f:d.head?≠some 9):gS tabs (b::y) F= .ok () q (F++[(d,tabs)]):=by
 obtain⟨w,p,g⟩:∃w p,an (b::y)= .word w p:=by simp_all[xT,mV]
 simp_all[gS]
theorem adu{D:ad Unit}{x y q d o:H}{tabs:Bool}{F:ai}(Y:bn x=some (o++y))(a:(o++y).dropWhile cf=o++y)(c:bu (o++y)=o)(b:o=[60,60]/\tabs=false\/o=[60,60,45]/\tabs=true)(aD:gS tabs y F= .ok () q (F++[(d,tabs)])):dI D x F= .ok true q (F++[(d,tabs)]):=by
 have Z:fX x F= .ok (some o) y F:=by unfold fX;rw[Y];simp only[a,c];rw[bh (by rcases b with⟨rfl,_⟩|⟨rfl,_⟩<;>decide),oO]
 unfold dI;rw[aT Z];simp only;rcases b with⟨rfl,rfl⟩|⟨rfl,rfl⟩
 ·rw[bh rfl,aT aD];rfl
 ·rw[aO (by decide),bh rfl,aT aD];rfl
theorem arD(z:H):dr (10::z)=some ([],10::z,[]):=by simp[zg,Fm]
theorem arE{lo:Option dK}{D:ad Unit}{z:H}:fM true lo D ([99,97,116]++([32,60,60,45,39,69,32,70,39]++([32,60,60,92,71]++10::z))) []= .ok () (10::z) ye:=by
 obtain⟨c,a⟩:=mH (w:=[99,97,116]) (r:=[32,60,60,45,39,69,32,70,39]++([32,60,60,92,71]++10::z)) (by decide) (by decide) (by decide) rfl;have d:dI D ([32,60,60,92,71]++10::z) [([69,32,70],true)]= .ok true (10::z) ye:=by
  refine adu (o:=[60,60]) (y:=92::71::10::z) ?_ rfl ?_ (.inl ⟨rfl,rfl⟩) (adt ⟨by decide,by decide,by decide,by decide⟩ ?_ ?_ (by simp) (by decide) (by decide))
  ·show bn (32::_)=_;rw[k3];exact jX (by decide) (by decide) (by decide)
  ·rfl
  ·simp[nK,fL]
  ·rw[zg,aO (by simp[c4,fL,mV (b:=92) (by decide)]),bh rfl];simp[arD]
 have h:dI D ([32,60,60,45,39,69,32,70,39]++([32,60,60,92,71]++10::z)) []= .ok true ([32,60,60,92,71]++10::z) [([69,32,70],true)]:=by
  refine adu (o:=[60,60,45]) (y:=39::([69,32,70,39]++([32,60,60,92,71]++10::z))) ?_ rfl ?_ (.inr ⟨rfl,rfl⟩) (adt ⟨by decide,by decide,by decide,by decide⟩ ?_ ?_ (by simp) (by decide) (by decide))
  ·show bn (32::_)=_;rw[k3];exact jX (by decide) (by decide) (by decide)
  ·rfl
  ·exact jX (by decide) (by decide) (by decide)
  ·rw[zg,aO (by simp[c4,fL,mV (b:=39) (by decide)]),aO (by decide),bh rfl];have:gy ([69,32,70,39]++([32,60,60,92,71]++10::z))=some ([32,60,60,92,71]++10::z):=rfl;simp_all[zg,rM]
 have s1:bn ([32,60,60,45,39,69,32,70,39]++([32,60,60,92,71]++10::z))=some (60::60::45::39::([69,32,70,39]++([32,60,60,92,71]++10::z))):=by show bn (32::_)=_;rw[k3];exact jX (by decide) (by decide) (by decide)
 have e:=mi _ _ _ (cS _) s1;have f:dI D (60::60::45::39::([69,32,70,39]++([32,60,60,92,71]++10::z))) []= .ok true ([32,60,60,92,71]++10::z) [([69,32,70],true)]:=by simp_all[dI,N,fX]
 unfold fM;rw[aT (cu a),c,aO (by simp),aO (by decide)];simp only;rw[aO (by decide),aT (show dI D ([99,97,116]++([32,60,60,45,39,69,32,70,39]++([32,60,60,92,71]++10::z))) []= .ok false ([99,97,116]++([32,60,60,45,39,69,32,70,39]++([32,60,60,92,71]++10::z))) [] from Zb a (by decide) (by decide)),aO (by simp),aT (DH (by decide) rfl (by simp)),bh (by decide),aT (cu s1)];have g:an (60::60::45::39::([69,32,70,39]++([32,60,60,92,71]++10::z)))= .op [60,60,45]:=by rfl
 rw[g,aO (by decide)];unfold ho;rw[cK,aT f,bh rfl];show(if _ then ho true D ([32,60,60,92,71]++10::z) [([69,32,70],true)] else .bad _)=_;rw[bh (by simp)];unfold ho;rw[cK,aT d,bh rfl];show(if _ then ho true D (10::z) ye else .bad _)=_;rw[bh (by simp)];exact(et.nl z).simple D ye
theorem adv{t o:H}(a:gP 3 t)(p:o=[10]\/o=[92,10]):∀q,h3 true 30 (w1++(t++o))≠ .deep q:=by
 have u:wZ o=true:=by rcases p with rfl|rfl<;>decide
 have h0:dB false 0 o:=by have:=(dB.nil (j:=false)).const u;grind
 obtain⟨k,F,v⟩:=(Oq 3 (by omega)).ls a t [] (by simp) 0 o h0;have y:(60:UInt8)∉t++o:=by have M:=(Vh 3).2 t a;grind
 obtain⟨E,b,G,z,A⟩:=v.nd n_ (DL.of λx B=>absurd (B.subset (by simp)) y) (n:=30) (by omega);obtain⟨c,l,M,U,I⟩:=a.cc;obtain⟨⟨h,m,C,J,K⟩,L⟩:=M.aD.facts (cR l++o);rw[show c++(cR l++o)=t++o by grind] at h m C;generalize t++o=s at*;have he:w1++s=[99,97,116]++([32,60,60,45,39,69,32,70,39]++([32,60,60,92,71]++10::(uy++s))):=by rfl
 obtain⟨O,d⟩:=mH (w:=[99,97,116]) (r:=[32,60,60,45,39,69,32,70,39]++([32,60,60,92,71]++10::(uy++s))) (by decide) (by decide) (by decide) rfl;have e:=et.nl (uy++s);have eR:jj true 30 ([99,97,116]++([32,60,60,45,39,69,32,70,39]++([32,60,60,92,71]++10::(uy++s)))) []= .ok () (10::(uy++s)) ye:=
  (Y_ d (by rfl) arE e.qj (by simp[an]) (by simp[an]) (by simp[an])).2
 have f:c5 (10::(uy++s)) ye= .ok true s []:=by
  rw[tW,cK,wz e.qj];have:N jw (λ_=>aZ (.inl true)) (10::(uy++s)) ye=(.ok (.inl true) s []:dD (Bool⊕Bool)):=by unfold N;rw[vf,arB];rfl
  rw[this];show(if s.length<(10::(uy++s)).length then ck iC true s [] else .bad s)=_;rw[if_pos (by grind),cK,s3 h m];rfl
 have g:h3 true 30 (w1++s)=ck (fa (jj true 30) .text true) 1 s []:=by
  rw[he];unfold h3;rw[AV,sj,aT (iL.2 (p9 d (by grind))),cK,IU d (by grind) (by rfl),aT eR,aT (cu e.qj)];have:iM .text 0 (an (10::(uy++s))) (10::(uy++s)) ye= .ok (.inl 1) s []:=by rw[show an (10::(uy++s))= .line by rfl];unfold iM;simp only;rw[aT f];rfl
  rw[this];show(if s.length<_ then ck (fa (jj true 30) .text true) 1 s [] else .bad _)=_;grind
 rw[g];intro q D;have av:h_ E s (ck (fa (jj true 30) .text true) 1 s []):=by refine ab.rep b (n:=30) (λi=>GA b (Oj b 29) .text true i) 1 s [] ⟨by grind,z,(A []).2 cZ.nil⟩
 rw[D] at av;exact av
theorem arH{T:H}(h:JY T):∀q,h3 true 30 (c6 T)≠ .deep q:=by
 have c:∀{x:H},x.getLast?=some 10->c6 x=x:=λh=>bh h
 have d:∀{x o:H},(o=[]\/o=uw)->∃b,(b=[]\/b=[10]\/b=[92,10])/\c6 (x++o)=x++b:=λ{x o} a=>by
  rcases a with rfl|rfl
  ·by_cases e:x.getLast?=some 10
   ·grind
   ·exact⟨[10],.inr (.inl rfl),by rw[k8];exact aO e⟩
  simp_all[uw]
 rcases h with h|⟨t,o,f,ax,a,⟨s,Y,rfl⟩|rfl|⟨g,C,B,P,m,hA,i,k,rfl⟩⟩
 ·by_cases e:T.getLast?=some 10
  ·rw[c e];have:=adp h (.inl rfl);grind
  simp_all[c6,adp]
 ·have he:c6 (ux++s++t++vA++o)=ux++s++t++vA++o:=by
   rcases a with rfl|rfl
   ·simp_all[vA]
   simp_all[uw]
  rw[he];rcases a with rfl|rfl
  ·exact adl (j:=false) f Y rfl
  ·exact adl (j:=true) f Y rfl
 ·have bt:=((Ol 3).2 t f).2;rcases a with rfl|rfl
  ·have:c6 (w1++t++[])=w1++(t++[10]):=by rw[k8];simp_all[c6]
   simp_all[adv]
  simp_all[uw,adv]
 ·obtain⟨b,M,U⟩:=d (x:=g++P++B) a;grind[arx]
theorem JY.len{T:H}(h:JY T):T.length<=470000:=by
 rcases h with h|⟨t,o,c,ax,a,h⟩
 ·have:=h.len;omega
 ·have M:o.length<=2:=by rcases a with rfl|rfl<;>decide
  rcases h with⟨s,Y,rfl⟩|rfl|⟨d,C,B,P,m,rfl,e,b,rfl⟩
  ·have:=(by decide:∀s∈ti,s.length<=4) s Y;grind[ux,vA,List.length_cons]
  ·grind[w1,List.length_cons]
  ·have U:=b.len;grind
end Go.Eng
namespace Go.Eng
open Go Go.Proofs
theorem arK(I:H)(a:I.length<=1048576):∃T,IH I=some T/\T.length<=470000/\∀q,h3 true 30 (c6 T)≠ .deep q:=by obtain⟨T,M,U⟩:=arp I a;exact⟨T,M,U.len,arH U⟩
end Go.Eng
namespace Go.Eng
def l3{α:Type}(x:dD α):Prop:=∀q,x= .bad q->q≠[]
def a4{α:Type}(f:ad α):Prop:=∀r F,l3 (f r F)
theorem l3.ok{α:Type}{a:α}{r:H}{F:ai}:l3 (.ok a r F):=λq h=>by cases h
theorem l3.more{α:Type}{op:bw}{nd:H}{F:ai}:l3 (.more op nd F:dD α):=λq h=>by cases h
theorem l3.deep{α:Type}{r:H}:l3 (.deep r:dD α):=λq h=>by cases h
theorem l3.N{α β:Type}{m:ad α}{k:α->ad β}{r:H}{F:ai}(h:l3 (m r F))(aw:∀a r' b,m r F= .ok a r' b->l3 (k a r' b)):l3 (Go.Eng.N m k r F):=by
 unfold Go.Eng.N;cases hm:m r F with
 |ok a r' b=>exact aw a r' b hm
 |more _ _ _=>exact .more
 |bad q=>rw[hm] at h;exactλd c=>by cases c;exact h q rfl
 |deep _=>exact .deep
theorem a4.N{α β:Type}{m:ad α}{k:α->ad β}(h:a4 m)(aw:∀a,a4 (k a)):a4 (Go.Eng.N m k):=λr F=>(h r F).N λa r' b _=>aw a r' b
theorem a4.ret{α:Type}(a:α):a4 (aZ a):=λr F=> .ok
theorem a4.cQ(n:Nat):a4 (b5 n):=λr F=> .ok
theorem a4.deep{α:Type}:a4 (tS:ad α):=λr F=> .deep
theorem l3.bE{α:Type}{r:H}{F:ai}(h:r≠[]):l3 ((bE:ad α) r F):=λq a=>by cases a;exact h
theorem a4.ite{α:Type}{p:Prop}[Decidable p]{f g:ad α}(hf:a4 f)(bt:a4 g):a4 (if p then f else g):=by split<;>assumption
theorem a4.aI{α:Type}{m:ad α}(h:a4 m)(x:H):a4 (m.aI x):=λr F=>by
 unfold ad.aI;have:=h r F;cases hm:m r F with
 |more _ _ _=>exact .more
 |_=>rw[hm] at this;exact this
theorem l3.named{α:Type}{m:ad α}{r x:H}{F:ai}(h:l3 (m r F)):l3 (m.named x r F):=by
 unfold ad.named;cases hm:m r F with
 |more _ _ _=>exact .more
 |_=>rw[hm] at h;exact h
theorem a4.named{α:Type}{m:ad α}(h:a4 m)(x:H):a4 (m.named x):=λr F=>(h r F).named
theorem a4.rep{σ α:Type}{f:σ->ad (σ⊕α)}(hf:∀s,a4 (f s))(h0:∀s F s' r h,f s [] F≠ .ok (.inl s') r h)(s:σ):a4 (ck f s):=by
 have c:∀(bz:Nat)(s:σ)(r:H)(F:ai),r.length<=bz->l3 (ck f s r F):=by
  intro bz;induction bz with
  |zero=>
   intro s r F e;have:=nQ.1 (Nat.le_zero.1 e);subst this;rw[cK];have:=hf s [] F;unfold cX;cases hm:f s [] F with
   |ok x ae g=>
    cases x with
    |inl s'=>exact absurd hm (h0 _ _ _ _ _)
    |inr a=>exact .ok
   |more _ _ _=>exact .more
   |bad q=>rw[hm] at this;exactλi d=>by cases d;exact this q rfl
   |deep q=>exact .deep
  |succ bz j=>
   intro s r F e;rw[cK];have:=hf s r F;unfold cX;cases hm:f s r F with
   |ok x ae g=>
    cases x with
    |inl s'=>
     simp only;split
     ·exact j s' ae g (by omega)
     ·rename_i ax;intro q d;cases d;rintro rfl;cases r with
      |nil=>exact h0 _ _ _ _ _ hm
      |cons b t=>simp at ax
    |inr a=>exact .ok
   |more _ _ _=>exact .more
   |bad q=>rw[hm] at this;exactλi d=>by cases d;exact this q rfl
   |deep q=>exact .deep
 exactλr F=>c _ s r F (cS _)
theorem a4.cW{α:Type}{x:H}{k:Tok->ad α}(h0:∀F,l3 (k .eof [] F))(aw:∀r F,an r≠ .eof->r≠[]->l3 (k (an r) r F)):a4 (Go.Eng.N (bQ x) k):=by
 intro r F;cases Y:bn r with
 |none=>rw[dm (iN Y)];exact .more
 |some r'=>
  rw[aT (cu Y)];by_cases h:r'=[]
  ·subst h;exact h0 F
  ·exact aw r' F (λe=>h (lX.1 e)) h
theorem a4.exp(b:Tok->Bool)(n:Nat):a4 (m9 b n):=a4.cW (λF=> .more) λr F h Z=>by
 rw[aO h];split
 ·exact .ok
 ·exact .bE Z
theorem Bu{α:Type}{x:H}{k:Tok->ad α}{F:ai}:Go.Eng.N (bQ x) k [] F=k .eof [] F:=by rw[aT (cu mg)];rfl
theorem a4.nl:a4 jw:=λr F=>by
 cases r with
 |nil=>exact .ok
 |cons b t=>
  unfold jw;simp only;cases lh F t with
  |inl r'=>exact .ok
  |inr nd=>exact .more
theorem a4.lines:a4 c5:=a4.rep (λs=>a4.cW (λF=>by rw[aO (by simp)];exact .ok) λr F h Z=>by
 split
 ·exact(a4.nl.N λ_=>a4.ret _) _ _
 ·exact .ok) (λs F s' r a h=>by rw[Bu] at h;cases h) _
theorem a4.part{D:ad Unit}(hD:a4 D){dq:Option (ad Unit)}(c:∀q,dq=some q->a4 q):a4 (cD D dq):=λr F=>by
 have a:∀{f:H->Option H}{n r:H}{F:ai},l3 (jx f n r F):=λ{f n r F}=>by
  unfold jx;cases f r with
  |none=>exact .more
  |some _=>exact .ok
 cases r with
 |nil=>exact .ok
 |cons b t=>
  unfold cD;simp only;split
  ·exact .ok
  ·split
   ·exact a
   ·split
    ·exact hD _ _
    ·cases dq with
     |none=>exact .ok
     |some q=>
      simp only;split
      ·exact a
      ·split
       ·exact c q rfl _ _
       ·exact .ok
theorem a4.xF{p:ad Unit}(az:a4 p)(c:UInt8):a4 (jy c p):=a4.rep (λs r F=>by
 cases r with
 |nil=>exact .more
 |cons b t=>
  simp only;split
  ·exact .ok
  ·exact(az.N λ_=>a4.ret _) _ _) (λs F s' r a h=>by cases h) _
theorem a4.double{D:ad Unit}(hD:a4 D):a4 (eJ D):=((a4.xF (a4.part hD λq h=>by cases h) _).aI _).named _
theorem a4.vn{D:ad Unit}(hD:a4 D):a4 (cD D (some (eJ D))):=a4.part hD λq h=>by cases h;exact a4.double hD
theorem a4.param{D:ad Unit}(hD:a4 D):a4 (qG D):=(a4.xF (a4.vn hD) _).aI _
theorem a4.cO{D:ad Unit}(hD:a4 D):a4 (Go.Eng.cO D):=a4.rep (λs r F=>by
 cases r with
 |nil=>exact .more
 |cons b t=>
  simp only;split
  ·exact .ok
  ·exact((a4.vn hD).N λ_=>a4.ret _) _ _) (λs F s' r a h=>by cases h) _
theorem a4.jK{D:ad Unit}(hD:a4 D)(x:H):a4 (Go.Eng.jK D x):=a4.cW (λF=> .more) λr F h Z=>by
 cases a:an r with
 |word _ _=>exact a4.cO hD _ _
 |eof=>exact absurd a h
 |_=>exact .bE Z
theorem a4.qO(tabs:Bool):a4 (gS tabs):=λr F=>by
 unfold gS;cases Y:bn r with
 |none=>exact .more
 |some r'=>
  simp only;have a:an r'≠ .eof->l3 (.bad r':dD Unit):=λh q c=>by cases c;exactλe=>h (lX.2 e)
  cases b:an r' with
  |eof=>exact .more
  |word w p=>
   simp only;have a:=a (by rw[b];simp);cases dr r' with
   |none=>exact a
   |some v=>
    simp only
    repeat' split
    all_goals first|exact a|exact .more|exact .ok
  |line=>exact a (by rw[b];simp)
  |op o=>exact a (by rw[b];simp)
theorem a4.iB{D:ad Unit}(hD:a4 D):a4 (dI D):=by
 refine a4.N (λr F=>?_) λo=>?_
 ·unfold fX;cases bn r with
  |none=>exact .more
  |some _=>simp only;split<;>exact .ok
 ·cases o with
  |none=>exact a4.ret _
  |some o=>exact a4.N (a4.ite (a4.qO _) (a4.ite (a4.qO _) (a4.jK hD _))) λ_=>a4.ret _
theorem adw{D:ad Unit}{F:ai}:dI D [] F= .ok false [] F:=(Y9 mg (by decide)).1
theorem a4.lY{D:ad Unit}(hD:a4 D):a4 (g0 D):=a4.rep (λs=>(a4.iB hD).N λ_=>a4.ret _) (λs F s' r a h=>by rw[aT adw] at h;cases h) _
theorem a4.simple{D:ad Unit}(hD:a4 D)(fr:Bool):a4 (ho fr D):=a4.rep (λs=>(a4.iB hD).N λb=>a4.ite (a4.ret _) (a4.cW (λF=> .ok) λr F h Z=>by
 cases a:an r with
 |word _ _=>exact((a4.cO hD).N λ_=>a4.ret _) _ _
 |op o=>
  simp only;split
  ·exact .bE Z
  ·exact .ok
 |_=>exact .ok)) (λs F s' r c h=>by rw[aT adw,aO (by simp),Bu] at h;cases h) _
theorem a4.pipe{de:ad Unit}(h:a4 de):a4 (fv de):=by
 have ax:∀(p:Tok->Prop)[DecidablePred p](n:Nat)(g:ad Unit),a4 g->¬p .eof->a4 (ck (λ(_:Unit)=>Go.Eng.N (bQ []) λt=>if p t then Go.Eng.N (b5 n) λ_=>Go.Eng.N (c5.aI [120]) λ_=>Go.Eng.N g λ_=>aZ (.inl ()) else aZ (.inr ())) ()):=λp _ n g bt az=>
  a4.rep (λs=>a4.cW (λF=>by rw[aO az];exact .ok) λr F _ _=>by
   split
   ·exact((a4.cQ n).N λ_=>(a4.lines.aI _).N λ_=>bt.N λ_=>a4.ret _) _ _
   ·exact .ok) (λs F s' r a h=>by rw[Bu,aO az] at h;cases h) _
 exact a4.N (m:=bQ [120]) (λr F=>by unfold bQ;cases bn r<;>first|exact .more|exact .ok) λt=>(a4.ite (a4.cQ _) (a4.ret _)).N λ_=>h.N λ_=>ax (λt=>t= .op [124]) 1 de h (by simp)
theorem a4.oC{a:ad Unit}(h:a4 a):a4 (hT a):=h.N λ_=>
 a4.rep (λs=>a4.cW (λF=>by rw[aO (by simp)];exact .ok) λr F _ _=>by
  split
  ·exact((a4.cQ 2).N λ_=>(a4.lines.aI _).N λ_=>h.N λ_=>a4.ret _) _ _
  ·exact .ok) (λs F s' r b h=>by rw[Bu,aO (by simp)] at h;cases h) _
theorem a4.tail(c:Ctx)(k:Nat):a4 (Go.Eng.N (bQ []) (iM c k)):=a4.cW (λF=> .ok) λr F a Z=>by
 unfold iM;cases U:an r with
 |eof=>exact absurd U a
 |line=>exact(a4.lines.N λ_=>a4.ret _) _ _
 |word _ _=>exact .bE Z
 |op o=>
  simp only;split
  ·exact((a4.cQ 1).N λ_=>a4.lines.N λ_=>a4.ret _) _ _
  ·split
   ·exact .ok
   ·exact .bE Z
theorem a4.list{da:ad Unit}(h:a4 da)(c:Ctx)(no:Bool):a4 (n4 da c no):=by
 rw[sj];refine(a4.lines.aI _).N λ_=>a4.rep (λk=>a4.cW (λF=>?_) λr F a Z=>?_) (λs F s' r b h=>?_) _
 ·rw[bh rfl];split
  ·exact .ok
  ·exact .more
 ·rw[aO a];split
  ·exact .ok
  ·exact(h.N λ_=>a4.tail c k) _ _
 ·rw[Bu,bh rfl] at h;split at h<;>cases h
structure Bv(l:dK):Prop where
 ls:∀c no,a4 (l.ls c no)
 pm:a4 l.pm
 cp:∀t r F,r≠[]->l3 (l.cp t r F)
 rd:a4 l.rd
 dl:a4 l.dl
theorem a4.ji(o:H):a4 (Go.Eng.ji o):=a4.exp _ _
theorem a4.cF(o:H):a4 (Go.Eng.cF o):=a4.exp _ _
theorem a4.mG:a4 Go.Eng.mG:=λr F=>by
 have a:∀(r:H)(d:Nat)(q:H),hR d r= .bad q->q≠[]:=by
  intro r;induction r with
  |nil=>intro d q h;simp[hR] at h
  |cons b t e=>
   intro d q h;rw[vi] at h;split at h
   ·cases h;simp
   ·split at h
    ·exact e _ q h
    ·split at h
     ·cases d with
      |succ d=>exact e d q h
      |zero=>
       simp only at h;cases t with
       |nil=>cases h
       |cons c u=>simp only at h;split at h<;>cases h;simp
     ·exact e _ q h
 unfold Go.Eng.mG;cases h:hR 0 r with
 |ok q=>exact .ok
 |more _=>exact .more
 |bad q=>exactλg f=>by cases f;exact a r 0 q h
theorem a4.qQ{lo:Option dK}(h:∀l,lo=some l->Bv l):a4 (dy lo):=λr F=>by
 have bg:∀n (f:dK->ad Unit),(∀l,Bv l->a4 (f l))->a4 (rJ lo n f):=λn f hf=>by
  unfold rJ;cases lo with
  |none=>exact a4.deep
  |some l=>exact(a4.cQ n).N λ_=>hf l (h l rfl)
 unfold dy;split
 ·exact((a4.cQ 3).N λ_=>a4.mG) _ _
 ·split
  ·exact bg _ _ (λl ax=>(((ax.ls _ _).aI _).named _).N λ_=>a4.ji _) _ _
  ·split
   ·exact bg _ _ (λl ax=>ax.pm.named _) _ _
   ·exact .ok
section
variable{l:dK}(ax:Bv l)
include ax
theorem a4.body(x:H):a4 (iX l x):=((a4.cF _).aI _).N λ_=>((ax.ls _ _).aI _).N λ_=>a4.cF _
theorem a4.cond(h0:∀F,∃op nd ds,l.ls .oZ false [] F= .more op nd ds):a4 (qI l):=a4.rep (λs=>((ax.ls _ _).aI _).N λ_=>(a4.cF _).N λ_=>((ax.ls _ _).aI _).N λ_=>a4.cW (λF=>by
 rw[aO (by decide),aO (by decide)]
 exact((a4.cF _).N λ_=>a4.ret _) _ _) λr F a Z=>by
 split
 ·exact((a4.cF _).N λ_=>a4.ret _) _ _
 ·split
  ·exact((a4.cF _).N λ_=>((ax.ls _ _).aI _).N λ_=>(a4.cF _).N λ_=>a4.ret _) _ _
  ·exact((a4.cF _).N λ_=>a4.ret _) _ _) (λs F s' r b h=>by
 obtain⟨op,nd,ds,M⟩:=h0 F;have:(l.ls .oZ false).aI ([10]++hj++[32,120,10]++eb) [] F= .more op (cV nd ds ([10]++hj++[32,120,10]++eb)).1 (cV nd ds ([10]++hj++[32,120,10]++eb)).2:=by unfold ad.aI;rw[M]
 rw[dm this] at h;cases h) _
theorem a4.words{D:ad Unit}(hD:a4 D):a4 (pt D):=a4.rep (λs=>a4.cW (λF=> .more) λr F a Z=>by
 cases h:an r with
 |eof=>exact .more
 |word _ _=>exact((a4.cO hD).N λ_=>a4.ret _) _ _
 |line=>exact .ok
 |op o=>
  simp only;split
  ·exact((a4.cQ 1).N λ_=>a4.ret _) _ _
  ·exact .bE Z) (λs F s' r b h=>by rw[Bu] at h;cases h) _
theorem a4.for_{D:ad Unit}(hD:a4 D):a4 (pv l D):=a4.cW (λF=> .more) λr F a Z=>by
 cases h:an r with
 |eof=>exact .more
 |word w p=>
  cases p with
  |false=>exact .bE Z
  |true=>
   simp only;split
   ·refine((a4.cQ _).N λ_=>(a4.aI (a4.cW (λF=>?_) λr F a Z=>?_) _).N λ_=>a4.body ax _) _ _
    ·rw[aO (by simp)]
     exact(a4.lines.N λ_=>a4.cW (λF=>by rw[aO (by decide)];exact .ok) λr F a Z=>by
      split
      ·exact((a4.cQ _).N λ_=>(a4.words ax hD).N λ_=>a4.lines.N λ_=>a4.ret _) _ _
      ·exact .ok) _ _
    ·split
     ·exact((a4.cQ _).N λ_=>a4.lines.N λ_=>a4.ret _) _ _
     ·exact(a4.lines.N λ_=>a4.cW (λF=>by rw[aO (by decide)];exact .ok) λr F a Z=>by
       split
       ·exact((a4.cQ _).N λ_=>(a4.words ax hD).N λ_=>a4.lines.N λ_=>a4.ret _) _ _
       ·exact .ok) _ _
   ·exact .bE Z
 |line=>exact .bE Z
 |op o=>exact .bE Z
theorem a4.vk{D:ad Unit}(hD:a4 D):a4 (lj D):=a4.rep (λs=>a4.cW (λF=> .more) λr F a Z=>by
 cases h:an r with
 |eof=>exact .more
 |word _ _=>
  refine(((a4.cO hD).aI _).N λ_=>a4.cW (λF=> .more) λr F a Z=>?_) _ _;cases h:an r with
  |eof=>exact .more
  |op o=>
   simp only;split
   ·exact((a4.cQ 1).N λ_=>a4.ret _) _ _
   ·split
    ·exact((a4.cQ 1).N λ_=>a4.ret _) _ _
    ·exact .bE Z
  |word _ _=>exact .bE Z
  |line=>exact .bE Z
 |line=>exact .bE Z
 |op o=>exact .bE Z) (λs F s' r b h=>by rw[Bu] at h;cases h) _
theorem a4.items{D:ad Unit}(hD:a4 D):a4 (nJ l D):=a4.rep (λs=>a4.lines.N λ_=>a4.cW (λF=> .more) λr F a Z=>by
 rw[aO a];split
 ·exact((a4.cQ 4).N λ_=>a4.ret _) _ _
 ·exact((a4.ite (a4.cQ 1) (a4.ret _)).N λ_=>(a4.vk ax hD).N λ_=>(ax.ls _ _).N λ_=>a4.cW (λF=>by rw[aO (by simp)];exact .ok) λr F a Z=>by
   split
   ·exact((a4.cQ 2).N λ_=>a4.ret _) _ _
   ·exact .ok) _ _) (λs F s' r b h=>by
  rw[aT (p9 mg (by simp[an])),Bu,bh rfl] at h;cases h) _
theorem a4.vl{D:ad Unit}(hD:a4 D):a4 (qJ l D):=a4.cW (λF=> .more) λr F b Z=>by
 cases h:an r with
 |eof=>exact .more
 |word _ _=>
  refine l3.N ((((a4.cO hD).N λ_=>a4.lines.N λ_=>a4.cW (λF=> .more) λr F b Z=>by rw[aO b];exact .ok).aI _) _ _) λt r' g c=>?_;split
  ·exact((a4.cQ 2).N λ_=>(a4.items ax hD).aI _) _ _
  ·refine .bE ?_;rintro rfl;obtain⟨_,i,j,k,d⟩:=b7 (iL.1 c);obtain⟨_,m,n,p,e⟩:=b7 d;obtain⟨q,s,u,f,a⟩:=b7 e;obtain⟨v,rfl,rfl⟩:=nM f;split at a
   ·cases a
   ·rename_i bc;cases a;exact bc (by simp[an])
 |line=>exact .bE Z
 |op o=>exact .bE Z
theorem a4.kind(h0:∀F,∃op nd ds,l.ls .oZ false [] F= .more op nd ds)(t:Tok):∀r F,r≠[]->l3 (gA l t r F):=λr F Z=>by
 cases t with
 |eof=>exact l3.bE (F:=F) Z
 |line=>exact l3.bE (F:=F) Z
 |op o=>exact((a4.cQ 1).N λ_=>((ax.ls _ _).aI _).N λ_=>a4.ji _) _ _
 |word w p=>exact((a4.cQ _).N λ_=>a4.ite (((ax.ls _ _).aI _).N λ_=>a4.cF _) (a4.ite (a4.cond ax h0) (a4.ite (a4.for_ ax ax.dl) (a4.ite (a4.vl ax ax.dl) (((ax.ls _ _).aI _).N λ_=>a4.body ax _))))) _ _
end
theorem arL{da:ad Unit}{F:ai}:∃op nd ds,n4 da .oZ false [] F= .more op nd ds:=by rw[sj,aT (iL.2 (p9 mg (by simp[an]))),cK,SJ,aO (by simp)];exact⟨_,_,_,rfl⟩
theorem a4.function{fr:Bool}{lo:Option dK}(h:∀l,lo=some l->Bv l):a4 (kH fr lo):=by
 unfold kH;cases lo with
 |none=>exact a4.deep
 |some l=>
  have ax:=h l rfl;refine a4.ite (a4.named ((a4.cQ 1).N λ_=>a4.cW (λF=> .more) λr F a Z=>?_) _) a4.deep;rw[aO a];split
  ·refine((a4.cQ 1).N λ_=>(a4.lines.aI _).N λ_=>a4.cW (λF=> .more) λr F a Z=>?_) _ _;rw[aO a];split
   ·exact(ax.cp _ r F Z).N λ_ r' b _=>a4.ite ax.rd (a4.ret _) _ _
   ·exact .bE Z
  ·exact .bE Z
theorem a4.command{fr:Bool}{lo:Option dK}(h:∀l,lo=some l->Bv l)(h0:∀l,lo=some l->∀F,∃op nd ds,l.ls .oZ false [] F= .more op nd ds):a4 (fM fr lo (dy lo))/\∀t r F,r≠[]->l3 (qK lo t r F):=by
 have hD:=a4.qQ h
 have c:∀t r F,r≠[]->l3 (qK lo t r F):=λt r F Z=>by
  unfold qK;cases lo with
  |none=>exact .deep
  |some l=>exact l3.named (m:=gA l t) (a4.kind (h l rfl) (h0 l rfl) t r F Z)
 refine⟨a4.cW (λF=> .more) λr F a Z=>?_,c⟩;rw[aO a];split
 ·exact(c _ r F Z).N λ_ r' d _=>a4.lY hD _ _
 ·cases U:an r with
  |eof=>exact absurd U a
  |line=>exact .bE Z
  |op o=>
   simp only;split
   ·exact((a4.iB hD).N λ_=>a4.simple hD fr) _ _
   ·exact .bE Z
  |word w p=>
   simp only;split
   ·exact .bE Z
   ·refine((a4.iB hD).N λb=>a4.ite (a4.simple hD fr) ((a4.cO hD).N λ_=>a4.ite (a4.cW (λF=>?_) λr F a Z=>?_) (a4.simple hD fr))) _ _
    ·rw[aO (by simp)];exact a4.simple hD fr _ _
    ·split
     ·exact((a4.function h).N λ_=>a4.ite (a4.ret _) (a4.lY hD)) _ _
     ·exact a4.simple hD fr _ _
theorem adx(fr:Bool):∀n,Bv (aS fr n)
 |0=>by
  have h:∀l,(none:Option dK)=some l->Bv l:=λl h=>by cases h
  have ay:=a4.command (fr:=fr) h (λl h=>by cases h);have hD:=a4.qQ h;exact⟨λc no=>a4.list (a4.oC (a4.pipe ay.1)) c no,a4.param hD,ay.2,a4.lY hD,hD⟩
 |n+1=>by
  have i:=adx fr n
  have h:∀l,some (aS fr n)=some l->Bv l:=λl h=>by cases h;exact i
  have ay:=a4.command (fr:=fr) h (λl h F=>by cases h;cases n<;>exact arL);have hD:=a4.qQ h;exact⟨λc no=>a4.list (a4.oC (a4.pipe ay.1)) c no,a4.param hD,ay.2,a4.lY hD,hD⟩
theorem arM{fr:Bool}{n:Nat}{u q:H}(h:h3 fr n u= .bad q):q≠[]:=(adx fr n).ls .text true u [] q h
end Go.Eng
namespace Go.Eng
open Go Go.Proofs
theorem ady{s:H}(Y:(c6 s).length<=1000000):∃a:Int,II s=some (vr (h3 false 30 (c6 s)),a)/\match h3 false 30 (c6 s) with
  | .ok _ _ _=>a=((c6 s).length:Int)
  | .more _ _ _=>a=((c6 s).length:Int)
  | .bad r=>a=ar (c6 s) r/\r<:+c6 s
  | .deep _=>a<((c6 s).length:Int):=by
 have h:=aav s Y;unfold II;cases az:h3 false 30 (c6 s) with
 |ok a r F=>rw[az] at h;dsimp only at h;exact⟨_,by rw[h,aP rfl];rfl,rfl⟩
 |more op nd ds=>rw[az] at h;dsimp only at h;exact⟨_,by rw[h,aP rfl];rfl,rfl⟩
 |bad r=>rw[az] at h;obtain⟨M,op,h⟩:=h;exact⟨_,by rw[h,aP rfl];rfl,rfl,M⟩
 |deep q=>rw[az] at h;obtain⟨p,op,h,U⟩:=h;exact⟨_,by rw[h,aP rfl];rfl,U⟩
theorem arN(I:H)(a:I.length<=1048576):∃T,MC I=some T/\T.length<=100:=by obtain⟨st,b,M⟩:=ab3 I a;obtain⟨y,e,c,d,f⟩:=Ot (st:=(I,st.2.1,W (st.2.2+999))) ⟨rfl,M.lo,M.bg,M.b3⟩ (n:=9) (by omega);unfold MC;rw[b,aP rfl];refine⟨y,?_,by have:=d.len;omega⟩;rw[show(9:Int)=((9:Nat):Int) from rfl,c];rfl
theorem arO{S v r:H}(h:r<:+S):ar (S++v) (r++v)=ar S r:=by obtain⟨t,rfl⟩:=h;unfold ar;simp only[qk];omega
theorem law_FnBad(I:H):M_l_FnBad I=some true:=by
 unfold M_l_FnBad;by_cases j:(1048576:Int)<(I.length:Int)
 ·rw[decide_eq_true j];rfl
 rw[eu j,aU];obtain⟨T,M,U,l⟩:=arK I (by omega);obtain⟨fq,t,D⟩:=arN I (by omega);have E:=aq7 T;obtain⟨e,f⟩:=aq6 T;have u:dL (c6 T):= .inr ⟨e,f⟩;obtain⟨s1,s2⟩:=aq5 (n:=30) (fr:=false) (m:=30) (by decide) l (by decide);have o:=s1.vr l;obtain⟨G,e1,a⟩:=ady (s:=T) (by omega);obtain⟨aj,w⟩:=aq8 (s:=T) (by omega);have ay:=aq4 (s:=T) (by omega) s2
 have y:∀x:H,∃v,c6 (x++fq)=x++v/\v.length<=fq.length+1/\(v=fq\/v=fq++[10]):=λx=>by
  by_cases h:(x++fq).getLast?=some 10
  ·exact⟨fq,bh h,by omega,.inl rfl⟩
  ·exact⟨fq++[10],(aO h).trans (rb _ _ _),by simp,.inr rfl⟩
 obtain⟨v,g,J,z⟩:=y (c6 T);have ax:(c6 (c6 T++fq)).length<=1000000:=by rw[g,qk];omega
 obtain⟨a3,p,b⟩:=ady (s:=c6 T++fq) ax;rw[M,aP rfl,t,aP rfl,e1,aP rfl];dsimp only;rw[w,aP rfl];dsimp only;rw[o,decide_eq_true rfl,aau T (by omega),aP rfl,bX (Ve (by omega)),p,aP rfl];dsimp only;simp only[hE,aU];rw[g] at p b;rw[g];rw[<-o];have c:vr (h3 false 30 (c6 T++v))=2->a3<=(((c6 T)++fq).length:Int):=by
  intro d;have A:((c6 T++v).length:Int)<=((c6 T++fq).length:Int)+1:=by
   rcases z with rfl|rfl
   ·omega
   ·simp only[qk,OF];omega
  cases az:h3 false 30 (c6 T++v) with
  |ok _ _ _=>rw[az] at d;cases d
  |more _ _ _=>rw[az] at d;cases d
  |bad r=>rw[az] at b;obtain⟨rfl,i⟩:=b;have B:=arM az;have K:0<r.length:=J_.2 B;have L:=i.length_le;unfold ar;omega
  |deep q=>rw[az] at b;dsimp only at b;omega
 cases az:h3 false 30 (c6 T) with
 |bad r=>rw[az] at a ay;obtain⟨rfl,i⟩:=a;have C:=(akS (v:=v) u az).2;rw[C] at b⊢;obtain⟨rfl,_⟩:=b;rw[arO i,ay];show(bif decide ((2:Int)=2) then _ else _)=_;rw[decide_eq_true rfl,aL,decide_eq_true rfl];rfl
 |deep q=>exact absurd az (s2 q)
 |ok k r F=>
  rw[az] at a;dsimp only at a;subst a;show(bif decide ((0:Int)=2) then _ else _)=_;rw[eu (by decide),aU,aP rfl,decide_eq_true rfl];by_cases U:vr (h3 false 30 (c6 T++v))=2
  ·rw[decide_eq_true U,Ze ⟨rfl,rfl⟩,bX (λ_ _=>Ve (by omega)),decide_eq_true (c U)];rfl
  ·rw[eu U,gd,bX (λh=>by cases h)];rfl
 |more op nd ds=>
  rw[az] at a;dsimp only at a;subst a;show(bif decide ((1:Int)=2) then _ else _)=_;rw[eu (by decide),aU,aP rfl,decide_eq_true rfl];by_cases U:vr (h3 false 30 (c6 T++v))=2
  ·rw[decide_eq_true U,Ze ⟨rfl,rfl⟩,bX (λ_ _=>Ve (by omega)),decide_eq_true (c U)];rfl
  ·rw[eu U,gd,bX (λh=>by cases h)];rfl
end Go.Eng
