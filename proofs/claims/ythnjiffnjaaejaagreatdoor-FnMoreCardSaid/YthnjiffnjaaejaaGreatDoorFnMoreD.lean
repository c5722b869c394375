/- Part 4 of what FnMore needs. No condition. -/
import Derived.Test.YthnjiffnjaaejaaGreatDoorFnMoreC
set_option linter.all false
namespace Go.Eng
open Go Go.Proofs
variable{D:ab Unit}{F ds:ag}{R:bl}{S an r r' r0 t u x:H}{b:UInt8}{c:Ctx}{α σ:Type}{g:ak->ak}{n:Nat}
theorem aaI{e:cN}(tabs:Bool)(h:ed e r F)(W:F.length+r.length<e.S.length):aZ e r (gm tabs r F) (λ_=>e.st) (y9 (e.st r F) tabs):=by
 unfold gm;cases Y:bg r with
 |none=>unfold y9 a6;exact(((lB e).none h Y).bind λ_=> .inr rfl).sA
 |some r'=>
  have v:=eV Y;have a:=h.mono v;have z:=lz _ _ _ (cS _) Y;simp only;by_cases m:∃w p,ar r'= .word w p
  ·obtain⟨w,p,m⟩:=m;rw[m];simp only;unfold y9 a6;refine aZ.et ?_ (fo ((lB e).some h Y));have A:(jQ (ar r')).1=3:=by rw[m];rfl
   simp only[A,bz,hU,aY];generalize M:(λx:H×Int=>_)=j;have f:=anh (I:=e.st r F) (S:=e.S) (st:=ax e.S r') (av:=e.ne) (a3:=e.kD) (j:=j) h.b4 bB r' (by have:=e1 a.sfx;have:=h.b4;grind[gM]) a.sfx;have g:=aaE _ r' (cS _);show aZ e r _ _ (fixF (y8 (e.st r F) e.S (ax e.S r') e.ne e.kD j) bB ([],ax e.S r'));generalize fixF (y8 (e.st r F) e.S (ax e.S r') e.ne e.kD j) bB ([],ax e.S r')=y at f;cases B:gQ r' with
   |none=>rw[B] at f g;obtain⟨s,rfl⟩:=f;simp only at g;rw[g];exact⟨a.sfx,s,rfl⟩
   |some x=>
    obtain⟨q,b⟩:=x;rw[B] at f g;obtain⟨c,J,aB⟩:=g;obtain⟨N,i,ah,rfl⟩:=f;have C:q<:+r':=⟨c,J.symm⟩;have O:min i (e.S.length:Int)=ax e.S q:=by
     have:= @pQ q e.S;rcases ah with rfl|⟨rfl,rfl⟩
     ·omega
     grind[iC]
    have P:b3 e.S (ax e.S r') (ax e.S q)=c:=by rw[JC a.sfx C,J];simp
    have X:=e1 a.sfx;have K:r'.length=c.length+q.length:=by grind
    have Q:=v.length_le;have Z:=h.b4;have mu:b.length<=1:=aaH _ _ _ B;have D:((c++b).length:Int)<=99999999:=by grind
    rw[<-M];have E:min i ((e.st r' F).1.length:Int)=ax e.S q:=O;simp only[E];have k:ax e.S r'<=ax e.S q/\0<=ax e.S r':=by grind[ax]
    refine aZ.et ?_ (b2 ⟨k.2,k.1,pQ⟩);show aZ e r _ _ (a4 ((((b3 e.S (ax e.S r') (ax e.S q)).length+b.length:Nat):Int)<=9223372036854775807) (ay (y7 (b3 e.S (ax e.S r') (ax e.S q)++b)) _));rw[P];refine aZ.et ?_ (b2 (by omega));rw[aB];cases G:dl (c++b) 0 with
    |none=>
     have l:y7 (c++b)=some ([],false):=by rw[T7 _ D,G];rfl
     refine aZ.et ?_ (aS l);simp only[Option.map_none,fp,aO];refine aZ.et ?_ (b2 (λ_ n=>absurd n (by simp)));exact⟨a.sfx,_,rfl⟩
    |some d=>
     simp only[BZ];by_cases t:d.contains 10=true
     ·have l:y7 (c++b)=some ([],false):=by rw[T7 _ D,G];exact k2 some (ba t)
      refine aZ.et ?_ (aS l);rw[ba t];simp only[fp,aO];refine aZ.et ?_ (b2 (λ_ n=>absurd n (by simp)));exact⟨a.sfx,_,rfl⟩
     have l:y7 (c++b)=some (d,true):=by rw[T7 _ D,G];exact k2 some (aM t)
     refine aZ.et ?_ (aS l);rw[aM t];simp only[hU,aY];have bk:(bif tabs then !decide (d=[]) else false)=true->(true:Bool)=true->(0:Int)<=0/\(0:Int)<(d.length:Int):=by
      intro n _;cases d with
      |nil=>grind
      |cons x y=>simp
     refine aZ.et ?_ (b2 (by grind))
     have R:(bif bif tabs then !decide (d=[]) else false then decide (((at' d 0).toNat:Int)=9) else false)=decide (tabs=true/\d.head?=some 9):=by
      cases tabs with
      |false=>simp
      |true=>
       cases d with
       |nil=>simp
       |cons x y=>simp[at',JA]
     rw[R];by_cases u:tabs=true/\d.head?=some 9
     ·rw[ba u];simp only[u,om,bz,aO];exact⟨a.sfx,_,rfl⟩
     rw[aM u];simp only[u,bG,aY];by_cases kX:b=[]
     ·subst kX;simp only[ne_eq,not_true,cZ,bz,hU,aY];by_cases L:q=[]
      ·subst L;rw[ba rfl];have hle:decide ((e.S.length:Int)<=i)=true:=by
        rcases ah with rfl|⟨_,rfl⟩
        ·simp[iC]
        grind
       refine aZ.et ?_ (show(bif decide ((e.S.length:Int)<=i) then _ else _)=_ by rw[hle]);exact⟨_,rfl,by simp[cN.st]⟩
      ·rw[aM L];have T:i=ax e.S q:=by grind
       subst T;have hle:decide ((e.S.length:Int)<=ax e.S q)=false:=by grind[ax,zE,pQ]
       refine aZ.et ?_ (show(bif decide ((e.S.length:Int)<=ax e.S q) then _ else _)=_ by rw[hle]);have sC:=h.TX;have U:=C.length_le;refine aZ.et ?_ (b2 (show F.length+[(d,tabs)].length<=536870912 by grind));exact⟨C.trans v,⟨h.b4,N,by grind,by have:=h.ops;omega⟩,rfl⟩
     ·rw[ba kX];simp only[kX,bG,fp,aO];exact NF rfl rfl h.xY λ_=>rfl
  ·have A:decide ((jQ (ar r')).1=3)=false:=by grind[decide_eq_false_iff_not,NK]
   have V:y9 (e.st r F) tabs=a_ (lJ (e.st r' F)) (λx=>(x.1,x.2.1,F,x.2.2.2.1,e.op,x.2.2.2.2.2)) λy=>Empty.elim y:=by unfold y9 a6;refine(fo ((lB e).some h Y)).trans ?_;simp only[A,fp,aO];rfl
   rw[V];cases az:ar r' with
   |word w p=>grind
   |eof=>exact(((ur a z).1 az).bind λ_=> .inr rfl).sA
   |line=>exact⟨a.sfx,_,gp ((ur a z).2 (by grind))⟩
   |op o=>exact⟨a.sfx,_,gp ((ur a z).2 (by grind))⟩
theorem aaL(b:UInt8):Iv (b.toNat:Int)=some (cd b):=by
 unfold Iv CJ cd;have M:((48:Int)<=(b.toNat:Int))=((48:UInt8)<=b):=by apply propext;rw[Ek];grind
 have U:((b.toNat:Int)<=(57:Int))=(b<=(57:UInt8)):=by apply propext;rw[Ek];grind
 grind[ay]
theorem ank(w:H)(c:w.length<=99999999):Iy w=some (!decide (w=[])&&w.all cd):=by
 have a:∀(n:Nat)(r:H),r.length<n->r<:+w->fixF (Me w λ_=>some (!(decide (w=[])))) n (ax w r)=some (!decide (w=[])&&r.all cd):=by
  intro n;induction n with
  |zero=>omega
  |succ n d=>
   intro r af Z;rw[fx];generalize fixF (Me w _) n=k at d;unfold Me;cases r with
   |nil=>simp[iC]
   |cons b t=>
    have e:=iW c Z;simp only[nW Z,bz,aO];rw[b2 ⟨(ho Z).1,trivial⟩,jE Z,aaL,aS rfl,e];cases f:cd b with
    |false=>grind
    |true=>simp only[hU,aY];grind[List.length_cons,dV]
 unfold Iy a6;have:=a bB w (ml c) gr;grind[Jz]
theorem Bp(h:cd b=true):fV b=false/\b≠10/\b≠92/\b≠39/\b≠34/\b≠96/\b≠36/\b≠35/\qs b=false:=by
 have M:(48:UInt8)<=b/\b<=(57:UInt8):=by grind[cd]
 rw[Ek,Ek] at M;have a:(48:UInt8).toNat=48:=rfl;have c:(57:UInt8).toNat=57:=rfl;rw[a,c] at M;have d:b=UInt8.ofNat b.toNat:=by simp
 generalize b.toNat=n at*;subst d;have:n=48\/n=49\/n=50\/n=51\/n=52\/n=53\/n=54\/n=55\/n=56\/n=57:=by omega
 rcases this with rfl|rfl|rfl|rfl|rfl|rfl|rfl|rfl|rfl|rfl<;>decide
theorem aaM(h:cd b=true):cV (b::t)=false:=by obtain⟨M,U,_,_,_,_,_,_,a⟩:=Bp h;show(fV b||b==10||bt (b::t)!=[])=false;grind[m3]
theorem anl(h:cd b=true):fD (b::t)=false:=by simp_all[Bp,tf]
theorem aaN:∀(r:H),cV (r.dropWhile cd)=true->di r=(r.takeWhile cd,true)
 |[],_=>by decide
 |b::t,h=>by
  cases a:cd b with
  |true=>rw[Ws a] at h;obtain⟨M,U,c,d,e,f,g,i,j⟩:=Bp a;unfold di;simp_all[aaM,aM,anl,aaN,List.takeWhile_cons_of_pos]
  |false=>simp_all[Eh,di,ba,Wx]
theorem NT:∀(r w:H),di r=(w,true)->cV (r.drop w.length)=true
 |[],w,h=>by simp[di] at h;subst h;rfl
 |b::t,w,h=>by
  unfold di at h;split at h
  ·rename_i a;cases h;exact a
  ·split at h
   ·cases h
   ·split at h
    ·rename_i w' c;cases h;exact NT t w' c
    ·cases h
def vC(r:H):H:=match ar r with
 | .word w true=>if(!decide (w=[])&&w.all cd) then r.drop w.length else r
 |_=>r
theorem anm(Y:bg r=some r):(fm (bt (r.dropWhile cd))=true->vC r=r.dropWhile cd)/\fm (bt (vC r))=fm (bt (r.dropWhile cd)):=by
 have f:fm []=false:=by decide
 by_cases g:cV (r.dropWhile cd)=true
 ·have:vC r=r.dropWhile cd:=by
   cases r with
   |nil=>decide
   |cons b t=>
    cases d:cd b with
    |true=>
     obtain⟨M,U,_,_,_,_,_,_,x⟩:=Bp d;have a:ar (b::t)= .word ((b::t).takeWhile cd) true:=by show(if b=10 then Tok.line else if bt (b::t)≠[] then .op (bt (b::t)) else .word (di (b::t)).1 (di (b::t)).2)=_;simp_all[aM,m3,aaN]
     unfold vC;rw[a];simp only;have i:¬(b::t).takeWhile cd=[]:=by simp_all
     have j:((b::t).takeWhile cd).all cd=true:=List.all_takeWhile;rw[j];simp only[i,bG,fp,Bool.and_self,c9];have:=Ww (p:=cd) (l:=b::t);grind
    |false=>
     rw[Eh (by grind)] at g⊢;unfold vC;cases a:ar (b::t) with
     |word w p=>
      have k:fV b=false:=by
       cases m:fV b with
       |false=>rfl
       |true=>rw[Ga m] at Y;have:=(eV Y).length_le;grind
      grind[Jn]
     |_=>rfl
  grind
 ·have n:cV (r.dropWhile cd)=false:=by grind
  have o:bt (r.dropWhile cd)=[]:=by
   cases Z:r.dropWhile cd with
   |nil=>decide
   |cons c u=>grind[cV,Bool.or_eq_false_iff]
  rw[o,f];refine⟨λh=>absurd h (by decide),?_⟩;have q:vC r=r:=by
   unfold vC;cases a:ar r with
   |word w p=>
    cases p with
    |true=>
     simp only;by_cases s:(!decide (w=[])&&w.all cd)=true
     ·exfalso;simp only[h4] at s;cases r with
      |nil=>grind[ar]
      |cons b t=>
       have ah:di (b::t)=(w,true):=by have y:(if b=10 then Tok.line else if bt (b::t)≠[] then .op (bt (b::t)) else .word (di (b::t)).1 (di (b::t)).2)= .word w true:=a;grind
       obtain⟨v,e⟩:=(F0 _ _ ah).1;have he:=NT _ _ ah;rw[<-e,pq] at he;rw[<-e,List.dropWhile_append_of_pos (by grind)] at n;cases v with
       |nil=>simp_all
       |cons c u=>grind[cd,aaM,List.dropWhile_cons_of_neg]
     grind
    |false=>rfl
   |_=>rfl
  rw[q];cases r with
  |nil=>simp_all
  |cons b t=>
   cases d:cd b with
   |true=>simp_all[m3,Bp]
   |false=>simp_all
theorem T_{o:H}(h:fm o=true):1<=o.length:=by
 cases o with
 |nil=>exact absurd h (by decide)
 |cons a b=>simp
theorem JN(hA:uw R n){e:cN}(bj:e.ne=30- (n:Int)):rf e (dM (a9 false n)) (λb r F=>(b,e.st r F)) (AQ R):=by
 intro r F h;unfold dM;cases Y:bg r with
 |none=>
  have:fI r F=Eng.b5 [] r F:=by grind[fI]
  rw[dx (nd:=(b8 [] F []).1) (ds:=(b8 [] F []).2) this];unfold AQ;exact(((lB e).none h Y).bind λ_=> .inr rfl).sA
 |some r'=>
  have g:=eV Y;have f:=h.mono g;have E:=lz _ _ _ (cS _) Y;obtain⟨Bq,x4⟩:=anm E;have G:r'.dropWhile cd<:+r':=Bb;have I:vC r'<:+r':=by grind[vC,List.drop_suffix]
  have NS:=e1 f.sfx;have i:=h.b4;unfold AQ a6;refine aZ.et ?_ (fo ((lB e).some h Y));have J:∀(k:Int->Option (bp ak (Bool×ak)))(y:Option (bp ak (Bool×ak))),y=(c1 ((bif(decide ((jQ (ar r')).1=3)) then(jQ (ar r')).2.2 else false)=true) (Iy (jQ (ar r')).2.1) false λ(K:Bool)=>
    (bif(bif(bif(decide ((jQ (ar r')).1=3)) then(jQ (ar r')).2.2 else false) then K else false) then
    k (W (ax e.S r'+((jQ (ar r')).2.1.length:Int)))
    else k (ax e.S r')))->y=k (ax e.S (vC r')):=by
   intro k y L;rw[L];unfold vC;cases O:ar r' with
   |word w p=>
    cases p with
    |false=>rfl
    |true=>
     have j:=(q8 O).1;have P:w.length<=99999999:=by grind
     simp only[jQ,bz,aO];rw[ank w P,gI,ba trivial];cases aq:(!decide (w=[])&&w.all cd) with
     |false=>simp
     |true=>obtain⟨q,rfl⟩:=j;simp only[aO,c9,pq];rw[kY i f.sfx]
   |_=>rfl
  refine aZ.et ?_ (J (λl=>ay (Cv e.S l) λ(c:H)=>
   (ay (Iz c) λ(Q:Bool)=>
   (bif(!Q) then
   some (.inr (false,e.st r' F))
   else
   (bif(bif(decide (c=([60,60]:H))) then true else(decide (c=([60,60,45]:H)))) then
   (a_ (y9 (e.S,(W (l+(c.length:Int))),F,e.ne,e.op,e.kD) (decide (c=([60,60,45]:H)))) (λx=>x) λ(s:ak)=>
   some (.inr (true,s)))
   else
   (a_ (mf R (e.S,(W (l+(c.length:Int))),F,e.ne,e.op,e.kD)) (λx=>x) λ(S:ak)=>
   some (.inr (true,S))))))) _ rfl)
  refine aZ.et ?_ (aS (TT i (I.trans f.sfx)));refine aZ.et ?_ (aS (am1 _));by_cases Z:fm (bt (r'.dropWhile cd))=true
  ·have t:fI r F= .ok (some (bt (r'.dropWhile cd))) ((r'.dropWhile cd).drop (bt (r'.dropWhile cd)).length) F:=by simp_all[fI,ba]
   rw[aJ t,Bq Z];rw[Z];simp only[hU,aY];have d:=G.trans g;have u:=h.mono d;generalize r'.dropWhile cd=q at*;have j:bt q<+:q:=Nm;have M:=T_ Z;generalize aP:bt q=o at*;obtain⟨v,rfl⟩:=j;rw[pq];have B:v<:+o++v:=gq o v;have z:=u.mono B;have T:W (ax e.S (o++v)+(o.length:Int))=ax e.S v:=kY i u.sfx;simp only[T]
   have A:∀(m:ab Unit)(y:Option (bp ak ak)),aZ e v (m v F) (λ_=>e.st) y->aZ e r (N m (λ_=>aU true) v F) (λb r F=>(b,e.st r F)) (a_ y (λx=>x) λs=>some (.inr (true,s))):=by intro m y hm;exact aZ.je dg.id (hm.mono (B.trans d)) (λ_=>rfl) λa an aD _ V X=>⟨V,X,rfl⟩
   have C:F.length+v.length<e.S.length:=by have:=u.kk;grind
   by_cases U:o=[60,60]
   ·subst U;simp only[bz,aO,c9,show¬(([60,60]:H)=[60,60,45]) by decide,bG];exact A _ _ (aaI false z C)
   ·by_cases D:o=[60,60,45]
    ·subst D;simp only[bz,aO,c9,show¬(([60,60,45]:H)=[60,60]) by decide,bG,aY,cZ];exact A _ _ (aaI true z C)
    ·simp only[U,D,bG,aY,cZ];exact A _ _ (T1 hA bj _ v F z)
  ·have t:fI r F= .ok none r' F:=by simp_all[fI,aM]
   have x2:fm (bt (vC r'))=false:=by grind
   rw[aJ t,x2];exact⟨g,f,rfl⟩
theorem aaP(hA:uw R n){e:cN}(bj:e.ne=30- (n:Int)):rf e (gH (a9 false n)) (λ_=>e.st) (ID R):=by
 intro r F h;unfold gH ID a6;refine aZ.rep (en:=λ_ r F=>e.st r F) (λk s an a M az=>?_) bB () r F (ml (k1 (e1 h.sfx) h.b4)) h;unfold R8;refine aZ.je dg.k (JN hA bj an a M) (λ_=>rfl) λb c g d U f=>?_;cases b with
 |false=>exact aZ.inr U f rfl
 |true=>
  rw[ba rfl];by_cases aw:c.length<an.length
  ·grind[aZ.inl]
  ·exact absurd (tc (xZ false n▸(rW false n).dl) d) aw
theorem mO(fr:Bool)(n:Nat):gn (a9 fr n):=xZ fr n▸(rW fr n).dl
theorem aZ.tst{a β b:Type}{C:dn α->dn a}(d:dg C){e:cN}{k:Tok->ab α}{f:Tok->β}{cB:ak->Option (bp ak (β×ak))}{cv:a->H->ag->b}{K:β×ak->Option (bp ak b)}
  (c:pe e f cB) (h:ed e r F)
  (az:∀r',bg r=some r'->r'<:+r->ed e r' F->bg r'=some r'->aZ e r0 (C (k (ar r') r' F)) cv (K (f (ar r'),e.st r' F))) (bk:∀st,(g st).2.2.2.2.1=st.2.2.2.2.1\/(g st).2.2.2.2.1=e.op:=by intro _;first|exact .inl rfl|exact .inr rfl):
  aZ e r0 (C (Eng.N (bN x) k r F)) cv (a_ (cB (e.st r F)) g K):=by
 cases Y:bg r with
 |none=>rw[dx (jC Y),d.more];exact((c.none h Y).bind bk).sA
 |some r'=>rw[aJ (bL Y),fo (c.some h Y)];exact az r' Y (eV Y) (h.mono (eV Y)) (lz _ _ _ (cS _) Y)
theorem Ud{b:Tok->Bool}{a:Unit}{c:ag}(h:mL b n r F= .ok a r' c):c=F:=by
 unfold mL at h;obtain⟨t,an,d,M,U⟩:=bW h;obtain⟨_,_,rfl⟩:=JI M;split at U
 ·grind[b5]
 ·split at U
  ·cases U;rfl
  ·cases U
theorem Ue{b:Tok->Bool}{op:bs}{nd:H}(h:mL b n r F= .more op nd ds):op=[]:=by
 unfold mL at h;cases Y:bg r with
 |none=>rw[dx (nd:=(b8 [] F []).1) (ds:=(b8 [] F []).2) (op:=[]) (by rw[jC Y];rfl)] at h;grind
 |some r'=>
  rw[aJ (bL Y)] at h;split at h
  ·grind[b5]
  ·split at h<;>cases h
theorem aZ.Uf{g i β j:Type}{C:dn g->dn i}(d:dg C){e:cN}{m:ab α}{k:α->ab g}{cv:α->H->ag->β}{cv':i->H->ag->j}{y:Option (bp ak β)}{k':β->Option (bp ak j)}{f:ak->ak}
  (h:aZ e r0 (m r F) cv y) (hm:∀op nd ds,m r F= .more op nd ds->op=[]) (hf:∀st,(f st).2.2.2.2.1=st.2.2.2.2.1\/(f st).2.2.2.2.1=e.op) (az:∀a an b,m r F= .ok a an b->an<:+r0->ed e an b->aZ e r0 (C (k a an b)) cv' (k' (cv a an b))):
  aZ e r0 (C (Eng.N m k r F)) cv' (a_ y f k'):=by
 unfold Eng.N;cases c:m r F with
 |ok a an b=>rw[c] at h;obtain⟨M,U,rfl⟩:=h;exact az a an b c M U
 |more op nd ds=>rw[c] at h;obtain⟨st,rfl,U⟩:=h;rw[d.more];have:=hm op nd ds c;subst this;refine⟨f st,rfl,?_⟩;grind
 |bad q=>rw[c] at h;obtain⟨M,st,rfl⟩:=h;rw[d.bad];exact⟨M,f st,rfl⟩
 |deep q=>rw[c] at h;obtain⟨p,st,rfl,l⟩:=h;rw[d.deep];exact⟨p,f st,rfl,l⟩
theorem ann{m:ab α}{op:bs}{nd:H}(h:m.aG x r F= .more op nd ds):∃a b,m r F= .more op a b:=by unfold ab.aG at h;grind
theorem aZ.res{α d f:Type}{C:dn α->dn d}(i:dg C){e:cN}{r0 r:H}{F:ag}{w x:H}{k:Unit->ab α}{cv:d->H->ag->f}{g:ak->ak}{K:ak->Option (bp ak f)}
  (j:0<w.length) (h:ed e r F) (h0:r<:+r0) (az:∀an,an<:+r->ed e an F->an.length<r.length->aZ e r0 (C (k () an F)) cv (K (e.st an F))) (bk:∀st,(g st).2.2.2.2.1=st.2.2.2.2.1\/(g st).2.2.2.2.1=e.op:=by intro _;first|exact .inl rfl|exact .inr rfl):
  aZ e r0 (C (Eng.N ((cI w).aG x) k r F)) cv (a_ (oF (e.st r F) w) g K):=by
 refine aZ.Uf i ((aZ.aG (x:=x) (JE w h)).mono h0) (λop nd ds b=>by obtain⟨_,_,b⟩:=ann b;exact Ue b) bk λa an l c M U=>?_;have:=Ud (hn.1 c);subst this;exact az an ((ae.res _).sfx (hn.1 c)) U (To j (hn.1 c))
theorem Ug(m:ab α):m.aG []=m:=by
 funext r F
 unfold ab.aG;cases m r F<;>rfl
theorem aZ.NU{a b:Type}{C:dn α->dn a}(c:dg C){e:cN}{w:H}{k:Unit->ab α}{cv:a->H->ag->b}{K:ak->Option (bp ak b)}
  (d:0<w.length) (h:ed e r F) (h0:r<:+r0) (az:∀an,an<:+r->ed e an F->an.length<r.length->aZ e r0 (C (k () an F)) cv (K (e.st an F))) (bk:∀st,(g st).2.2.2.2.1=st.2.2.2.2.1\/(g st).2.2.2.2.1=e.op:=by intro _;first|exact .inl rfl|exact .inr rfl):
  aZ e r0 (C (Eng.N (cI w) k r F)) cv (a_ (oF (e.st r F) w) g K):=by
 have:=aZ.res (x:=[]) c d h h0 az bk;grind[Ug]
theorem aZ.aaQ{e:cN}{w:H}{K:ak->Option (bp ak ak)}(h:ed e r F)(h0:r<:+r0)(d:∀an,K (e.st an F)=some (.inr (e.st an F)))(bk:∀st,(g st).2.2.2.2.1=st.2.2.2.2.1\/(g st).2.2.2.2.1=e.op:=by intro _;first|exact .inl rfl|exact .inr rfl):
  aZ e r0 (cI w r F) (λ_=>e.st) (a_ (oF (e.st r F) w) g K):=by
 have:=aZ.Uf (C:=λx=>x) (k:=λ_=>aU ()) (cv':=λ_=>e.st) (f:=g) (k':=K) dg.id ((JE w h).mono h0) (λop nd ds b=>Ue b) bk λa an i c M U=>⟨M,U,by rw[Ud c];grind⟩;grind[Ge]
theorem aZ.ano{e:cN}{w:H}{K:ak->Option (bp ak ak)}(h:ed e r F)(h0:r<:+r0)(d:∀an,K (e.st an F)=some (.inr (e.st an F)))(bk:∀st,(g st).2.2.2.2.1=st.2.2.2.2.1\/(g st).2.2.2.2.1=e.op:=by intro _;first|exact .inl rfl|exact .inr rfl):
  aZ e r0 (jr w r F) (λ_=>e.st) (a_ (tW (e.st r F) w) g K):=by
 have:=aZ.Uf (C:=λx=>x) (k:=λ_=>aU ()) (cv':=λ_=>e.st) (f:=g) (k':=K) dg.id ((Nz w h).mono h0) (λop nd ds b=>Ue b) bk λa an i c M U=>⟨M,U,by rw[Ud c];grind⟩;grind[Ge]
theorem aZ.ls{α d f:Type}{C:dn α->dn d}(i:dg C){R:bl}{n:Nat}(bm:o1 R n){e:cN}(bj:e.ne=30- (n:Int)){r0 r:H}{F:ag}{c:Ctx}{no:Bool}{x:H}{k:Nat->ab α}{cv:d->H->ag->f}{g:ak->ak}{K:Int×ak->Option (bp ak f)}
  (h:ed e r F) (h0:r<:+r0) (az:∀a an b,an<:+r->ed e an b->aZ e r0 (C (k a an b)) cv (K ((a:Int),e.st an b))) (bk:∀st,(g st).2.2.2.2.1=st.2.2.2.2.1:=by intro _;rfl) (j:c≠ .text:=by simp):
  aZ e r0 (C (Eng.N (((aW false n).ls c no).aG x) k r F)) cv (a_ (R.k5 (e.st r F) (Dw c) no) g K):=
 aZ.je i ((aZ.aG (x:=x) (bm.im e c no j bj r F h)).mono h0) bk λa an b l M U=>az a an b (((rW false n).ls c no).sfx (hn.1 l)) U
theorem aZ.lines{c d:Type}{C:dn α->dn c}(i:dg C){e:cN}{k:Bool->ab α}{cv:c->H->ag->d}{K:Bool×ak->Option (bp ak d)}
  (h:ed e r F) (h0:r<:+r0) (az:∀a an b,cQ r F= .ok a an b->an<:+r->ed e an b->aZ e r0 (C (k a an b)) cv (K (a,e.st an b))) (bk:∀st,(g st).2.2.2.2.1=st.2.2.2.2.1:=by intro _;rfl):
  aZ e r0 (C (Eng.N (cQ.aG x) k r F)) cv (a_ (mb (e.st r F)) g K):=
 aZ.je i ((aZ.aG (x:=x) (aap h)).mono h0) bk λa an b f M U=>az a an b (hn.1 f) (ae.lines.sfx (hn.1 f)) U
theorem aZ.Br{c d:Type}{C:dn α->dn c}(f:dg C){e:cN}{k:Bool->ab α}{cv:c->H->ag->d}{K:Bool×ak->Option (bp ak d)}
  (h:ed e r F) (h0:r<:+r0) (az:∀a an b,cQ r F= .ok a an b->an<:+r->ed e an b->aZ e r0 (C (k a an b)) cv (K (a,e.st an b))) (bk:∀st,(g st).2.2.2.2.1=st.2.2.2.2.1:=by intro _;rfl):
  aZ e r0 (C (Eng.N cQ k r F)) cv (a_ (mb (e.st r F)) g K):=by
 have:=aZ.lines (x:=[]) f h h0 az bk;grind[Ug]
theorem NV(hA:uw R n){e:cN}(bj:e.ne=30- (n:Int)):rf e (gS false (a9 false n)) (λ_=>e.st) (CR R):=by
 intro r F h;unfold gS CR;refine aZ.rep (en:=λ_ r F=>e.st r F) (λk s an m M az=>?_) bB () r F (ml (k1 (e1 h.sfx) h.b4)) h;unfold R_ a6;refine aZ.je dg.k (JN hA bj an m M) (λ_=>rfl) λb q j u U l=>?_;cases b with
 |true=>have aw:=tc (mO false n) u;rw[ba rfl];exact aZ.inl aw (az () q j U l aw)
 |false=>
  rw[aM (by simp)];dsimp only[cond_false];refine aZ.tst dg.k (lB e) l λa Y d f g=>?_;by_cases c:∃w p,ar a= .word w p
  ·obtain⟨w,p,c⟩:=c;rw[c];refine aZ.je dg.k ((NL hA bj f g c).mono (d.trans U)) (λ_=>rfl) λ_ B C v D E=>?_;have i:a≠[]:=by rintro rfl;grind[ar]
   have x:cV a=false:=by
    cases a with
    |nil=>grind
    |cons b t=>
     refine Jn ⟨w,p,c⟩ ?_;cases z:fV b with
     |false=>rfl
     |true=>rw[Ga z] at g;have:=(eV g).length_le;grind
   have aw:=wJ (mO false n) i x v;grind[aZ.inl]
  ·have A:decide ((jQ (ar a)).1=3)=false:=by grind[decide_eq_false_iff_not,NK]
   refine aZ.et (y:=some (.inr (e.st a j))) ?_ (by simp only[A,fp,aO];rfl);cases G:ar a with
   |word w p=>grind
   |op o=>simp only[fR,false_and,cZ];exact aZ.inr (d.trans U) f rfl
   |_=>exact aZ.inr (d.trans U) f rfl
theorem Gh(a b:UInt8):((a.toNat:Int)<=(b.toNat:Int))↔a<=b:=by simp[Ek]
theorem Uh(b:UInt8):((97:Int)<=(b.toNat:Int))↔97<=b:=Gh 97 b
theorem Ui(b:UInt8):((b.toNat:Int)<=122)↔b<=122:=Gh b 122
theorem aaR(b:UInt8):((65:Int)<=(b.toNat:Int))↔65<=b:=Gh 65 b
theorem aaS(b:UInt8):((b.toNat:Int)<=90)↔b<=90:=Gh b 90
theorem Uj(b:UInt8):((48:Int)<=(b.toNat:Int))↔48<=b:=Gh 48 b
theorem Uk(b:UInt8):((b.toNat:Int)<=57)↔b<=57:=Gh b 57
theorem aaT(b:UInt8):((b.toNat:Int)=95)↔b=95:=rZ (c:=95)
theorem anq(b:UInt8):Ma (b.toNat:Int)=some (decide (97<=b)&&decide (b<=122)):=by simp[Ma,CJ,ay,Uh,Ui]
theorem anr(b:UInt8):Mb (b.toNat:Int)=some (decide (65<=b)&&decide (b<=90)):=by simp[Mb,CJ,ay,aaR,aaS]
def Gi(first:Bool)(b:UInt8):Bool:=zw b||(!first&&cd b)
theorem NW{w:H}(c:w.length<=99999999){j:Unit->Option Bool}{k:Int->Option Bool}(Z:b::t<:+w):
  CK w j k (ax w (b::t))=(bif Gi (decide (b::t=w)) b then k (ax w t) else some false)/\C2 w j k (ax w (b::t))=(bif Gi (decide (b::t=w)) b then k (ax w t) else some false):=by
 have h0:decide (ax w (b::t)=0)=decide (b::t=w):=by
  by_cases h:b::t=w
  ·grind[Jz]
  ·have:ax w (b::t)≠0:=by intro U;refine h (Z.eq_of_length ?_);grind[ax]
   grind
 have a:=iW c Z;constructor
 ·unfold CK;simp only[nW Z,bz,aO];rw[b2 ⟨(ho Z).1,trivial⟩];simp only[jE Z,anq,anr,aaL,gI,h0,a,aaT];rw[aS rfl];unfold Gi zw;grind
 ·unfold C2;have bk:=ho Z;have d:0<=ax w (b::t)/\ax w (b::t)<(w.length:Int):=bk;simp only[nW Z,bz,aO,bk.1,om,implies_true];simp only[a4,c9,jE Z,h0,a,aaT,Uh,Ui,aaR,aaS,Uj,Uk];unfold Gi zw cd;grind
theorem ans{w:H}(a:w.length<=99999999){j:Unit->Option Bool}(h:j ()=some (!decide (w=[]))):∀(n:Nat)(r:H),r.length<n->r<:+w->r≠w->fixF (CK w j) n (ax w r)=some (r.all λc=>zw c||cd c)/\fixF (C2 w j) n (ax w r)=some (r.all λc=>zw c||cd c):=by
 intro n;induction n with
 |zero=>omega
 |succ n d=>
  intro r af Z bj;rw[fx,fx];cases r with
  |nil=>grind[CK,iC,C2]
  |cons b t=>
   have e:t≠w:=by grind
   obtain⟨f,g⟩:=d t (by grind) (dV Z) e;rw[(NW a Z).1,(NW a Z).2,f,g];grind[decide,Gi,zw,cd]
theorem zI(w:H)(a:w.length<=99999999):CL w=some (l3 w)/\C3 w=some (l3 w):=by
 have e:=Jz w
 have d:∀j:Unit->Option Bool,j ()=some (!decide (w=[]))->fixF (CK w j) bB 0=some (l3 w)/\fixF (C2 w j) bB 0=some (l3 w):=by
  intro j f
  obtain⟨n,af⟩:∃n,bB=n+1:=⟨bB-1,by rw[gM]⟩
  rw[af,fx,fx];cases w with
  |nil=>grind[CK,l3,C2]
  |cons b t=>
   have bj:t≠b::t:=by simp
   have c:t.length<n:=by grind[ml,List.length_cons,gM]
   obtain⟨g,h⟩:=ans a f n t c (eL b t) bj;rw[<-e,(NW a gr).1,(NW a gr).2,g,h];grind[Gi,l3,zw]
 constructor
 ·unfold CL a6;exact(d (λ_=>some (!(decide (w=[])))) rfl).1
 ·unfold C3 a6;refine(d (λ_=>some (decide (0<(w.length:Int)))) ?_).2;cases w<;>simp
section
variable(bm:o1 R n){e:cN}(bj:e.ne=30- (n:Int))
include bm bj
theorem Ul(x:H):rf e (h3 (aW false n) x) (λ_=>e.st) (vd R):=by intro r F h;unfold h3 vd;refine aZ.res (C:=λx=>x) dg.id (by decide) h gr λan s1 b _=>?_;refine aZ.ls (c:= .done) (C:=λx=>x) dg.id bm bj b s1 λa f g s2 d=>?_;exact aZ.aaQ d (s2.trans s1) λi=>rfl
theorem anu:rf e (q4 (aW false n)) (λ_=>e.st) (Fh R):=by
 intro r F h;unfold q4 Fh a6;refine aZ.rep (en:=λ_ r F=>e.st r F) (λk s an S M az=>?_) bB () r F (ml (k1 (e1 h.sfx) h.b4)) h;unfold RR;refine aZ.ls (c:= .rT) dg.k bm bj M gr λa T U s2 G=>?_;refine aZ.NU dg.k (by decide) G s2 λV C I W=>?_;refine aZ.ls (c:= .pL) dg.k bm bj I (C.trans s2) λa X D J K=>?_;dsimp only;refine aZ.tst dg.k (r1 e _) K λd L O j P=>?_;have i:=O.trans (J.trans (C.trans s2));dsimp only;by_cases he:cm (ar d) h_=true
 ·rw[ba he];have t:cm (ar d) [101,108,105,102]=true:=he;rw[t];simp only[aY,hU];refine aZ.NU dg.k (by decide) j i λu l v w=>?_;have aw:u.length<an.length:=by grind
  exact aZ.inl aw (az () u D (l.trans i) v aw)
 ·rw[aM he];have t:cm (ar d) [101,108,105,102]=false:=Hi.2 he;rw[t];simp only[aO,fp];have E:∀(f:Unit->ab (Unit⊕Unit))(g:H)(b:ag),g<:+an->ed e g b->aZ e an (dc f an (N (cI ea) (λ_=>aU (.inr ())) g b)) (λ_=>e.st)
    (a_ (oF (e.st g b) [102,105]) (λx=>(x.1,x.2.1,b,x.2.2.2.1,e.op,x.2.2.2.2.2)) λm=>some (.inr (m.1,m.2.1,b,m.2.2.2.1,e.op,m.2.2.2.2.2))):=by
   intro f g b o y;refine aZ.NU dg.k (by decide) y o λY z A Q=>?_;exact aZ.inr (z.trans o) A rfl
  have p:=(r1 e [101,108,115,101]).some j P;by_cases q:cm (ar d) gy=true
  ·rw[ba q];have B:cm (ar d) [101,108,115,101]=true:=q;rw[B] at p;refine aZ.et ?_ (fo p);dsimp only[cond_true];refine aZ.NU dg.k (by decide) j i λu l v w=>?_;refine aZ.ls (c:= .ko) dg.k bm bj v (l.trans i) λa g b o y=>?_;exact E _ g b (o.trans (l.trans i)) y
  ·rw[aM q];have B:cm (ar d) [101,108,115,101]=false:=Hi.2 q;rw[B] at p;refine aZ.et ?_ (fo p);dsimp only[cond_false];exact E _ d D i j
end
theorem zJ(Y:bg r=some r){w:H}{p:Bool}(a:ar r= .word w p):r≠[]/\cV r=false:=by
 cases r with
 |nil=>grind[ar]
 |cons b t=>
  refine⟨by simp,Jn ⟨w,p,a⟩ ?_⟩;cases c:fV b with
  |false=>rfl
  |true=>rw[Ga c] at Y;have:=(eV Y).length_le;grind
theorem anz{i j:Type}{C:dn α->dn i}(f:dg C){e:cN}{k:ab α}{cv:i->H->ag->j}{K:ak->Option (bp ak j)}(h:ed e r F)
  (az:∀an,an<:+r->ed e an F->aZ e r0 (C (k an F)) cv (K (e.st an F))) (bk:∀st,(g st).2.2.2.2.1=st.2.2.2.2.1\/(g st).2.2.2.2.1=e.op:=by intro _;first|exact .inl rfl|exact .inr rfl):
  aZ e r0 (C (Eng.N (bN x) (λt=>match t with
   | .eof=>b5 x
   | .word w true=>if l3 w then Eng.N (bV w.length) λ_=>k else b6
   |_=>b6) r F)) cv (a_ (tY (e.st r F)) g K):=by
 cases Y:bg r with
 |none=>rw[dx (jC Y),f.more];unfold tY;exact((((lB e).none h Y).bind λ_=> .inl rfl).bind bk).sA
 |some r'=>
  rw[aJ (bL Y)];have l:=eV Y;have b:=h.mono l;have n:=lz _ _ _ (cS _) Y;have hm:=(lB e).some h Y
  have c:∀(m:ab α),(ar r'= .eof->m=b5 x)->(ar r'≠ .eof->m=b6)->tY (e.st r F)=a_ (lJ (e.st r' F)) (λx=>x) (λy=>Empty.elim y)->aZ e r0 (C (m r' F)) cv (a_ (tY (e.st r F)) g K):=by
   intro m M U u;rw[u];by_cases a:ar r'= .eof
   ·rw[M a];unfold b5;rw[f.more];exact((((ur b n).1 a).bind λ_=> .inl rfl).bind bk).sA
   ·rw[U a];unfold b6;rw[f.bad];exact⟨b.sfx,_,gp (gp ((ur b n).2 a))⟩
  cases a:ar r' with
  |word w p=>
   cases p with
   |true=>
    have s:w.length<=99999999:=by have:=(q8 a).1.length_le;have:=e1 b.sfx;have:=h.b4;omega
    have v:=(q8 a).1;by_cases af:l3 w=true
    ·simp only;rw[ba af];have z:tY (e.st r F)=some (.inr (e.st (r'.drop w.length) F)):=by unfold tY a6;refine(fo hm).trans ?_;rw[a];simp only[jQ,bz,hU,aY];rw[(zI w s).1,gI,ba trivial,af];show some (Sum.inr (e.S,W (ax e.S r'+(w.length:Int)),F,e.ne,e.op,e.kD))=_;obtain⟨q,rfl⟩:=v;rw[pq,kY h.b4 b.sfx];rfl
     rw[z,fo rfl];exact az _ ((iI _ _).trans l) (b.mono (iI _ _))
    ·simp only;rw[aM af];refine c b6 (λd=>by grind) (λ_=>rfl) ?_;unfold tY a6;refine(fo hm).trans ?_;rw[a];simp only[jQ,bz,hU,aY];have A:l3 w=false:=by grind
     rw[(zI w s).1,gI,ba trivial,A];rfl
   |false=>refine c b6 (λd=>by grind) (λ_=>rfl) ?_;unfold tY a6;refine(fo hm).trans ?_;rw[a];rfl
  |eof=>refine c (b5 x) (λ_=>rfl) (λd=>absurd a d) ?_;unfold tY a6;refine(fo hm).trans ?_;rw[a];rfl
  |line=>refine c b6 (λd=>by grind) (λ_=>rfl) ?_;unfold tY a6;refine(fo hm).trans ?_;rw[a];rfl
  |op o=>refine c b6 (λd=>by grind) (λ_=>rfl) ?_;unfold tY a6;refine(fo hm).trans ?_;rw[a];rfl
noncomputable def DC:ak->Option (bp ak ak):=λy=>a_ (oD y [59]) (λx=>(x.1,x.2.1,y.2.2.1,x.2.2.2.1,y.2.2.2.2.1,x.2.2.2.2.2)) λz=>bif z.1 then some (.inr (z.2.1,W (z.2.2.1+1),y.2.2.1,z.2.2.2.2.1,y.2.2.2.2.1,z.2.2.2.2.2.2)) else
 a_ (mI (z.2.1,z.2.2.1,y.2.2.1,z.2.2.2.2.1,y.2.2.2.2.1,z.2.2.2.2.2.2)) (λx=>(x.1,x.2.1,y.2.2.1,x.2.2.2.1,y.2.2.2.2.1,x.2.2.2.2.2)) λu=>bif !(decide (u.1.1=1)) then a_ (lJ (u.2.1,u.2.2.1,y.2.2.1,u.2.2.2.2.1,y.2.2.2.2.1,u.2.2.2.2.2.2)) (λx=>(x.1,x.2.1,y.2.2.1,x.2.2.2.1,y.2.2.2.2.1,x.2.2.2.2.2)) (λy=>Empty.elim y)
  else some (.inr (u.2.1,u.2.2.1,y.2.2.1,u.2.2.2.2.1,y.2.2.2.2.1,u.2.2.2.2.2.2))
section
variable(hA:uw R n){e:cN}(bj:e.ne=30- (n:Int))
include hA bj
theorem anA:
  ∀(r:H)(F:ag),ed e r F->aZ e r (oL (a9 false n) r F) (λ_=>e.st) (fixF (wy R DC) bB (e.st r F)):=by
 intro r F h;unfold oL;refine aZ.rep (en:=λ_ r F=>e.st r F) (λk s an c M az=>?_) bB () r F (ml (k1 (e1 h.sfx) h.b4)) h;unfold wy DC;refine aZ.tst dg.k (lB e) M λa Y s2 b g=>?_;dsimp only;by_cases i:∃w p,ar a= .word w p
 ·obtain⟨w,p,i⟩:=i;rw[i];simp only[jQ,bz,aO];refine aZ.je dg.k ((NL hA bj b g i).mono s2) (λ_=>rfl) λ_ B K C L O=>?_;obtain⟨D,E⟩:=zJ g i;have aw:B.length<an.length:=by have:=wJ (mO false n) D E C;grind
  grind[aZ.inl]
 ·have G:decide ((jQ (ar a)).1=3)=false:=by grind[decide_eq_false_iff_not,NK]
  simp only[G,aY];refine aZ.et ?_ (fo ((sB e [59]).some b g));dsimp only;have ah:=(lB e).some b g;have l:∀(m:ab (Unit⊕Unit))(f:Unit->ab (Unit⊕Unit)),ar a≠ .line->ar a≠ .op [59]->(ar a= .eof->m=b5 [])->(ar a≠ .eof->m=b6)->aZ e an (dc f an (m a c)) (λ_=>e.st)
    (a_ (mI (e.st a c)) (λx=>(x.1,x.2.1,c,x.2.2.2.1,e.op,x.2.2.2.2.2)) λu=>bif !(decide (u.1.1=1)) then a_ (lJ (u.2.1,u.2.2.1,c,u.2.2.2.2.1,e.op,u.2.2.2.2.2.2)) (λx=>(x.1,x.2.1,c,x.2.2.2.1,e.op,x.2.2.2.2.2)) (λy=>Empty.elim y) else some (.inr (u.2.1,u.2.2.1,c,u.2.2.2.2.1,e.op,u.2.2.2.2.2.2))):=by
   intro m f P Q I J;refine aZ.et ?_ (fo ah);have:decide ((jQ (ar a)).1=1)=false:=by
    rw[Ho];cases d:ar a with
    |line=>grind
    |_=>simp[jQ]
   simp only[this,fp,aO];by_cases d:ar a= .eof
   ·rw[I d];exact(((ur b g).1 d).bind λ_=> .inr rfl).sA
   ·rw[J d];exact⟨b.sfx,_,gp ((ur b g).2 d)⟩
  cases d:ar a with
  |word w p=>grind
  |eof=>
   have:=l (b5 []) (λ_=>N (bN []) λt=>match t with
    | .eof=>b5 []
    | .word _ _=>N (cR (a9 false n)) λ_=>aU (.inl ())
    | .line=>aU (.inr ())
    | .op o=>if o=[59] then N (bV 1) λ_=>aU (.inr ()) else b6) (by grind) (by grind) (λ_=>rfl) (λv=>absurd d v)
   exact this
  |line=>
   refine aZ.et (y:=some (.inr (e.st a c))) ?_ ?_
   ·exact aZ.inr s2 b rfl
   ·have j:((Tok.line==Tok.op [59]):Bool)=false:=by simp
    rw[j];simp only[aY];refine(fo ah).trans ?_;rw[d];rfl
  |op o=>
   by_cases z:o=[59]
   ·subst z;simp only[beq_self_eq_true,aO,c9];obtain⟨q,rfl⟩:=(ib d).2.1;have A:q<:+[59]++q:=gq [59] q;refine aZ.et (y:=some (.inr (e.st q c))) ?_ ?_
    ·exact aZ.inr (A.trans s2) (b.mono A) rfl
    ·show some (Sum.inr (e.S,W (ax e.S ([59]++q)+1),c,e.ne,e.op,e.kD))=_;have:=kY (w:=[59]) (t:=q) b.b4 b.sfx;rw[show(([59]:H).length:Int)=1 from rfl] at this;rw[this];rfl
   ·have j:((Tok.op o==Tok.op [59]):Bool)=false:=by grind
    rw[j];simp only[aY,aM z];exact l b6 _ (by grind) (by grind) (λv=>by grind) (λ_=>rfl)
end
theorem pf{τ β b:Type}{m:Option (bp σ α)}{f:σ->τ}{k:α->Option (bp τ β)}{K:β->Option (bp τ b)}:a_ (a_ m f k) (λx=>x) K=a_ m f (λa=>a_ (k a) (λx=>x) K):=by unfold a_;grind
theorem aaV{R:bl}{nx:ak->Option (bp ak ak)}{K:ak->Option (bp ak ak)}:∀(n:Nat)(x:ak),fixF (wy R λy=>a_ (nx y) (λx=>x) K) n x=a_ (fixF (wy R nx) n x) (λx=>x) K
 |0,x=>rfl
 |n+1,x=>by
  rw[fx,fx];have a:=aaV (R:=R) (nx:=nx) (K:=K) n;generalize fixF (wy R λy=>a_ (nx y) (λx=>x) K) n=b at a;generalize fixF (wy R nx) n=c at a;unfold wy;dsimp only;rw[pf];congr 1
  funext y
  cases decide (y.1.1=3) with
  |true=>simp_all[aO,pf]
  |false=>rfl
theorem aZ.aaW{β b:Type}{m:ab α}{k:α->ab β}{e:cN}{cv:β->H->ag->b}{y:Option (bp ak b)}(h:aZ e r0 (Eng.N m k r F) cv y):aZ e r0 (Eng.N (m.aG x) k r F) cv y:=by
 unfold Eng.N ab.aG at*;cases hm:m r F with
 |ok a an c=>grind
 |more op nd ds=>rw[hm] at h;exact h
 |bad q=>grind
 |deep q=>rw[hm] at h;exact h
theorem anB(K:ak->Option (bp ak ak))(y:ak):a_ (DC y) (λx=>x) K=a_ (oD y [59]) (λx=>(x.1,x.2.1,y.2.2.1,x.2.2.2.1,y.2.2.2.2.1,x.2.2.2.2.2)) λz=>bif z.1 then K (z.2.1,W (z.2.2.1+1),y.2.2.1,z.2.2.2.2.1,y.2.2.2.2.1,z.2.2.2.2.2.2) else
   a_ (mI (z.2.1,z.2.2.1,y.2.2.1,z.2.2.2.2.1,y.2.2.2.2.1,z.2.2.2.2.2.2)) (λx=>(x.1,x.2.1,y.2.2.1,x.2.2.2.1,y.2.2.2.2.1,x.2.2.2.2.2)) λu=>bif !(decide (u.1.1=1)) then a_ (lJ (u.2.1,u.2.2.1,y.2.2.1,u.2.2.2.2.1,y.2.2.2.2.1,u.2.2.2.2.2.2)) (λx=>(x.1,x.2.1,y.2.2.1,x.2.2.2.1,y.2.2.2.2.1,x.2.2.2.2.2)) (λy=>Empty.elim y)
    else K (u.2.1,u.2.2.1,y.2.2.1,u.2.2.2.2.1,y.2.2.2.2.1,u.2.2.2.2.2.2):=by
 unfold DC;rw[pf];congr 1
 funext z
 cases z.1 with
 |true=>rfl
 |false=>
  simp only[aY];rw[pf];congr 1
  funext u
  cases decide (u.1.1=1) with
  |true=>rfl
  |false=>simp only[fp,aO];grind[pf,Empty.elim]
theorem anC(hA:uw R n)(bm:o1 R n){e:cN}(bj:e.ne=30- (n:Int)):rf e (pM (aW false n) (a9 false n)) (λ_=>e.st) (Ff R):=by
 intro r F h;unfold Ff;refine anz (C:=λx=>x) dg.id h λan s1 E=>?_;refine aZ.aaW ?_;rw[lg];refine aZ.tst (C:=λx=>x) dg.id (sB e [59]) E λk V s2 g X=>?_;dsimp only;rw[zB];by_cases l:ar k= .op [59]
 ·rw[ba l];have m:((ar k==Tok.op [59]):Bool)=true:=by grind
  rw[m];simp only[aO];obtain⟨q,rfl⟩:=(ib l).2.1;have o:q<:+[59]++q:=gq [59] q;have G:W (ax e.S ([59]++q)+1)=ax e.S q:=kY (w:=[59]) g.b4 g.sfx;rw[lg];show aZ e r (N (N cQ λ_=>aU ()) (λ_=>h3 (aW false n) dY) q F) _ (a_ (mb (e.S,W (ax e.S ([59]++q)+1),F,e.ne,e.op,e.kD)) _ _);rw[G,lg];refine aZ.Br (C:=λx=>x) dg.id (g.mono o) (o.trans (s2.trans s1)) λb p c _ s t=>?_;dsimp only;refine aZ.et ((Ul bm bj _ p c t).mono (s.trans (o.trans (s2.trans s1)))) ?_;generalize vd R (e.st p c)=y;unfold a_;grind
 ·rw[aM l];have m:((ar k==Tok.op [59]):Bool)=false:=by grind
  rw[m];simp only[aY];rw[lg];refine aZ.Br (C:=λx=>x) dg.id g (s2.trans s1) λb p c _ s t=>?_;dsimp only;unfold a6
  have A:∀a d,a<:+r->ed e a d->aZ e r (h3 (aW false n) dY a d) (λ_=>e.st) (a_ (vd R (e.st a d)) (λx=>x) λy=>some (.inr y)):=by intro a d i f;refine aZ.et ((Ul bm bj _ a d f).mono i) ?_;generalize vd R (e.st a d)=y;unfold a_;grind
  have B:=s.trans (s2.trans s1);rw[lg];refine aZ.tst (C:=λx=>x) dg.id (r1 e _) t λa Y i f H=>?_;dsimp only;rw[zB];by_cases j:cm (ar a) eb=true
  ·rw[ba j];have u:cm (ar a) [105,110]=true:=j;rw[u];simp only[aO];have v:ar a= .word [105,110] true:=by grind[cm]
   have I:oF (e.st a c) [105,110]=some (.inr (e.st (a.drop 2) c)):=by
    have:=JE [105,110] f;have J:cI [105,110] a c= .ok () (a.drop 2) c:=by unfold cI mL;rw[aJ (bL H),v];rfl
    rw[J] at this;exact this.2.2
   refine aZ.et ?_ (fo I);have aB:a.drop 2<:+a:=iI _ _;rw[lg];show aZ e r (N (N (oL (a9 false n)) λ_=>N cQ λ_=>aU ()) (λ_=>h3 (aW false n) dY) (a.drop 2) c) _ _;rw[lg]
   have L:∀(nx K:ak->Option (bp ak ak))(x:ak),(∀y,nx y=a_ (DC y) (λx=>x) K)->fixF (wy R nx) bB x=a_ (fixF (wy R DC) bB x) (λx=>x) K:=by intro nx K x M;have:nx=λy=>a_ (DC y) (λx=>x) K:=funext M;grind[aaV]
   refine aZ.et ?_ (L _ (λz=>a_ (mb z) (λx=>x) λy=>a_ (vd R y.2) (λx=>x) λy=>some (.inr y)) _ (λy=>(anB (λz=>a_ (mb z) (λx=>x) λy=>a_ (vd R y.2) (λx=>x) λy=>some (.inr y)) y).symm));have O:=aB.trans (i.trans B);refine aZ.je (C:=λx=>x) dg.id ((anA hA bj (a.drop 2) c (f.mono aB)).mono O) (λ_=>rfl) λ_ Z mD _ D P=>?_;rw[lg];refine aZ.Br (C:=λx=>x) dg.id P D λb Q S _ T U=>?_;exact A Q S (T.trans D) U
  ·rw[aM j];have u:cm (ar a) [105,110]=false:=Hi.2 j;rw[u];simp only[aY];exact A a c (i.trans B) f
theorem aaX{nx K:ak->Option (bp ak ak)}{L:(ak->Option (bp ak ak))->(ak->Option (bp ak ak))->ak->Option (bp ak ak)}
  (bm:∀(a b:ak->Option (bp ak ak)),(∀x,a x=a_ (b x) (λx=>x) K)->∀x,L (λy=>a_ (nx y) (λx=>x) K) a x=a_ (L nx b x) (λx=>x) K):
  ∀(n:Nat)(x:ak),fixF (L λy=>a_ (nx y) (λx=>x) K) n x=a_ (fixF (L nx) n x) (λx=>x) K
 |0,x=>rfl
 |n+1,x=>by rw[fx,fx];exact bm _ _ (aaX bm n) x
noncomputable def zK:ak->Option (bp ak ak):=λy=>a_ (tW y [41]) (λx=>(x.1,x.2.1,y.2.2.1,x.2.2.2.1,y.2.2.2.2.1,x.2.2.2.2.2)) λz=>some (.inr (z.1,z.2.1,y.2.2.1,z.2.2.2.1,y.2.2.2.2.1,z.2.2.2.2.2))
section
variable(hA:uw R n){e:cN}(bj:e.ne=30- (n:Int))
include hA bj
theorem anE{s u:Type}{C:dn α->dn s}(f:dg C){y:H}{k:Unit->ab α}{cv:s->H->ag->u}{K:ak->Option (bp ak u)}(h:ed e r F)(h0:r<:+r0)
  (az:∀an j,an<:+r->an.length<r.length->ed e an j->aZ e r0 (C (k () an j)) cv (K (e.st an j))):
  aZ e r0 (C (Eng.N (bN x) (λt=>match t with
   | .eof=>b5 x
   | .word _ _=>Eng.N ((cR (a9 false n)).aG y) k
   |_=>b6) r F)) cv (a_ (mf R (e.st r F)) (λx=>x) K):=by
 have b:=(T1 hA bj x r F h).mono h0;unfold jP at b;unfold Eng.N at b⊢;cases ah:bN x r F with
 |ok t an j=>
  rw[ah] at b;simp only at b⊢;obtain⟨m,rfl,rfl⟩:=JI ah;have v:=lz _ _ _ (cS _) m;cases l:ar an with
  |word w p=>
   rw[l] at b;simp only at b⊢;unfold ab.aG;cases i:cR (a9 false n) an j with
   |ok a z A=>rw[i] at b;obtain⟨c,d,B⟩:=b;rw[fo B];obtain⟨D,E⟩:=zJ v l;have G:=wJ (mO false n) D E i;have I:=(eV m).length_le;exact az z A (((ae.word (mO false n)).sfx i).trans (eV m)) (by omega) d
   |more op nd ds=>rw[i] at b;obtain⟨st,c,d⟩:=b;simp only;rw[f.more];exact⟨st,gp c,d⟩
   |bad q=>rw[i] at b;obtain⟨g,st,c⟩:=b;simp only;rw[f.bad];exact⟨g,st,gp c⟩
   |deep q=>rw[i] at b;obtain⟨p,st,c,d⟩:=b;simp only;rw[f.deep];exact⟨p,st,gp c,d⟩
  |eof=>rw[l] at b;unfold b5 at b⊢;simp only at b⊢;obtain⟨st,c,d⟩:=b;rw[f.more];exact⟨st,gp c,d⟩
  |line=>rw[l] at b;unfold b6 at b⊢;obtain⟨g,st,c⟩:=b;simp only;rw[f.bad];exact⟨g,st,gp c⟩
  |op o=>rw[l] at b;unfold b6 at b⊢;obtain⟨g,st,c⟩:=b;simp only;rw[f.bad];exact⟨g,st,gp c⟩
 |more op nd ds=>rw[ah] at b;obtain⟨st,c,d⟩:=b;simp only;rw[f.more];exact⟨st,gp c,d⟩
 |bad q=>rw[ah] at b;obtain⟨g,st,c⟩:=b;simp only;rw[f.bad];exact⟨g,st,gp c⟩
 |deep q=>rw[ah] at b;obtain⟨p,st,c,d⟩:=b;simp only;rw[f.deep];exact⟨p,st,gp c,d⟩
theorem anF:rf e (lb (a9 false n)) (λ_=>e.st) (λx=>a_ (mf R x) (λx=>x) λy=>fixF (wx R zK) bB y):=by
 have j:∀(bF:Nat)(r:H)(F:ag),r.length<bF->ed e r F->aZ e r (lb (a9 false n) r F) (λ_=>e.st) (a_ (mf R (e.st r F)) (λx=>x) λy=>fixF (wx R zK) bF y):=by
  intro bF;induction bF with
  |zero=>omega
  |succ bF A=>
   intro r F Q h;unfold lb;rw[cL];refine anE hA bj dg.k h gr λan b s1 S D=>?_;rw[fx];generalize az:fixF (wx R zK) bF=k at A;unfold wx zK;refine aZ.tst dg.k (sB e [124]) D λa T s2 g B=>?_;dsimp only;have l:=s2.trans s1;have s:∀(m:ab (Unit⊕Unit))(f:Unit->ab (Unit⊕Unit))(c:Bool),ar a≠ .op [41]->c=false->(ar a= .eof->m=b5 [41])->(ar a≠ .eof->m=b6)->aZ e r (dc f r (m a b)) (λ_=>e.st)
     (bif c then a_ (mf R (e.S,W (ax e.S a+1),b,e.ne,e.op,e.kD)) (λx=>x) (λy=>k y) else a_ (tW (e.st a b) [41]) (λx=>(x.1,x.2.1,b,x.2.2.2.1,e.op,x.2.2.2.2.2)) λz=>some (.inr (z.1,z.2.1,b,z.2.2.2.1,e.op,z.2.2.2.2.2))):=by
    intro m f c E G I J;subst G;simp only[aY];have i:=Nz [41] g;have bj:∀q,ar a=q->q≠ .op [41]:=λq t=>t▸E
    unfold jr mL at i;rw[aJ (bL B)] at i;by_cases d:ar a= .eof
    ·rw[I d];rw[ba d] at i;obtain⟨st,v,V⟩:=i;exact⟨_,gp v,by simp⟩
    ·rw[J d];rw[aM d,aM (by grind)] at i;obtain⟨K,st,v⟩:=i;exact⟨K,_,gp v⟩
   cases d:ar a with
   |word w p=>exact s b6 _ _ (by grind) (by simp) (λu=>by grind) (λ_=>rfl)
   |eof=>exact s (b5 [41]) _ _ (by grind) (by simp) (λ_=>rfl) (λu=>absurd d u)
   |line=>exact s b6 _ _ (by grind) (by simp) (λu=>by grind) (λ_=>rfl)
   |op o=>
    by_cases M:o=[124]
    ·subst M;simp only[beq_self_eq_true,aO,c9];obtain⟨q,rfl⟩:=(ib d).2.1;have t:q<:+[124]++q:=gq [124] q;have L:W (ax e.S ([124]++q)+1)=ax e.S q:=kY (w:=[124]) g.b4 g.sfx;have aw:q.length<r.length:=by grind
     have bh:=A q b (by omega) (g.mono t);show aZ e r (dc _ r (N (bV 1) (λ_=>aU (.inl ())) ([124]++q) b)) _ (a_ (mf R (e.S,W (ax e.S ([124]++q)+1),b,e.ne,e.op,e.kD)) _ _);rw[L];exact aZ.inl aw (bh.mono (t.trans l))
    ·by_cases U:o=[41]
     ·subst U;have O:((Tok.op [41]==Tok.op [124]):Bool)=false:=by simp
      rw[O];simp only[aY,c9,show¬(([41]:H)=[124]) by decide,cZ];obtain⟨C,P⟩:=aax g B d;refine aZ.et (y:=some (.inr (e.st (a.drop 1) b))) ?_ ?_
      ·exact aZ.inr (C.trans l) (g.mono C) rfl
      ·exact(fo P).trans rfl
     ·simp only[aM M,aM U];exact s b6 _ _ (by grind) (by grind) (λu=>by grind) (λ_=>rfl)
 intro r F h;exact j bB r F (ml (k1 (e1 h.sfx) h.b4)) h
end
def JQ(l:dD)(D:ab Unit):ab (Unit⊕Unit):=N (bN []) λt=>if t= .eof then b5 [] else if cm t dt then N (bV 4) λ_=>aU (.inr ()) else
 N ((if t= .op [40] then bV 1 else aU ())) λ_=>N (lb D) λ_=>N (l.ls .item true) λ_=>N (bN []) λt=>if t= .op [59,59] then N (bV 2) λ_=>aU (.inl ()) else aU (.inl ())
def vD(l:dD)(D:ab Unit):Unit->ab (Unit⊕Unit):=λ_=>N cQ λ_=>JQ l D
theorem anG(l:dD)(D:ab Unit):nn l D=cD (vD l D) ():=rfl
noncomputable def JR:ak->Option (bp ak ak):=λy=>a_ (oF y dt) (λx=>(x.1,x.2.1,y.2.2.1,x.2.2.2.1,y.2.2.2.2.1,x.2.2.2.2.2)) λz=>some (.inr (z.1,z.2.1,y.2.2.1,z.2.2.2.1,y.2.2.2.2.1,z.2.2.2.2.2))
theorem NX(Y:bg r=some r)(a:ar r≠ .line):cQ r F= .ok false r F:=by rw[uo,cL,sw Y a];rfl
theorem Bt(fr:Bool)(n:Nat):∃cX,(aW fr n).ls=λc no=>np cX c no:=by
 cases n with
 |zero=>exact⟨_,rfl⟩
 |succ n=>exact⟨_,rfl⟩
theorem anH{e:cN}{v:H}{w:H}(h:ed e v F)(Y:bg v=some v)(b:ar v= .word w true):cI w v F= .ok () (v.drop w.length) F/\v.drop w.length<:+v/\oF (e.st v F) w=some (.inr (e.st (v.drop w.length) F)):=by
 have a:cI w v F= .ok () (v.drop w.length) F:=by unfold cI mL;rw[aJ (bL Y),b];simp[cm,bV]
 have:=JE w h;rw[a] at this;exact⟨a,this.1,this.2.2⟩
theorem DD(y:Option (bp σ α)):a_ y (λx=>x) (λa=>some (.inr a))=y:=by unfold a_;grind
section
variable(hA:uw R n)(bm:o1 R n){e:cN}(bj:e.ne=30- (n:Int))
include hA bm bj
theorem anI:∀(bF:Nat)(r0 r:H)(F:ag),r<:+r0->r.length<bF->ed e r F->aZ e r0 (dc (vD (aW false n) (a9 false n)) r0 (JQ (aW false n) (a9 false n) r F)) (λ_=>e.st) (fixF (Iq R JR) bF (e.st r F)):=by
 intro bF;induction bF with
 |zero=>omega
 |succ bF T=>
  intro r0 r F G eG h;rw[fx];generalize fixF (Iq R JR) bF=k at T;unfold Iq a6;unfold JQ;refine aZ.tst dg.k (r1 e _) h λan q6 s1 l I=>?_;dsimp only;have o:=s1.trans G
  have p:∀(c:H)(C:ag),c<:+r0->ed e c C->bg c=some c->cm (ar c) dt=true->aZ e r0 (dc (vD (aW false n) (a9 false n)) r0 (N (bV 4) (λ_=>aU (.inr ())) c C)) (λ_=>e.st) (JR (e.st c C)):=by
   intro c C s2 D i2 ao;have vB:ar c= .word dt true:=by grind[cm]
   obtain⟨_,V,aV⟩:=anH D i2 vB;unfold JR;rw[fo aV];exact aZ.inr (V.trans s2) (D.mono V) rfl
  by_cases he:cm (ar an) dt=true
  ·have af:ar an≠ .eof:=by intro s;rw[s] at he;cases he
   have J:cm (ar an) [101,115,97,99]=true:=he;rw[aM af,ba he,J];simp only[hU,aY];exact p an F o l I he
  have J:cm (ar an) [101,115,97,99]=false:=Hi.2 he;rw[J,aM he];simp only[fp,aO];refine aZ.et ?_ (fo ((sB e [40]).some l I));dsimp only;have X:∀c,c<:+an->ed e c F->aZ e r0 (dc (vD (aW false n) (a9 false n)) r0 (N (lb (a9 false n)) (λ_=>N ((aW false n).ls .item true) λ_=>N (bN []) λt=>if t= .op [59,59] then N (bV 2) λ_=>aU (.inl ()) else aU (.inl ())) c F)) (λ_=>e.st)
    (a_ (mf R (e.st c F)) (λx=>x) λy=>fixF (wx R (λy=>a_ (zK y) (λx=>x) λCG=>(a_ (R.k5 CG 8 true) (λx=>x) λ(Yp,i)=>(a_ (oD i ([59,59]:H)) (λx=>(x.1,x.2.1,i.2.2.1,x.2.2.2.1,i.2.2.2.2.1,x.2.2.2.2.2)) λ(CH,f)=>(bif(!CH) then JR (f.1,f.2.1,i.2.2.1,f.2.2.2.1,i.2.2.2.2.1,f.2.2.2.2.2) else(a_ (mb (f.1,(W (f.2.1+2)),i.2.2.1,f.2.2.2.1,i.2.2.2.2.1,f.2.2.2.2.2)) (λx=>x) λ(Yq,m)=>k (m.1,m.2.1,m.2.2.1,m.2.2.2.1,m.2.2.2.2.1,m.2.2.2.2.2))))))) bB y):=by
   intro c s2 D
   have a2:∀(K:ak->Option (bp ak ak)),(a_ (mf R (e.st c F)) (λx=>x) λy=>fixF (wx R (λy=>a_ (zK y) (λx=>x) K)) bB y)=a_ (a_ (mf R (e.st c F)) (λx=>x) λy=>fixF (wx R zK) bB y) (λx=>x) K:=by
    intro K;rw[pf];congr 1
    funext y
    refine aaX (L:=wx R) (λbT bX az x=>?_) bB y;unfold wx;dsimp only;rw[pf];congr 1
    funext z
    cases z.1 with
    |true=>simp_all[aO,pf]
    |false=>rfl
   rw[a2];refine aZ.je dg.k ((anF hA bj c F D).mono (s2.trans o)) (λ_=>rfl) λ_ E b9 NY jf fi=>?_;have JG:=Tq (mO false n) NY;have au5:E.length<r.length:=by grind
   have au6:E.length<r0.length:=by grind
   obtain⟨cX,eW⟩:=Bt false n;have Xi:=bm.im e .item true (by simp) bj E b9 fi;refine aZ.je dg.k (Xi.mono jf) (λ_=>rfl) λa d g M Y u=>?_;dsimp only;have au7:=((rW false n).ls .item true).sfx M;rw[eW] at M;obtain⟨v,t4⟩:=x1 (by simp) M;rw[aJ (bL v)];refine aZ.et ?_ (fo ((sB e [59,59]).some u v));dsimp only;by_cases U:ar d= .op [59,59]
   ·rw[ba U];have j:((ar d==Tok.op [59,59]):Bool)=true:=by grind
    rw[j];simp only[hU,aY];obtain⟨q,rfl⟩:=(ib U).2.1;have A:q<:+[59,59]++q:=gq [59,59] q;have O:W (ax e.S ([59,59]++q)+2)=ax e.S q:=kY (w:=[59,59]) u.b4 u.sfx;have au8:q.length<E.length:=by grind
    show aZ e r0 (dc _ r0 (.ok (.inl ()) q g)) _ (a_ (mb (e.S,W (ax e.S ([59,59]++q)+2),g,e.ne,e.op,e.kD)) _ _);rw[O];have P:=u.mono A;have Q:dc (vD (aW false n) (a9 false n)) r0 (.ok (.inl ()) q g)=cD (vD (aW false n) (a9 false n)) () q g:=by show(if q.length<r0.length then _ else _)=_;grind
    rw[Q,cL];refine aZ.mono ?_ ((A.trans Y));unfold vD;refine aZ.Br dg.k P gr λb fj mD _ og m6=>?_;exact T q fj mD og (by grind) m6
   ·rw[aM U];have j:((ar d==Tok.op [59,59]):Bool)=false:=by grind
    rw[j];simp only[fp,aO];have B:cm (ar d) dt=true:=by grind[dC]
    have Z:ar d≠ .line/\ar d≠ .eof:=by grind[ar,dt,cm]
    have oh:d.length<r0.length:=by grind
    have Q:dc (vD (aW false n) (a9 false n)) r0 (aU (.inl ()) d g)=dc (vD (aW false n) (a9 false n)) d (N (bV 4) (λ_=>aU (.inr ())) d g):=by show(if d.length<r0.length then _ else _)=_;rw[ba oh,cL];congr 1;show N cQ (λ_=>JQ (aW false n) (a9 false n)) d g=_;rw[aJ (NX v Z.1)];unfold JQ;rw[aJ (bL v),aM Z.2,ba B]
    rw[Q];have:=p d g Y u v B;exact this
  by_cases ah:ar an= .op [40]
  ·have j:((ar an==Tok.op [40]):Bool)=true:=by grind
   rw[ba ah,aM (by grind),j];simp only[cond_true];obtain⟨q,rfl⟩:=(ib ah).2.1;have A:q<:+[40]++q:=List.suffix_append [40] q;have O:W (ax e.S ([40]++q)+1)=ax e.S q:=kY (w:=[40]) l.b4 l.sfx;have:=X q A (l.mono A);show aZ e r0 (dc _ r0 (N (lb (a9 false n)) _ q F)) _ (a_ (mf R (e.S,W (ax e.S ([40]++q)+1),F,e.ne,e.op,e.kD)) _ _);rw[O];refine aZ.et this ?_;congr 1
   funext y
   congr 2
   funext z
   unfold zK;rw[pf];rfl
  ·have j:((ar an==Tok.op [40]):Bool)=false:=by grind
   rw[j];simp only[aY];have S:=X an gr l;have bw:∀(y eR:Option (bp ak ak)),eR=y->aZ e r0 (dc (vD (aW false n) (a9 false n)) r0 (N (lb (a9 false n)) (λ_=>N ((aW false n).ls .item true) λ_=>N (bN []) λt=>if t= .op [59,59] then N (bV 2) λ_=>aU (.inl ()) else aU (.inl ())) an F)) (λ_=>e.st) y->
     aZ e r0 (dc (vD (aW false n) (a9 false n)) r0 ((if ar an= .eof then b5 [] else N (if ar an= .op [40] then bV 1 else aU ()) λ_=>N (lb (a9 false n)) λ_=>N ((aW false n).ls .item true) λ_=>N (bN []) λt=>if t= .op [59,59] then N (bV 2) λ_=>aU (.inl ()) else aU (.inl ()):ab (Unit⊕Unit)) an F)) (λ_=>e.st) eR:=by
    rintro y _ rfl s;by_cases hf:ar an= .eof
    ·rw[ba hf]
     have ah:∃nd ds,lb (a9 false n) an F= .more [] nd ds:=by unfold lb;rw[cL,aJ (bL I),hf];exact⟨_,_,rfl⟩
     obtain⟨nd,ds,ah⟩:=ah;rw[dx ah] at s;exact s
    ·rw[aM hf,aM ah];exact s
   refine bw _ _ ?_ S;congr 1
   funext y
   congr 2
   funext z
   unfold zK;rw[pf];rfl
theorem anM:rf e (q5 (aW false n) (a9 false n)) (λ_=>e.st) (Fc R):=by
 intro r F h;unfold Fc;have a:=T1 hA bj ([120,32]++eb++[10]++dt) r F h;unfold q5;unfold jP at a;cases ah:bN ([120,32]++eb++[10]++dt) r F with
 |more op nd ds=>rw[dx ah] at a⊢;obtain⟨st,c,g⟩:=a;exact⟨st,gp c,g⟩
 |bad q=>rw[hS ah] at a⊢;obtain⟨f,st,c⟩:=a;exact⟨f,st,gp c⟩
 |deep q=>unfold bN at ah;split at ah<;>cases ah
 |ok t an J=>
  rw[aJ ah] at a⊢;obtain⟨y,rfl,rfl⟩:=JI ah;have s1:=eV y;cases j:ar an with
  |eof=>rw[j] at a;obtain⟨st,c,g⟩:=a;exact⟨st,gp c,g⟩
  |line=>rw[j] at a;obtain⟨f,st,c⟩:=a;exact⟨f,st,gp c⟩
  |op o=>rw[j] at a;obtain⟨f,st,c⟩:=a;exact⟨f,st,gp c⟩
  |word w p=>
   rw[j] at a;dsimp only at a⊢;refine aZ.aaW ?_;rw[lg];refine aZ.je (C:=λx=>x) dg.id a (λ_=>rfl) λ_ K L _ s2 z=>?_;rw[lg];refine aZ.Br (C:=λx=>x) dg.id z s2 λb u k _ A l=>?_;dsimp only;rw[lg];have B:=A.trans s2;cases i:bg u with
   |none=>rw[dx (jC i)];unfold oF;exact((((r1 e _).none l i).bind λ_=> .inl rfl).bind λ_=> .inr rfl).sA
   |some d=>
    rw[aJ (bL i)];have v:=eV i;have D:=l.mono v;have O:=lz _ _ _ (cS _) i;have Z:=JE [105,110] l;have he:cI [105,110] u k=(if ar d= .eof then b5 [] else if cm (ar d) [105,110] then bV 2 else b6:ab Unit) d k:=by unfold cI mL;grind[aJ,bL]
    rw[he] at Z;by_cases M:ar d= .eof
    ·rw[ba M] at Z⊢;obtain⟨st,c,g⟩:=Z;exact⟨_,gp c,by simp;rfl⟩
    rw[aM M] at Z⊢;rw[show N (aU (ar d)) (λt=>if cm t eb=true then N (bV 2) λ_=>(nn (aW false n) (a9 false n)).aG (10::dt) else b6)=(if cm (ar d) eb=true then N (bV 2) λ_=>(nn (aW false n) (a9 false n)).aG (10::dt) else b6) from rfl];by_cases U:cm (ar d) eb=true
    ·have m:cm (ar d) [105,110]=true:=U;rw[ba m] at Z;rw[ba U];obtain⟨c,g,E⟩:=Z;refine aZ.et ?_ (fo E);have aB:d.drop 2<:+d:=iI _ _;show aZ e r ((nn (aW false n) (a9 false n)).aG (10::dt) (d.drop 2) k) _ _;refine aZ.aG ?_;rw[anG,cL];refine aZ.mono ?_ (aB.trans (v.trans B));unfold vD;refine aZ.Br dg.k (D.mono aB) gr λb G H _ I s=>?_;have:=anI hA bm bj bB (d.drop 2) G H I (ml (k1 (e1 s.sfx) s.b4)) s;exact this
    ·have m:¬cm (ar d) [105,110]=true:=U;rw[aM m] at Z;rw[aM U];obtain⟨f,st,c⟩:=Z;exact⟨f,_,gp c⟩
end
theorem aa2{t:Tok}(h:fJ t=true):(jQ t).2.1=mM t/\0<(mM t).length:=by
 cases t with
 |eof=>cases h
 |line=>cases h
 |op o=>
  have:o=[40]:=by grind[fJ]
  subst this;decide
 |word w p=>
  cases p with
  |false=>cases h
  |true=>
   refine⟨rfl,?_⟩;cases w with
   |nil=>exact absurd h (by decide)
   |cons a b=>simp[mM]
def DE(l:dD)(t:Tok):ab Unit:=match t with
 | .op _=>N ((l.ls .paren false).aG [41]) λ_=>jr [41]
 | .word w _=>
  if w=[123] then N ((l.ls .pK false).aG [10,125]) λ_=>cI [125]
  else if w=j7 then q4 l
  else if w=mB then pM l l.dl
  else if w=oI then q5 l l.dl
  else N ((l.ls .pa false).aG dY) λ_=>h3 l dY
 |_=>b6
theorem aa3{l:dD}{t:Tok}(h:fJ t=true)(r:H)(F:ag):hd l t r F=DE l t (r.drop (mM t).length) F:=by
 cases t with
 |eof=>cases h
 |line=>cases h
 |op o=>rfl
 |word w p=>rfl
theorem aa4(af:n<=30)(hA:∀m,n=m+1->uw R m/\o1 R m){e:cN}(bj:e.ne=30- (n:Int))(h:ed e r F)(Y:bg r=some r)(aq:fJ (ar r)=true):
  aZ e r ((aW false n).cp (ar r) r F) (λ_=>e.st) (CN R (e.st r F)):=by
 obtain⟨J,Ua⟩:=aa2 aq;cases n with
 |zero=>
  obtain⟨st,aw⟩:=TY (e:=e) (r:=r) (F:=F) (p:=ax e.S r) (x:=mM (ar r)) (by omega);refine⟨ax e.S r,st,?_,?_⟩
  ·unfold CN a6;refine(fo ((lB e).some h Y)).trans ?_;dsimp only;rw[J];exact gp aw
  ·cases r with
   |nil=>exact absurd aq (by decide)
   |cons b t=>exact(ho h.sfx).2
 |succ m=>
  obtain⟨v,j⟩:=hA m rfl;have Q:mM (ar r)<+:r:=by
   cases d:ar r with
   |eof=>rw[d] at aq;cases aq
   |line=>rw[d] at aq;cases aq
   |op o=>
    rw[d] at aq;have:o=[40]:=by grind[fJ]
    subst this;exact(ib d).2.1
   |word w p=>
    rw[d] at aq;cases p with
    |false=>cases aq
    |true=>exact(q8 d).1
  unfold CN a6;refine aZ.et ?_ (fo ((lB e).some h Y));dsimp only;rw[J];generalize A:mM (ar r)=x at*;have S:=NG (p:=ax e.S r) (x:=x) h (by omega) (by omega);refine aZ.et ?_ (fo S);show aZ e r ((hd (aW false m) (ar r)).named (mM (ar r)) r F) _ _;rw[A];obtain⟨q,rfl⟩:=Q;have f:q<:+x++q:=gq x q;have aw:q.length<(x++q).length:=by grind
  have T:W (ax e.S (x++q)+(x.length:Int))=ax e.S q:=kY h.b4 h.sfx;have u:=h.fQ (x:=x) f aw;have V:(((e.fQ x).st (x++q) F).1,(W (((e.fQ x).st (x++q) F).2.1+(x.length:Int))),((e.fQ x).st (x++q) F).2.2.1,((e.fQ x).st (x++q) F).2.2.2.1,((e.fQ x).st (x++q) F).2.2.2.2.1,((e.fQ x).st (x++q) F).2.2.2.2.2)=(e.fQ x).st q F:=by show(e.S,W (ax e.S (x++q)+(x.length:Int)),F,e.ne+1,e.op++[x],e.kD)=_;rw[T];rfl
  rw[V];have k:(e.fQ x).ne=30- (m:Int):=by show e.ne+1=_;omega
  have X:hd (aW false m) (ar (x++q)) (x++q) F=DE (aW false m) (ar (x++q)) q F:=by grind[aa3,List.drop_left]
  have g:∀(y:Option (bp ak ak))(z:Option (bp ak ak)),aZ (e.fQ x) (x++q) (DE (aW false m) (ar (x++q)) q F) (λ_=>(e.fQ x).st) y->z=a_ y (λx=>x) (λy=>ay (wk y) λy=>some (.inr y))->aZ e (x++q) ((hd (aW false m) (ar (x++q))).named x (x++q) F) (λ_=>e.st) z:=by
   rintro y _ K rfl;rw[<-X] at K;have i:=K.named;cases az:((hd (aW false m) (ar (x++q))).named x) (x++q) F with
   |ok a an Z=>rw[az] at i;obtain⟨l,s,i3⟩:=i;refine⟨l,s.out,?_⟩;rw[fo i3];exact(aS (NH (r:=an) (F:=Z) (x:=x) h.xY (show 0<=e.ne by omega) (by omega))).trans rfl
   |more op nd ds=>rw[az] at i;obtain⟨st,l,s⟩:=i;exact⟨st,gp l,s⟩
   |bad df=>rw[az] at i;obtain⟨l,st,s⟩:=i;exact⟨l,st,gp s⟩
   |deep df=>rw[az] at i;obtain⟨p,st,l,s⟩:=i;exact⟨p,st,gp l,s⟩
  have L:(aW false m).dl=a9 false m:=xZ false m;cases d:ar (x++q) with
  |eof=>rw[d] at aq;cases aq
  |line=>rw[d] at aq;cases aq
  |op o=>
   rw[d] at aq g A;have D:x=[40]:=A.symm;subst D;simp only[bz,aO];refine g (a_ (R.k5 ((e.fQ [40]).st q F) 1 false) (λx=>x) λy=>a_ (tW y.2 [41]) (λx=>(x.1,x.2.1,y.2.2.2.1,x.2.2.2.1,y.2.2.2.2.2.1,x.2.2.2.2.2)) λz=>some (.inr (z.1,z.2.1,y.2.2.2.1,z.2.2.2.1,y.2.2.2.2.2.1,z.2.2.2.2.2))) _ ?_ ?_
   ·refine aZ.ls (c:= .paren) (C:=λx=>x) dg.id j k u f λa E G s2 B=>?_;exact aZ.ano B (s2.trans f) λcK=>rfl
   ·rw[pf];congr 1
    funext y
    rw[pf];rfl
  |word w p=>
   rw[d] at aq g A;have D:x=w:=A.symm;subst D;have I:oJ x=true:=by
    cases p with
    |true=>exact aq
    |false=>cases aq
   have gg:decide (x=[40])=false:=by rw[Ho];rintro rfl;exact absurd I (by decide)
   simp only[gg,aY];by_cases M:x=[123]
   ·subst M;simp only[bz,aO];refine g (a_ (R.k5 ((e.fQ [123]).st q F) 2 false) (λx=>x) λy=>a_ (oF y.2 [125]) (λx=>(x.1,x.2.1,y.2.2.2.1,x.2.2.2.1,y.2.2.2.2.2.1,x.2.2.2.2.2)) λz=>some (.inr (z.1,z.2.1,y.2.2.2.1,z.2.2.2.1,y.2.2.2.2.2.1,z.2.2.2.2.2))) _ ?_ ?_
    ·refine aZ.ls (c:= .pK) (C:=λx=>x) dg.id j k u f λa E G s2 B=>?_;exact aZ.aaQ B (s2.trans f) λcK=>rfl
    ·rw[pf];congr 1
     funext y
     rw[pf];rfl
   simp only[M,bG,aY];by_cases U:x=j7
   ·subst U;rw[show decide (j7=[105,102])=true from rfl];simp only[aO];refine g (Fh R ((e.fQ j7).st q F)) _ ((anu j k q F u).mono f) ?_;rfl
   have uV:decide (x=[105,102])=false:=Ho.2 U;rw[uV];simp only[aY];by_cases O:x=mB
   ·subst O;rw[show decide (mB=[102,111,114])=true from rfl];simp only[aO];refine g (Ff R ((e.fQ mB).st q F)) _ ?_ rfl;have:=(anC v j k q F u).mono f;rw[<-L] at this;exact this
   have B3:decide (x=[102,111,114])=false:=Ho.2 O;rw[B3];simp only[aY];by_cases P:x=oI
   ·subst P;rw[show decide (oI=[99,97,115,101])=true from rfl];simp only[aO];refine g (Fc R ((e.fQ oI).st q F)) _ ?_ rfl;have:=(anM v j k q F u).mono f;rw[<-L] at this;exact this
   have XL:decide (x=[99,97,115,101])=false:=Ho.2 P;rw[XL];simp only[aY];refine g (a_ (R.k5 ((e.fQ x).st q F) 6 false) (λx=>x) λy=>a_ (vd R y.2) (λx=>x) λz=>some (.inr z)) _ ?_ ?_
   ·have:DE (aW false m) (.word x p)=N (((aW false m).ls .pa false).aG dY) λ_=>h3 (aW false m) dY:=by simp_all[DE,aM]
    rw[this];refine aZ.ls (c:= .pa) (C:=λx=>x) dg.id j k u f λa E G s2 B=>?_;dsimp only;rw[DD];exact(Ul j k _ E G B).mono (s2.trans f)
   ·rw[pf];congr 1
    funext y
    rw[pf];rfl
def wP(R:bl)(n:Nat):Prop:=∀m,m<=n->uw R m
theorem wP.at(h:wP R n):uw R n:=h n (cS _)
theorem wP.low(h:wP R n):∀m,n=m+1->uw R m/\o1 R m:=λm hm=>⟨h m (by omega),(h n (cS _)).ls m hm⟩
def j0(fr:Bool):Nat->Option dD
 |0=>none
 |n+1=>some (aW fr n)
theorem aa6(fr:Bool)(n:Nat):(aW fr n).cp=rU (j0 fr n):=by cases n<;>rfl
theorem Gm(fr:Bool)(n:Nat):a9 fr n=dj (j0 fr n):=by cases n<;>rfl
theorem aa7{e:cN}(bj:29<=e.ne/\e.ne<=30)(h:ed e (40::u) F):∃(p:Int)(st:ak),CS R (e.st (40::u) F)=some (.inl (2,p,st))/\p<e.S.length:=by
 have:∃st,CS R (e.st (40::u) F)=some (.inl (2,ax e.S (40::u),st)):=by
  unfold CS a6;have a:W (e.ne+2)=e.ne+2:=dO (by omega) (by omega);have b:decide (30<W ((e.st (40::u) F).2.2.2.1+2))=true:=by show decide (30<W (e.ne+2))=true;rw[a,decide_eq_true_iff];omega
  rw[b];simp only[aO];exact⟨_,rfl⟩
 obtain⟨st,M⟩:=this;exact⟨_,st,M,(ho h.sfx).2⟩
theorem anO(hA:wP R n){e:cN}(bj:e.ne=30- (n:Int))(h:ed e (40::u) F):
  aZ e (40::u) (kU false (j0 false n) (40::u) F) (λ_=>e.st) (CS R (e.st (40::u) F)):=by
 have hle:=hA.at.le;cases n with
 |zero=>exact aa7 (by omega) h
 |succ m=>
  cases m with
  |zero=>exact aa7 (by omega) h
  |succ k=>
   show aZ e (40::u) (kU false (some (aW false (k+1))) (40::u) F) _ _;unfold kU;dsimp only;rw[ba (show(aW false (k+1)).has=true from rfl)];unfold CS a6;have Gn:W (e.ne+2)=e.ne+2:=dO (by omega) (by omega);have O:decide (30<W ((e.st (40::u) F).2.2.2.1+2))=false:=by show decide (30<W (e.ne+2))=false;grind
   rw[O];simp only[aY];have P:=NG (p:=ax e.S (40::u)) (x:=[102,40,41]) h (by omega) (by omega);refine aZ.et ?_ (fo P);have hu:u<:+40::u:=eL 40 u;have l:=h.fQ (x:=[102,40,41]) hu (by simp);have Q:W (ax e.S (40::u)+1)=ax e.S u:=iW h.b4 h.sfx;have S:(e.fQ [102,40,41]).ne=30- ((k+1:Nat):Int):=by show e.ne+1=_;omega
   have T:(((e.fQ [102,40,41]).st (40::u) F).1,(W (((e.fQ [102,40,41]).st (40::u) F).2.1+1)),((e.fQ [102,40,41]).st (40::u) F).2.2.1,((e.fQ [102,40,41]).st (40::u) F).2.2.2.1,((e.fQ [102,40,41]).st (40::u) F).2.2.2.2.1,((e.fQ [102,40,41]).st (40::u) F).2.2.2.2.2)=(e.fQ [102,40,41]).st u F:=by show(e.S,W (ax e.S (40::u)+1),F,e.ne+1,e.op++[[102,40,41]],e.kD)=_;rw[Q];rfl
   rw[T];generalize V:(N (bV 1) λ_=>N (bN [41,32,123,32,120,10,125]) λt=>if t= .eof then b5 [41,32,123,32,120,10,125] else if t= .op [41] then
    N (bV 1) λ_=>N (cQ.aG [123,32,120,10,125]) λ_=>N (bN [123,32,120,10,125]) λt=>if t= .eof then b5 [123,32,120,10,125] else
     if fJ t then N ((aW false (k+1)).cp t) λ_=>if false=true then(aW false (k+1)).rd else aU () else b6
    else b6:ab Unit)=B
   have X:∀K:ak->Option (bp ak ak),(∀an c,K ((e.fQ [102,40,41]).st an c)=some (.inr (e.st an c)))->
     ∀y,aZ (e.fQ [102,40,41]) (40::u) (B (40::u) F) (λ_=>(e.fQ [102,40,41]).st) y->aZ e (40::u) ((B.named [102,40,41]) (40::u) F) (λ_=>e.st) (a_ y (λx=>x) K):=by
    intro K lG y bw;have d:=bw.named;cases az:(B.named [102,40,41]) (40::u) F with
    |ok a an c=>rw[az] at d;obtain⟨f,g,s⟩:=d;exact⟨f,g.out,by grind[fo]⟩
    |more op nd ds=>rw[az] at d;obtain⟨st,f,g⟩:=d;exact⟨st,gp f,g⟩
    |bad df=>rw[az] at d;obtain⟨f,st,g⟩:=d;exact⟨f,st,gp g⟩
    |deep df=>rw[az] at d;obtain⟨p,st,f,g⟩:=d;exact⟨p,st,gp f,g⟩
   have v:∀an c,(ay (wk ((e.fQ [102,40,41]).st an c)) λ(A:ak)=>(some (.inr A):Option (bp ak ak)))=some (.inr (e.st an c)):=λan c=>
    (aS (NH (r:=an) (F:=c) (x:=[102,40,41]) h.xY (show 0<=e.ne by omega) (by omega))).trans rfl
   have D:=X (λmc=>ay (wk mc) λ(A:ak)=>some (.inr A)) v
    (a_ (tW ((e.fQ [102,40,41]).st u F) ([41]:H)) (λx=>(x.1,x.2.1,F,x.2.2.2.1,e.op++[[102,40,41]],x.2.2.2.2.2)) λ(o:ak)=>
     (a_ (mb (o.1,o.2.1,F,o.2.2.2.1,e.op++[[102,40,41]],o.2.2.2.2.2)) (λx=>x) λy=>
     (a_ (Ij y.2) (λx=>(x.1,x.2.1,y.2.2.2.1,x.2.2.2.1,y.2.2.2.2.2.1,x.2.2.2.2.2)) λz=>
     (bif(!z.1) then
     a_ (lJ (z.2.1,z.2.2.1,y.2.2.2.1,z.2.2.2.2.1,y.2.2.2.2.2.1,z.2.2.2.2.2.2)) (λx=>(x.1,x.2.1,y.2.2.2.1,x.2.2.2.1,y.2.2.2.2.2.1,x.2.2.2.2.2)) λy=>Empty.elim y
     else
     CN R (z.2.1,z.2.2.1,y.2.2.2.1,z.2.2.2.2.1,y.2.2.2.2.2.1,z.2.2.2.2.2.2)))))
   have E:=D (by
    rw[<-V];show aZ (e.fQ [102,40,41]) (40::u) (N (bN [41,32,123,32,120,10,125]) _ u F) _ _;have au9:=l;cases Y:bg u with
    |none=>rw[dx (jC Y)];unfold tW;exact((((sB _ _).none l Y).bind λ_=> .inl rfl).bind λ_=> .inr rfl).sA
    |some an=>
     rw[aJ (bL Y)];have s1:=eV Y;have v1:=l.mono s1;have f:=lz _ _ _ (cS _) Y;have Z:=Nz [41] l;have he:jr [41] u F=(if ar an= .eof then b5 [] else if(ar an==Tok.op [41])=true then bV 1 else b6:ab Unit) an F:=by unfold jr mL;rw[aJ (bL Y)];rfl
     rw[he] at Z;by_cases M:ar an= .eof
     ·rw[ba M] at Z⊢;obtain⟨st,q,aV⟩:=Z;exact⟨_,gp q,by simp;rfl⟩
     rw[aM M] at Z⊢;by_cases U:ar an= .op [41]
     ·rw[ba (by grind)] at Z;rw[if_pos U];obtain⟨q,aV,fk⟩:=Z;refine aZ.et ?_ (fo fk);have aB:an.drop 1<:+an:=List.drop_suffix _ _;show aZ (e.fQ [102,40,41]) (40::u) (N (cQ.aG [123,32,120,10,125]) _ (an.drop 1) F) _ _;have I:an.drop 1<:+40::u:=aB.trans (s1.trans hu);refine aZ.lines (C:=λx=>x) dg.id (v1.mono aB) I λb aF ey _ s2 v2=>?_;refine aZ.tst (C:=λx=>x) dg.id (aaq _) v2 λJ Bv jf L s=>?_;dsimp only;cases aq:fJ (ar J) with
      |true=>
       have af:ar J≠ .eof:=by intro i;rw[i] at aq;cases aq
       rw[aM af];simp only[c9,hU,aY,fR,cZ]
       have:=aa4 (R:=R) (n:=k+1) (by omega) (λm hm=>by
        have G:wP R (k+1):=λj cy=>hA j (by omega);exact G.low m hm) S L s aq
       rw[Ge];exact this.mono (jf.trans (s2.trans I))
      |false=>simp only[fp,aO,fR,cZ];exact NM (x:=[123,32,120,10,125]) L s (λi=>ba i) (λi=>aM i) λ_=> .inr rfl
     ·rw[aM (by grind)] at Z;rw[if_neg U];obtain⟨oS,st,q⟩:=Z;exact⟨oS,_,gp q⟩)
   refine aZ.et E ?_;rw[pf];congr 1
   funext y
   rw[pf];congr 1
   funext z
   rw[pf];congr 1
   funext w
   cases w.1 with
   |true=>rfl
   |false=>simp only[Bool.not_false,cond_true];rw[pf];grind
theorem ti(Y:bg r=some r')(af:fm (bt (r'.dropWhile cd))=false):dM D r F= .ok false r' F:=by
 have a:fI r F= .ok none r' F:=by simp_all[fI,aM]
 unfold dM;rw[aJ a];rfl
theorem aa8(Y:bg r=some r')(af:fm (bt (r'.dropWhile cd))=true){b:Bool}{a:ag}(h:dM D r F= .ok b an a):b=true:=by
 have c:fI r F= .ok (some (bt (r'.dropWhile cd))) ((r'.dropWhile cd).drop (bt (r'.dropWhile cd)).length) F:=by simp_all[fI,ba]
 unfold dM at h;rw[aJ c] at h;obtain⟨_,_,_,_,h⟩:=bW h;cases h;rfl
theorem anT(h:bt (b::t)≠[]):cd b=false:=by
 cases a:cd b with
 |false=>rfl
 |true=>simp_all[absurd,m3,Bp]
theorem aa9(hA:wP R n){e:cN}(bj:e.ne=30- (n:Int)):rf e (fA false (j0 false n) (a9 false n)) (λ_=>e.st) (AR R):=by
 intro r F h;unfold fA AR;have a:=hA.at;refine aZ.tst (C:=λx=>x) dg.id (aaq e) h λan q6 s1 c d=>?_;dsimp only;by_cases aq:fJ (ar an)=true
 ·have af:ar an≠ .eof:=by intro g;rw[g] at aq;cases aq
  rw[aM af,ba aq,aq];simp only[aO];have I:=aa4 (R:=R) (n:=n) a.le (λm hm=>hA.low m hm) bj c d aq;rw[aa6] at I;refine aZ.je (C:=λx=>x) dg.id (I.mono s1) (λ_=>rfl) λ_ l q _ s2 i=>?_;rw[DD];exact(aaP a bj l q i).mono s2
 have O:fJ (ar an)=false:=by grind
 rw[O];simp only[aY,fR,cZ];refine aZ.et ?_ (fo ((lB e).some c d));dsimp only;unfold a6;have D:∀(m:ab Unit)(z:Bool)(K:ak->Option (bp ak ak)),fm (bt (an.dropWhile cd))=false->(ar an= .eof->m=b5 [120])->(ar an≠ .eof->m=b6)->z=false->aZ e r (m an F) (λ_=>e.st)
   (bif z then a_ (lJ ((e.st an F).1,(e.st an F).2.1,(e.st r F).2.2.1,(e.st an F).2.2.2.1,(e.st r F).2.2.2.2.1,(e.st an F).2.2.2.2.2)) (λx=>(x.1,x.2.1,(e.st r F).2.2.1,x.2.2.2.1,(e.st r F).2.2.2.2.1,x.2.2.2.2.2)) λy=>Empty.elim y
    else a_ (AQ R ((e.st an F).1,(e.st an F).2.1,(e.st r F).2.2.1,(e.st an F).2.2.2.1,(e.st r F).2.2.2.2.1,(e.st an F).2.2.2.2.2)) (λx=>x) λw=>bif w.1 then a_ (CR R w.2) (λx=>x) (λP=>some (.inr P)) else
     a_ (lJ w.2) (λx=>(x.1,x.2.1,w.2.2.2.1,x.2.2.2.1,w.2.2.2.2.2.1,x.2.2.2.2.2)) λy=>Empty.elim y):=by
  rintro m _ K Z Q S rfl;simp only[aY];have j:=JN a bj an F c;rw[ti d Z] at j;refine aZ.et ?_ (fo j.2.2);simp only[aY];exact NM (x:=[120]) c d Q S λ_=> .inr rfl
 have T:fm []=false:=by decide
 cases f:ar an with
 |eof=>
  have nv:an=[]:=by
   cases an with
   |nil=>rfl
   |cons b t=>exfalso;have vB:(if b=10 then Tok.line else if bt (b::t)≠[] then .op (bt (b::t)) else .word (di (b::t)).1 (di (b::t)).2)=Tok.eof:=f;grind
  simp only[jQ,c1,show¬((0:Int)=3) by decide,bG,aY,c9,fR,cZ,fp,aO];have:=D (b5 [120]) false (λ_=>none) (by simp_all[bt,l2,yz,List.isPrefixOf]) (λ_=>rfl) (λg=>absurd f g) rfl;exact this
 |line=>obtain⟨t,rfl⟩:=wL f;simp only[jQ,c1,show¬((1:Int)=3) by decide,bG,aY,c9,fR,cZ,fp,aO,reduceCtorEq];have ff:bt (10::t)=[]:=m3 (by decide);have:=D b6 false (λ_=>none) (by rfl) (λg=>by grind) (λ_=>rfl) rfl;exact this
 |op o=>
  simp only[jQ,c1,show¬((2:Int)=3) by decide,bG,aY,c9,fR,cZ,fp,aO,reduceCtorEq];have U:=(ib f).1;have DA:an.dropWhile cd=an:=by
   cases an with
   |nil=>rfl
   |cons b t=>exact Eh (by rw[anT (b:=b) (t:=t) (by rw[<-U];exact(ib f).2.2.2)];simp)
  by_cases Z:fm o=true
  ·rw[ba Z];have j:=JN a bj an F c;refine aZ.je (C:=λx=>x) dg.id (j.mono s1) (λ_=>rfl) λb l q v s2 i=>?_;have s:=aa8 d (by grind) v;subst s;simp only[aO];rw[DD];exact(NV a bj l q i).mono s2
  ·rw[aM Z];have:=D b6 false (λ_=>none) (by grind) (λg=>by grind) (λ_=>rfl) rfl;exact this
 |word w p=>
  simp only[jQ,bz,aO,reduceCtorEq,cZ,hU,aY];rw[am0,gI];have V:(bif p then(if p=true then q3 w else false) else false)=(p&&q3 w):=by simp
  rw[V];cases NZ:(p&&q3 w) with
  |true=>simp only[aO,c9];exact NM (x:=[]) c d (λg=>by grind) (λ_=>rfl) λ_=> .inr rfl
  |false=>
   simp only[aY,fR,cZ];have j:=JN a bj an F c;refine aZ.je (C:=λx=>x) dg.id (j.mono s1) (λ_=>rfl) λb l q v s2 i=>?_;cases b with
   |true=>simp only[aO,c9];rw[DD];exact(NV a bj l q i).mono s2
   |false=>
    simp only[aY,fR,cZ];have W:fm (bt (an.dropWhile cd))=false:=by grind[fm,bt,cd,aa8]
    rw[ti d W] at v;cases v;refine aZ.je (C:=λx=>x) dg.id ((NL a bj i d f).mono s2) (λ_=>rfl) λ_ E A _ G J=>?_;have X:aZ e r (gS false (a9 false n) E A) (λ_=>e.st) (a_ (CR R (e.st E A)) (λx=>x) λY=>some (.inr Y)):=by rw[DD];exact(NV a bj E A J).mono G
    have jT:CL w=some (l3 w)\/p=false:=by
     cases p with
     |false=>simp
     |true=>left;have:=(q8 f).1.length_le;have:=e1 c.sfx;have:=h.b4;grind[zI]
    have Ub:∀(k:Bool->Option (bp ak ak)),c1 (p=true) (CL w) false k=k (p&&l3 w):=by
     intro k;rcases jT with M|rfl
     ·grind[gI]
     rfl
    refine aZ.et ?_ (Ub _);cases Bw:(p&&l3 w) with
    |false=>simp_all[aZ.et,aal,aY,fR,cZ]
    |true=>
     have ah:p=true:=by grind
     subst ah;refine aZ.et ?_ (zF rfl);simp only[c9];refine aZ.tst (C:=λx=>x) dg.id (sB e [40]) J λB Bs L N i4=>?_;dsimp only[cond_true];by_cases H:ar B= .op [40]
     ·have s:((ar B==Tok.op [40]):Bool)=true:=by grind
      rw[ba H,s];simp only[aO];obtain⟨u,rfl⟩:=(ib H).2.1;refine aZ.je (C:=λx=>x) dg.id ((anO hA bj N).mono (L.trans G)) (λ_=>rfl) λ_ fj mD _ og m6=>?_;rw[DD];exact(aaP a bj fj mD m6).mono og
     ·have s:((ar B==Tok.op [40]):Bool)=false:=by grind
      rw[aM H,s];simp only[aY];rw[DD];exact(NV a bj B A N).mono (L.trans G)
theorem Up{e:cN}{o:H}(v:ed e r F)(b:ar r= .op o):r.drop o.length<:+r/\(r.drop o.length).length<r.length/\ed e (r.drop o.length) F/\W (ax e.S r+(o.length:Int))=ax e.S (r.drop o.length):=by obtain⟨_,⟨q,rfl⟩,_,bj⟩:=ib b;have aw:0<o.length:=Px.2 bj;rw[pq];have a:q<:+o++q:=gq o q;exact⟨a,by grind,v.mono a,kY v.b4 v.sfx⟩
def r3(fr:Bool)(n:Nat):ab Unit:=fA fr (j0 fr n) (a9 fr n)
theorem aa_(fr:Bool)(n:Nat):ae (r3 fr n):=by
 unfold r3;refine ae.command (λl aw=>?_) (mO fr n);cases n with
 |zero=>cases aw
 |succ m=>cases aw;simp[rW]
theorem aba(fr:Bool)(n:Nat):ae (fv (r3 fr n)):=ae.pipe (aa_ fr n)
section
variable(hA:wP R n){e:cN}(bj:e.ne=30- (n:Int))
include hA bj
theorem abb:rf e (fv (r3 false n)) (λ_=>e.st) (Fo R):=by
 intro r F h;unfold fv Fo a6;refine aZ.tst (C:=λx=>x) dg.id (r1 e [33]) h λan q6 s1 d i1=>?_;dsimp only;have u:∀c,c<:+r->ed e c F->aZ e r (N (r3 false n) (λ_=>cD (λ_=>N (bN []) λt=>if t= .op [124] then N (bV 1) λ_=>N (cQ.aG [120]) λ_=>N (r3 false n) λ_=>aU (.inl ()) else aU (.inr ())) ()) c F) (λ_=>e.st)
   (a_ (AR R (e.st c F)) (λx=>x) λ(E:ak)=>fixF (Mm R λy=>some (.inr y)) bB E):=by
  intro c s2 G;refine aZ.je (C:=λx=>x) dg.id ((aa9 hA bj c F G).mono s2) (λ_=>rfl) λ_ I J _ K f=>?_;refine aZ.mono ?_ K;refine aZ.rep (en:=λ_ r F=>e.st r F) (λk s g v L az=>?_) bB () I J (ml (k1 (e1 f.sfx) f.b4)) f;unfold Mm;refine aZ.tst dg.k (sB e [124]) L λa M i z i5=>?_;dsimp only;by_cases j:ar a= .op [124]
  ·have l:((ar a==Tok.op [124]):Bool)=true:=by grind
   rw[ba j,l];simp only[aO];obtain⟨m,O,A,B⟩:=Up z j;show aZ e g (dc _ g (N (cQ.aG [120]) _ (a.drop 1) v)) _ (a_ (mb (e.S,W (ax e.S a+1),v,e.ne,e.op,e.kD)) _ _);rw[show([124]:H).length=1 from rfl] at m O A B;have P:W (ax e.S a+1)=ax e.S (a.drop 1):=B;rw[P];refine aZ.lines dg.k A (m.trans i) λb Q S _ T U=>?_;have V:=T.trans (m.trans i);refine aZ.je dg.k ((aa9 hA bj Q S U).mono V) (λ_=>rfl) λ_ X rV Y Gk JP=>?_;have Z:X.length<g.length:=by have cH:=((aa_ false n).sfx Y).length_le;grind
   grind[aZ.inl]
  ·have l:((ar a==Tok.op [124]):Bool)=false:=by grind
   rw[aM j,l];exact aZ.inr i z rfl
 by_cases o:cm (ar an) [33]=true
 ·rw[ba o,o];simp only[aO];have p:ar an= .word [33] true:=by grind[cm]
  obtain⟨q,rfl⟩:=(q8 p).1;have D:q<:+[33]++q:=gq [33] q;have lC:W (ax e.S ([33]++q)+1)=ax e.S q:=kY (w:=[33]) d.b4 d.sfx;have:=u q (D.trans s1) (d.mono D);show aZ e r (N (r3 false n) _ q F) _ (a_ (AR R (e.S,W (ax e.S ([33]++q)+1),F,e.ne,e.op,e.kD)) _ _);rw[lC];exact this
 ·have p:cm (ar an) [33]=false:=by grind
  rw[aM o,p];exact u an s1 d
theorem Ur:rf e (hR (fv (r3 false n))) (λ_=>e.st) (AS R):=by
 intro r F h;unfold hR AS a6;refine aZ.je (C:=λx=>x) dg.id (abb hA bj r F h) (λ_=>rfl) λ_ z A _ B f=>?_;refine aZ.mono ?_ B;refine aZ.rep (en:=λ_ r F=>e.st r F) (λk s c g D az=>?_) bB () z A (ml (k1 (e1 f.sfx) f.b4)) f;unfold Sc;refine aZ.tst dg.k (sB e [38,38]) D λa E i j G=>?_;dsimp only;have q:∀o:H,o.length=2->ar a= .op o->aZ e c (dc (λ_=>N (bN []) λt=>if t= .op [38,38]\/t= .op [124,124] then N (bV 2) λ_=>N (cQ.aG [120]) λ_=>N (fv (r3 false n)) λ_=>aU (.inl ()) else aU (.inr ())) c (N (bV 2) (λ_=>N (cQ.aG [120]) λ_=>N (fv (r3 false n)) λ_=>aU (.inl ())) a g)) (λ_=>e.st)
   (a_ (mb (e.S,W (ax e.S a+2),g,e.ne,e.op,e.kD)) (λx=>x) λy=>a_ (Fo R y.2) (λx=>x) λI=>k I):=by
  intro o J d;obtain⟨l,K,u,v⟩:=Up j d;rw[J] at l K u v;have L:W (ax e.S a+2)=ax e.S (a.drop 2):=v;rw[L];show aZ e c (dc _ c (N (cQ.aG [120]) _ (a.drop 2) g)) _ _;refine aZ.lines dg.k u (l.trans i) λb M O _ P Q=>?_;have S:=P.trans (l.trans i);refine aZ.je dg.k ((abb hA bj M O Q).mono S) (λ_=>rfl) λ_ T X U Y Z=>?_;have V:T.length<c.length:=by have cH:=((aba false n).sfx U).length_le;grind
  grind[aZ.inl]
 by_cases d:ar a= .op [38,38]
 ·have m:((ar a==Tok.op [38,38]):Bool)=true:=by grind
  rw[ba (.inl d),m];simp only[n0,uR,cZ,aO];exact q _ rfl d
 ·have m:((ar a==Tok.op [38,38]):Bool)=false:=by grind
  rw[m];refine aZ.et ?_ ((zF rfl).trans (fo ((sB e [124,124]).some j G)));dsimp only;by_cases w:ar a= .op [124,124]
  ·have p:((ar a==Tok.op [124,124]):Bool)=true:=by grind
   rw[ba (.inr w),p];simp only[aO,aY];exact q _ rfl w
  ·have p:((ar a==Tok.op [124,124]):Bool)=false:=by grind
   rw[aM (by grind),p];simp only[cond_false];exact aZ.inr i j rfl
end
def ny(fr:Bool)(n:Nat):ab Unit:=hR (fv (r3 fr n))
theorem anV(fr:Bool)(n:Nat):ae (ny fr n):=ae.oc (aba fr n)
theorem abc(fr:Bool)(n:Nat)(c:Ctx)(no:Bool):(aW fr n).ls c no=np (ny fr n) c no:=by cases n<;>rfl
theorem abd:dC c .eof=decide (c= .text):=by cases c<;>simp[dC,cm]
theorem anW{b:Bool}{a:ag}(Y:bg r=some r)(h:cQ r F= .ok b r' a):(ar r= .line->b=true/\r'.length<r.length)/\(ar r≠ .line->b=false/\r'=r/\a=F):=by
 constructor
 ·intro c;obtain⟨t,rfl⟩:=wL c;refine⟨?_,ZN h⟩;rw[uo,cL,xS Y] at h;unfold dc at h;cases hm:N kh (λ_=>(aU (.inl true):ab (Bool⊕Bool))) (10::t) F with
  |ok x an e=>
   have d:x=(Sum.inl true:Bool⊕Bool):=by obtain⟨_,_,_,_,U⟩:=bW hm;cases U;rfl
   subst d;rw[hm] at h;simp only at h;split at h
   ·have:∀(bF:Nat)(r:H)(F:ag)(b:Bool)(r':H)(a:ag),r.length<=bF->cD iB true r F= .ok b r' a->b=true:=by
     intro bF;induction bF with
     |zero=>intro r F b r' a f h;have:r=[]:=tA.1 (by omega);subst this;rw[cL,sw (an:=[]) (by rw[mj]) (by decide)] at h;cases h;rfl
     |succ bF i=>
      intro r F b r' a f h;rw[cL] at h;cases Y:bg r with
      |none=>have:iB true r F= .more [] (b8 [] F []).1 (b8 [] F []).2:=dx (jC Y);rw[this] at h;cases h
      |some g=>
       by_cases c:ar g= .line
       ·obtain⟨t,rfl⟩:=wL c;rw[xS Y] at h;unfold dc at h;cases hm:N kh (λ_=>(aU (.inl true):ab (Bool⊕Bool))) (10::t) F with
        |ok x an e=>
         have d:x=(Sum.inl true:Bool⊕Bool):=by obtain⟨_,_,_,_,U⟩:=bW hm;cases U;rfl
         grind
        |more _ _ _=>grind
        |bad _=>grind
        |deep _=>grind
       ·rw[sw Y c] at h;cases h;rfl
    exact this _ _ _ _ _ _ (cS _) h
   grind
  |more _ _ _=>grind
  |bad _=>grind
  |deep _=>grind
 ·intro c;rw[NX Y c] at h;cases h;exact⟨rfl,rfl,rfl⟩
theorem abe(fr:Bool)(n:Nat)(Y:bg r=some r'):ny fr n r F=ny fr n r' F:=by have a:=lz _ _ _ (cS _) Y;unfold ny hR fv;rw[lg];rw[aJ (bL Y),aJ (bL a)]
theorem abf(fr:Bool)(n:Nat)(Y:bg r=none):∃nd ds,ny fr n r F= .more [] nd ds:=by unfold ny hR fv;rw[lg];exact⟨_,_,dx (jC Y)⟩
theorem abg(fr:Bool)(n:Nat)(F:ag):∃nd ds,ny fr n [] F= .more [] nd ds:=by
 have Y:bg []=some []:=mj;unfold ny hR fv;rw[lg,aJ (bL Y),lg];have M:cm (ar []) [33]=false:=rfl;rw[M];simp only[fR,cZ];show∃nd ds,N (N (r3 fr n) _) _ [] F=_
 have U:∃nd ds,r3 fr n [] F= .more [] nd ds:=by unfold r3 fA;rw[aJ (bL Y)];exact⟨_,_,rfl⟩
 grind[dx]
theorem abh(hA:wP R n){e:cN}(bj:e.ne=30- (n:Int))(c:Ctx)(no:Bool)(Gg:c≠ .text\/no=true):rf e (np (ny false n) c no) (λa r F=>((a:Int),e.st r F)) (λx=>Fq R x (Dw c) no):=by
 intro r F h;rw[td];unfold Fq;refine aZ.lines (C:=λx=>x) dg.id h gr λb an aD _ s1 q=>?_;dsimp only;refine aZ.mono ?_ s1
 have T:∀(bF:Nat)(k:Nat)(r F),r.length<bF->k+r.length<=299999999->ed e r F->aZ e r (cD (fw (ny false n) c no) k r F) (λa r F=>((a:Int),e.st r F)) (fixF (IF R (Dw c) no) bF ((k:Int),e.st r F)):=by
  intro bF;induction bF with
  |zero=>omega
  |succ bF V=>
   intro k r F eG az h;rw[fx,cL];generalize fixF (IF R (Dw c) no) bF=K at V;unfold IF a6;have hW:k<299999999->W ((k:Int)+1)=((k+1:Nat):Int):=by grind[dO]
   have X:∀g,r≠[]->g<:+r->ed e g F->aZ e r (dc (fw (ny false n) c no) r (N (ny false n) (λ_=>N (bN []) (jB c k)) g F)) (λa r F=>((a:Int),e.st r F))
     (a_ (AS R (e.st g F)) (λx=>x) λ(i:ak)=>(a_ (oD i ([59]:H)) (λx=>(x.1,x.2.1,i.2.2.1,x.2.2.2.1,i.2.2.2.2.1,x.2.2.2.2.2)) λ(s7,v)=>(n0 (s7=false) (oD (v.1,v.2.1,i.2.2.1,v.2.2.2.1,i.2.2.2.2.1,v.2.2.2.2.2) ([38]:H)) (λx=>(x.1,x.2.1,i.2.2.1,x.2.2.2.1,i.2.2.2.2.1,x.2.2.2.2.2)) (false,(v.1,v.2.1,i.2.2.1,v.2.2.2.1,i.2.2.2.2.1,v.2.2.2.2.2)) λ(kQ,z)=>(bif(bif s7 then true else kQ) then(a_ (mb (z.1,(W (z.2.1+1)),i.2.2.1,z.2.2.2.1,i.2.2.2.2.1,z.2.2.2.2.2)) (λx=>x) λ(iv,A)=>K ((W ((k:Int)+1)),A.1,A.2.1,A.2.2.1,A.2.2.2.1,A.2.2.2.2.1,A.2.2.2.2.2)) else(a_ (mb (z.1,z.2.1,i.2.2.1,z.2.2.2.1,i.2.2.2.2.1,z.2.2.2.2.2)) (λx=>x) λ(pH,d)=>(bif pH then K ((W ((k:Int)+1)),d.1,d.2.1,d.2.2.1,d.2.2.2.1,d.2.2.2.2.1,d.2.2.2.2.2) else(a_ (mI d) (λx=>(x.1,x.2.1,d.2.2.1,x.2.2.2.1,d.2.2.2.2.1,x.2.2.2.2.2)) λ(nS,B)=>(n0 ((decide (nS.1=3))=false) (E2 (B.1,B.2.1,d.2.2.1,B.2.2.2.1,d.2.2.2.2.1,B.2.2.2.2.2) (Dw c)) (λx=>(x.1,x.2.1,d.2.2.1,x.2.2.2.1,d.2.2.2.2.1,x.2.2.2.2.2)) (false,(B.1,B.2.1,d.2.2.1,B.2.2.2.1,d.2.2.2.2.1,B.2.2.2.2.2)) λ(hI,D)=>(bif(bif(decide (nS.1=3)) then true else(!hI)) then a_ (lJ (D.1,D.2.1,d.2.2.1,D.2.2.2.1,d.2.2.2.2.1,D.2.2.2.2.2)) (λx=>(x.1,x.2.1,d.2.2.1,x.2.2.2.1,d.2.2.2.2.1,x.2.2.2.2.2)) λy=>Empty.elim y else some (.inr ((W ((k:Int)+1)),(D.1,D.2.1,d.2.2.1,D.2.2.2.1,d.2.2.2.2.1,D.2.2.2.2.2)))))))))))):=by
    intro g nv s2 Z;refine aZ.je dg.k ((Ur hA bj g F Z).mono s2) (λ_=>rfl) λ_ cK s NY jf fi=>?_;have JG:=((anV false n).sfx NY).length_le;dsimp only;refine aZ.tst dg.k (sB e [59]) fi λf Bs qv j t=>?_;dsimp only;have G:=qv.trans jf;have tj:ar f≠ .eof->k<299999999:=by
     intro J;have:f≠[]:=by rintro rfl;exact J rfl
     grind[List.length_pos_iff]
    have L:∀o:H,o.length=1->(o=[59]\/o=[38])->ar f= .op o->aZ e r (dc (fw (ny false n) c no) r (jB c k (.op o) f s)) (λa r F=>((a:Int),e.st r F))
      (a_ (mb (e.S,W (ax e.S f+1),s,e.ne,e.op,e.kD)) (λx=>x) λ(iv,A)=>K ((W ((k:Int)+1)),A)):=by
     intro o aP anZ E;obtain⟨cF,ek,iF,cz⟩:=Up j E;rw[aP] at cF ek iF cz;have JT:W (ax e.S f+1)=ax e.S (f.drop 1):=cz;rw[JT];unfold jB;dsimp only;rw[ba anZ];show aZ e r (dc _ r (N cQ _ (f.drop 1) s)) _ _;refine aZ.Br dg.k iF (cF.trans G) λb O mD _ og m6=>?_;have Bx:O.length<r.length:=by grind
     rw[hW (tj (by grind))];exact aZ.inl Bx ((V (k+1) O mD (by omega) (by omega) m6).mono (og.trans (cF.trans G)))
    by_cases mP:ar f= .op [59]
    ·have hb:((ar f==Tok.op [59]):Bool)=true:=by grind
     rw[hb,mP];simp only[n0,uR,cZ,aO];exact L [59] rfl (.inl rfl) mP
    have hb:((ar f==Tok.op [59]):Bool)=false:=by grind
    rw[hb];refine aZ.et ?_ ((zF rfl).trans (fo ((sB e [38]).some j t)));dsimp only;by_cases P:ar f= .op [38]
    ·have p8:((ar f==Tok.op [38]):Bool)=true:=by grind
     rw[p8,P];simp only[aO,aY];exact L [38] rfl (.inr rfl) P
    have p8:((ar f==Tok.op [38]):Bool)=false:=by grind
    rw[p8];simp only[aY];by_cases aw:ar f= .line
    ·rw[aw];unfold jB;dsimp only;refine aZ.Br dg.k j G λb O mD an0 og m6=>?_;obtain⟨an1,Bx⟩:=(anW t an0).1 aw;subst an1;simp only[aO];have an2:O.length<r.length:=by grind
     rw[hW (tj (by grind))];exact aZ.inl an2 ((V (k+1) O mD (by omega) (by omega) m6).mono (og.trans G))
    have EB:=NX (F:=s) t aw;have NS:=aap j;rw[EB] at NS;refine aZ.et ?_ (fo NS.2.2);dsimp only;simp only[aY];refine aZ.et ?_ (fo ((lB e).some j t));dsimp only
    have Q:∀(m:ab (Nat⊕Nat)),ar f≠ .eof->m=b6->aZ e r (dc (fw (ny false n) c no) r (m f s)) (λa r F=>((a:Int),e.st r F)) (a_ (lJ (e.st f s)) (λx=>(x.1,x.2.1,s,x.2.2.2.1,e.op,x.2.2.2.2.2)) λy=>(Empty.elim y:Option (bp ak (Int×ak)))):=by rintro m J rfl;exact⟨j.sfx,_,gp ((ur j t).2 J)⟩
    cases E:ar f with
    |line=>grind
    |word w p=>simp only[jQ,bz,n0,uR,cZ,aO];exact Q b6 (by grind) rfl
    |op o=>
     have l:(decide ((jQ (Tok.op o)).1=3))=false:=rfl;refine aZ.et ?_ ((zF l).trans (fo ((TV e c).some j t)));dsimp only;rw[l,E];simp only[aY];have aP:¬(o=[59]\/o=[38]):=by grind
     unfold jB;dsimp only;rw[aM aP];cases zG:dC c (.op o) with
     |true=>simp only[hU,aY,c9];rw[hW (tj (by grind))];exact aZ.inr G j rfl
     |false=>simp only[Bool.not_false,cond_true,Bool.false_eq_true,if_false];exact Q b6 (by grind) rfl
    |eof=>
     have x6:f=[]:=by
      cases f with
      |nil=>rfl
      |cons b u=>exfalso;have vB:(if b=10 then Tok.line else if bt (b::u)≠[] then .op (bt (b::u)) else .word (di (b::u)).1 (di (b::u)).2)=Tok.eof:=E;grind
     subst x6;have l:(decide ((jQ Tok.eof).1=3))=false:=rfl;refine aZ.et ?_ ((zF l).trans (fo ((TV e c).some j t)));dsimp only;rw[l,E,abd];simp only[aY];have nw:k<299999999:=by grind[List.length_pos_iff]
     have p9:dc (fw (ny false n) c no) r (jB c k .eof [] s)=dc (fw (ny false n) c no) [] ((if c= .text then aU (.inr (k+1)) else b5 (if no||k+1>0 then [] else [120]):ab (Nat⊕Nat)) [] s):=by show(if([]:H).length<r.length then _ else _)=_;rw[ba (by grind),cL];congr 1;unfold fw;rw[aJ (bL t),E,if_pos rfl]
     rw[p9];by_cases aq:c= .text
     ·rw[if_pos aq];simp only[aq,decide_true,Bool.not_true,cond_false];rw[hW nw];exact⟨G,j,rfl⟩
     ·rw[if_neg aq];simp only[aq,decide_false,Bool.not_false,cond_true];exact(((ur j t).1 E).bind λ_=> .inr rfl).sA
   unfold fw;have JD:(0<(k:Int))↔k>0:=by omega
   have bk:(bif no then true else decide (0<(k:Int)))=(no||decide (k>0)):=by simp
   have m5:=X;dsimp only;have avb:bg r=none->aZ e r (dc (fw (ny false n) c no) r (N (ny false n) (λ_=>N (bN []) (jB c k)) r F)) (λa r F=>((a:Int),e.st r F)) (a_ (AS R (e.st r F)) (λx=>x) λ_=>none):=by intro Y;obtain⟨nd,ds,M⟩:=abf false n (F:=F) Y;have U:=Ur hA bj r F h;have Us:hR (fv (r3 false n)) r F= .more [] nd ds:=M;rw[Us] at U;rw[dx M];obtain⟨st,bu,aV⟩:=U;exact⟨st,gp bu,aV⟩
   have Ut:∀(g:H)(I:ag)(wR:ak->Option (bp ak (Int×ak)))(x:dn (Nat⊕Nat)),ed e g I->(∃nd ds,ny false n g I= .more [] nd ds)->(∃nd ds,x= .more [] nd ds)->aZ e r (dc (fw (ny false n) c no) r x) (λa r F=>((a:Int),e.st r F)) (a_ (AS R (e.st g I)) (λx=>x) wR):=by rintro g I wR x Z ⟨nd,ds,M⟩ ⟨avc,avd,rfl⟩;have U:=Ur hA bj g I Z;have Us:hR (fv (r3 false n)) g I= .more [] nd ds:=M;rw[Us] at U;obtain⟨st,bu,aV⟩:=U;exact⟨st,gp bu,aV⟩
   have qw:∀{g:H},g<:+r->ar g≠ .eof->r≠[]:=by rintro g s2 J rfl;have:g=[]:=List.suffix_nil.1 s2;subst this;exact J rfl
   cases ave:(no||decide (k>0)) with
   |true=>
    have S:(bif no then true else decide (0<(k:Int)))=true:=by grind
    refine aZ.et ?_ (zF S);refine aZ.tst dg.k (TV e c) h λan q6 s1 q i1=>?_;dsimp only;rw[S];simp only[aO,Ps];by_cases hf:ar an= .eof
    ·rw[ba hf,hf,abd];by_cases aq:c= .text
     ·rw[ba aq];simp only[aq,bz,aO];exact aZ.inr s1 q rfl
     ·rw[aM aq];simp only[aq,bG,aY];have ob:an=[]:=by
       cases an with
       |nil=>rfl
       |cons b u=>exfalso;have vB:(if b=10 then Tok.line else if bt (b::u)≠[] then .op (bt (b::u)) else .word (di (b::u)).1 (di (b::u)).2)=Tok.eof:=hf;grind
      subst ob;exact Ut [] F _ _ q (abg false n F) ⟨_,_,rfl⟩
    ·rw[aM hf];cases zG:dC c (ar an) with
     |true=>simp only[aO,c9];exact aZ.inr s1 q rfl
     |false=>simp only[aY,fR,cZ];exact m5 an (qw s1 hf) s1 q
   |false=>
    have S:(bif no then true else decide (0<(k:Int)))=false:=by grind
    refine aZ.et ?_ (aal (by grind));dsimp only;rw[S];simp only[aY,Bool.false_and,fR,cZ];cases Y:bg r with
    |none=>rw[dx (nd:=(b8 [] F [120]).1) (ds:=(b8 [] F [120]).2) (op:=[]) (by rw[jC Y];rfl)];exact Ut r F _ _ h (abf false n Y) ⟨_,_,rfl⟩
    |some an=>
     rw[aJ (bL Y)];have s1:=eV Y;by_cases hf:ar an= .eof
     ·rw[ba hf];have ob:an=[]:=by
       cases an with
       |nil=>rfl
       |cons b u=>exfalso;have vB:(if b=10 then Tok.line else if bt (b::u)≠[] then .op (bt (b::u)) else .word (di (b::u)).1 (di (b::u)).2)=Tok.eof:=hf;grind
      subst ob
      have eW:∃nd ds,ny false n r F= .more [] nd ds:=by rw[abe false n Y];simp[abg]
      by_cases aq:c= .text
      ·grind
      ·rw[aM aq];exact Ut r F _ _ h eW ⟨_,_,rfl⟩
     ·rw[aM hf];have:=m5 r (qw s1 hf) gr h;have a2:N (ny false n) (λ_=>N (bN []) (jB c k)) an F=N (ny false n) (λ_=>N (bN []) (jB c k)) r F:=by grind[abe,N]
      rw[a2];exact this
 exact T bB 0 an aD (ml (k1 (e1 q.sfx) q.b4)) (by have:=e1 q.sfx;have:=q.b4;omega) q
theorem an3{k:Nat}(hA:wP (lv k) n):o1 (lv (k+1)) n:=⟨λe c no aq bj=>by have:=abh hA bj c no (.inl aq);intro r F h;rw[abc];exact this r F h⟩
theorem jl:∀(k n:Nat),n<=30->(2*n+1<=k->Dx (lv k) n)/\(2*n+2<=k->NI (lv k) n/\o1 (lv k) n):=by
 intro k;induction k with
 |zero=>omega
 |succ k b=>
  have a:∀n,n<=30->2*n<=k->Below (lv k) n:=λn af h=>
   ⟨af,λm hm=>((b m (by omega)).2 (by omega)).1,λm hm=>((b m (by omega)).2 (by omega)).2⟩
  intro n af;refine⟨λh=>am_ (a n af (by omega)),λh=>⟨ana (a n af (by omega)) ((b n af).1 (by omega)),an3 λm hm=>?_⟩⟩;exact {toBelow:=a m (by omega) (by omega),u0:=(b m (by omega)).1 (by omega)}
theorem an4(dy:S.length<=99999999):aZ ⟨S,0,[],0⟩ S (iA false 30 S) (λa r F=>((a:Int),(⟨S,0,[],0⟩:cN).st r F)) (s_.k5 (S,0,[],0,[],0) 0 true):=by
 have b:ed ⟨S,0,[],0⟩ S []:=⟨dy,gr,by simp,by simp⟩
 have az:∃k,bB=k+1/\62<=k:=by
  refine⟨bB-1,?_,?_⟩
  ·rw[gM]
  simp[gM]
 obtain⟨k,az,c⟩:=az;have hA:wP (lv k) 30:=by intro m hm;exact {le:=by omega,u1:=λj d=>((jl k j (by omega)).2 (by omega)).1,ls:=λj d=>((jl k j (by omega)).2 (by omega)).2,u0:=(jl k m hm).1 (by omega)}
 have:=abh hA (e:=⟨S,0,[],0⟩) (show(0:Int)=30- ((30:Nat):Int) by decide) .text true (.inr rfl) S [] b;unfold iA;rw[abc];have f:(⟨S,0,[],0⟩:cN).st S []=(S,0,[],0,[],0):=by show(S,ax S S,([]:ag),(0:Int),([]:bs),(0:Int))=_;rw[Jz]
 rw[f] at this;have g:s_.k5 (S,0,[],0,[],0) 0 true=Fq (lv k) (S,0,[],0,[],0) 0 true:=by unfold s_;rw[az];rfl
 rw[g];exact this
def de(s:H):H:=if s.getLast?=some 10 then s else s++[10]
theorem an6(s:H)(Y:s.length<=99999999):Na s [10]=some (decide (s.getLast?=some 10)):=by
 unfold Na;rcases List.eq_nil_or_concat s with rfl|⟨t,b,rfl⟩
 ·decide
 ·rw[List.concat_eq_append] at*;have aw:(t++[b]).length=t.length+1:=by simp
  have a:W (((t++[b]).length:Int)- (([10]:H).length:Int))=(t.length:Int):=by grind[dO,List.length_singleton]
  simp only[a];have c:b3 (t++[b]) (t.length:Int) ((t++[b]).length:Int)=[b]:=by simp[b3]
  rw[c,b2 (by omega)];have M:(([10]:H).length:Int)<=((t++[b]).length:Int):=by grind
  simp_all
theorem an7(s:H)(Y:s.length<=99999999):(((s.length+([10]:H).length:Nat):Int)<=9223372036854775807):=by grind
theorem abl(s:H)(Y:s.length<=99999999):a4 (((s.length+([10]:H).length:Nat):Int)<=9223372036854775807) (some (s++[10]))=some (s++[10]):=by exact ba (an7 s Y)
theorem an8(s:H)(Y:s.length<=99999999)(b:Bool):(ay (ay (some b) λ(a:Bool)=>some a) λ(c:Bool)=>
 (bif c then
 some s
 else
 (a4 (((s.length+([10]:H).length:Nat):Int)<=9223372036854775807)<|
 some (s++([10]:H)))))=some (bif b then s else s++[10]):=by
 cases b with
 |true=>rfl
 |false=>exact(aS (aS rfl)).trans ((aY _ _).trans (abl s Y))
theorem abm(s:H)(Y:s.length<=99999999):Dg s=some (de s):=by unfold Dg S_;rw[an6 s Y,an8 s Y];simp[de,ba,decide_eq_true,aM,e3]
theorem Uu(s:H)(Y:(de s).length<=99999999):match iA false 30 (de s) with
  | .ok a _ _=>xM s=some (((0:Int),((de s).length:Int)),([]:bs),(a:Int))
  | .more op _ _=>xM s=some (((1:Int),((de s).length:Int)),op,(0:Int))
  | .bad r=>r<:+de s/\∃op,xM s=some (((2:Int),ax (de s) r),op,(0:Int))
  | .deep _=>∃(p:Int)(op:bs),xM s=some (((2:Int),p),op,(0:Int))/\p<(de s).length:=by
 have aw:s.length<=(de s).length:=by grind[de]
 have h:=an4 Y;unfold xM;rw[abm s (by omega),aS rfl];cases ah:iA false 30 (de s) with
 |ok a r F=>rw[ah] at h;obtain⟨M,U,b⟩:=h;simp only;rw[b];rfl
 |more op nd ds=>rw[ah] at h;obtain⟨st,M,U⟩:=h;grind
 |bad r=>rw[ah] at h;obtain⟨M,st,U⟩:=h;grind
 |deep q=>rw[ah] at h;obtain⟨p,st,U,b⟩:=h;refine⟨p,st.2.2.2.2.1,?_,b⟩;rw[U]
end Go.Eng
namespace Go.Eng
variable{D cX:ab Unit}{F:ag}{α σ:Type}{dq:Option (ab Unit)}{f:σ->ab (σ⊕α)}{fr tabs:Bool}{lo:Option dD}{n:Nat}{r r0 u x:H}
def eA(F:ag):Nat:=(fl F).length
theorem abn:∀(a b:ag),fl (a++b)=fl a++fl b
 |[],b=>rfl
 |d::a,b=>by simp[fl,abn]
theorem abo(a b:ag):eA (a++b)=eA a+eA b:=by simp[eA,abn]
theorem zL:∀(x nd:H)(ds:ag),(b8 nd ds x).1.length+eA (b8 nd ds x).2=nd.length+eA ds+x.length
 |[],nd,ds=>rfl
 |b::x,nd,ds=>by
  unfold b8;split
  ·rw[zL x];grind[List.length_append,List.length_cons,eA,fl,List.length_nil]
  ·rw[zL x];simp only[Hj,nB,Hl];omega
def eu(c:Nat){α:Type}(r:H)(F:ag):dn α->Prop
 | .ok _ r' a=>eA a+100*r'.length<=eA F+100*r.length
 | .more _ nd ds=>nd.length+eA ds<=eA F+100*r.length+c
 | .bad _=>True
 | .deep _=>True
def aK(c:Nat){α:Type}(f:ab α):Prop:=∀r F,eu c r F (f r F)
section
theorem aK.mono{c b:Nat}{f:ab α}(h:aK c f)(aq:c<=b):aK b f:=by
 intro r F;have:=h r F;cases hm:f r F with
 |more op nd ds=>grind[eu]
 |ok a an d=>rw[hm] at this;exact this
 |bad _=>trivial
 |deep _=>trivial
theorem aK.N{α β:Type}{c:Nat}{m:ab α}{k:α->ab β}(hm:aK c m)(az:∀a,aK c (k a)):aK c (Eng.N m k):=by
 intro r F;unfold Eng.N;have:=hm r F;cases h:m r F with
 |ok a an b=>rw[h] at this;simp only[eu] at this⊢;have U:=az a an b;grind[eu]
 |more op nd ds=>rw[h] at this;exact this
 |bad _=>trivial
 |deep _=>trivial
theorem aK.aG{α:Type}{c:Nat}{m:ab α}(h:aK c m)(x:H):aK (c+x.length) (m.aG x):=by
 intro r F;unfold ab.aG;have:=h r F;cases hm:m r F with
 |more op nd ds=>grind[eu,zL]
 |ok a an b=>rw[hm] at this;exact this
 |bad _=>trivial
 |deep _=>trivial
theorem aK.named{α:Type}{c:Nat}{m:ab α}(h:aK c m)(x:H):aK c (m.named x):=by
 intro r F;unfold ab.named;have:=h r F;cases hm:m r F with
 |more op nd ds=>rw[hm] at this;exact this
 |ok a an b=>grind
 |bad _=>trivial
 |deep _=>trivial
theorem aK.b5{α:Type}{c:Nat}{x:H}(h:x.length<=c):aK c (Eng.b5 x:ab α):=by intro r F;grind[Eng.b5,eu,zL,List.length_nil]
theorem aK.b6{c:Nat}:aK c (Eng.b6:ab α):=λr F=>trivial
theorem aK.ret{c:Nat}(a:α):aK c (aU a):=λr F=>cS _
theorem aK.ite{c:Nat}{p:Prop}[Decidable p]{f g:ab α}(hf:aK c f)(bk:aK c g):aK c (if p then f else g):=by grind
theorem aK.iT{c:Nat}{f:ab Unit}(hf:∀r F,match f r F with| .ok _ r' b=>r'.length<=r.length/\b=F| .more _ nd ds=>nd.length<=c/\ds=F|_=>True):aK c f:=by
 intro r F;have:=hf r F;cases hm:f r F with
 |ok a an d=>rw[hm] at this;obtain⟨M,rfl⟩:=this;grind[eu]
 |more op nd ds=>rw[hm] at this;obtain⟨M,rfl⟩:=this;grind[eu]
 |bad _=>trivial
 |deep _=>trivial
theorem aK.cM{c:Nat}(k:Nat):aK c (bV k):=aK.iT λr F=>⟨by simp,rfl⟩
theorem aK.c4{c:Nat}(h:x.length<=c):aK c (bN x):=by
 intro r F;cases Y:bg r with
 |none=>rw[jC Y];exact aK.b5 (α:=Tok) h r F
 |some r'=>rw[bL Y];have:=(eV Y).length_le;grind[eu]
theorem aK.rep{c:Nat}(hf:∀s,aK c (f s))(s:σ):aK c (cD f s):=by
 have d:∀(bF:Nat)(s:σ)(r:H)(F:ag),r.length<=bF->eu c r F (cD f s r F):=by
  intro bF;induction bF with
  |zero=>
   intro s r F g;rw[cL];have:=hf s r F;unfold dc;cases hm:f s r F with
   |ok x an e=>
    rw[hm] at this;cases x with
    |inl s'=>simp only;rw[aM (by omega)];trivial
    |inr a=>exact this
   |more _ _ _=>rw[hm] at this;exact this
   |bad _=>trivial
   |deep _=>trivial
  |succ bF h=>
   intro s r F g;rw[cL];have:=hf s r F;unfold dc;cases hm:f s r F with
   |ok x an e=>
    rw[hm] at this;cases x with
    |inl s'=>
     simp only[eu] at this;simp only;split
     ·have U:=h s' an e (by omega);cases i:cD f s' an e with
      |ok b j k=>grind[eu]
      |more op nd ds=>grind[eu]
      |bad _=>trivial
      |deep _=>trivial
     ·trivial
    |inr a=>exact this
   |more _ _ _=>rw[hm] at this;exact this
   |bad _=>trivial
   |deep _=>trivial
 exactλr F=>d _ s r F (cS _)
theorem aK.exp{c:Nat}(b:Tok->Bool)(k:Nat):aK c (mL b k):=(aK.c4 (by simp)).N λt=>aK.ite (aK.b5 (by simp)) (aK.ite (aK.cM _) aK.b6)
theorem aK.jr{c:Nat}(o:H):aK c (Eng.jr o):=aK.exp _ _
theorem aK.cI{c:Nat}(o:H):aK c (Eng.cI o):=aK.exp _ _
theorem Uv:∀(F:ag)(t nd:H),kg F t= .inr nd->nd.length<=eA F
 |[],t,nd,h=>by cases h
 |d::ds,t,nd,h=>by
  unfold kg at h;split at h
  ·have:=Uv ds _ nd h;grind[eA,fl,List.length_append,List.length_cons]
  ·cases h;exact cS _
theorem aK.nl{c:Nat}:aK c kh:=by
 intro r F;cases r with
 |nil=>exact cS _
 |cons b t=>
  unfold kh;simp only;cases a:kg F t with
  |inl r'=>have:=((wI F t [] r' a).1).length_le;grind[eu,eA,fl,List.length_nil,List.length_cons]
  |inr nd=>have:=Uv F t nd a;grind[eu,eA,fl,List.length_nil]
theorem aK.lines{c:Nat}:aK c cQ:=aK.rep (λ_=>(aK.c4 (by simp)).N λt=>aK.ite (aK.nl.N λ_=>aK.ret _) (aK.ret _)) _
theorem aK.part(hD:aK 10 D)(d:∀q,dq=some q->aK 50 q):aK 11 (cC D dq):=by
 intro r F;cases r with
 |nil=>exact cS _
 |cons b t=>
  have e:∀(f:H->Option H)(x:UInt8),(∀r q,f r=some q->q.length<=r.length)->eu 11 (b::t) F (ki f [x] t F):=by grind[ki,eu,List.length_cons,List.length_nil]
  unfold cC;simp only;split
  ·grind[eu,List.length_drop,List.length_cons]
  ·split
   ·exact e _ _ λr q g=>(c r q g)
   ·split
    ·exact hD.mono (by decide) _ _
    ·cases dq with
     |none=>grind[eu,List.length_cons]
     |some q=>
      simp only;split
      ·grind[Nat.le_of_lt,A_]
      ·split
       ·have:=d q rfl t F;cases hm:q t F with
        |ok a an i=>grind[eu,List.length_cons]
        |more op nd ds=>grind[eu,List.length_cons]
        |bad _=>trivial
        |deep _=>trivial
       grind[eu,List.length_cons]
where
 c:∀(r q:H),gx r=some q->q.length<=r.length:=by
  intro r q h
  have:∀(n:Nat)(r q:H),r.length<=n->gx r=some q->q.length<=r.length:=by
   intro n;induction n with
   |zero=>simp_all[tA,Nat.le_zero,gx]
   |succ n j=>
    intro r q af h;cases r with
    |nil=>grind
    |cons b t=>unfold gx at h;grind
  exact this _ r q (cS _) h
theorem aK.Du{p:ab Unit}(ah:aK n p)(c:UInt8):aK n (iQ c p):=by
 refine aK.rep (λ_=>?_) _;intro r F;cases r with
 |nil=>exact aK.b5 (α:=Unit⊕Unit) (by simp) [] F
 |cons b t=>
  simp only;split
  ·grind[eu,List.length_cons]
  ·exact(ah.N (λ_=>aK.ret _)) _ _
end
theorem eu.mono{c:Nat}{b:ag}{x:dn α}(h:eu c r F x)(M:eA F+100*r.length<=eA b+100*r0.length):eu c r0 b x:=by
 cases x with
 |ok a an d=>grind[eu]
 |more op nd ds=>grind[eu]
 |bad _=>trivial
 |deep _=>trivial
theorem eu.qI{c b:Nat}{x:dn α}(h:eu c r F x)(M:c<=b):eu b r F x:=by
 cases x with
 |ok a an d=>exact h
 |more op nd ds=>grind[eu]
 |bad _=>trivial
 |deep _=>trivial
theorem eu.less{c b k:Nat}{x:dn α}(h:eu c r F x)(aw:r.length+k<=r0.length)(aq:c<=b+100*k):eu b r0 F x:=by
 cases x with
 |ok a an d=>grind[eu]
 |more op nd ds=>grind[eu]
 |bad _=>trivial
 |deep _=>trivial
theorem eu.N{c:Nat}{α β:Type}{m:ab α}{k:α->ab β}{r v:H}{F:ag}(h:eu c r F (m v F))(az:∀a,aK c (k a)):eu c r F (Eng.N m k v F):=by
 unfold Eng.N;cases hm:m v F with
 |ok a an b=>rw[hm] at h;have:=az a an b;exact this.mono (by grind[eu])
 |more op nd ds=>rw[hm] at h;exact h
 |bad _=>trivial
 |deep _=>trivial
theorem aK.Uw{c a:Nat}{k:Nat}{f:ab α}(hf:aK c f)(aw:k<=r.length)(aq:c<=a+100*k):eu a r F (Eng.N (bV k) (λ_=>f) r F):=
 (hf (r.drop k) F).less (by grind) aq
section
variable(hD:aK 10 D)
include hD
theorem aK.double:aK 50 (eP D):=((((aK.Du (n:=11) (aK.part hD (dq:=none) (λq h=>by cases h)) 34)).aG [34]).named [34]).mono (by decide)
theorem aK.zC:aK 11 (cC D (some (eP D))):=aK.part hD λq h=>by grind[aK.double]
theorem aK.param:aK 12 (qp D):=(aK.Du (aK.zC hD) 125).aG [125]
theorem aK.cR:aK 11 (Eng.cR D):=by
 refine aK.rep (λ_=>?_) _;intro r F;cases r with
 |nil=>exact aK.b5 (α:=Unit⊕Unit) (by simp) [] F
 |cons b t=>
  simp only;split
  ·exact cS _
  ·exact((aK.zC hD).N (λ_=>aK.ret _)) _ _
theorem aK.jP(a:x.length<=11):aK 11 (Eng.jP D x):=(aK.c4 a).N λt=>by grind[aK.b5,aK.cR,aK.b6]
omit hD in
theorem an_{x:H×H×H}(h:dP r=some x):x.1.length+x.2.1.length<=r.length+1/\x.2.2.length<=1:=by
 have Y:=aaE _ r (cS _);cases aq:gQ r with
 |none=>grind
 |some y=>
  obtain⟨q,b⟩:=y;rw[aq] at Y;obtain⟨w,Z,aB⟩:=Y;rw[h] at aB;have c:=aaH _ _ _ aq;cases a:dl (w++b) 0 with
  |none=>grind
  |some d=>rw[a] at aB;cases aB;have:=aaf _ _ (cS _) 0 d a;grind
omit hD in
theorem aK.oM{v:H}(aw:v.length+1<=r0.length):eu 10 r0 F (gm tabs v F):=by
 have a:∀d:H,eA (F++[(d,tabs)])=eA F+d.length+1:=by intro d;rw[abo];grind[eA,fl]
 have M:eu 10 r0 F (.more [] [120] (F++[([120],tabs)]):dn Unit):=by grind[eu,List.length_cons,List.length_nil]
 unfold gm;cases Y:bg v with
 |none=>exact M
 |some r'=>
  have b:=(eV Y).length_le;simp only;cases c:ar r' with
  |eof=>exact M
  |line=>trivial
  |op o=>trivial
  |word w p=>
   simp only;cases aB:dP r' with
   |none=>trivial
   |some x=>obtain⟨d,q,e⟩:=x;obtain⟨f,g⟩:=an_ aB;have h:=(Nn _ _ _ (cS _) aB).length_le;grind[eu,List.length_nil]
theorem aK.gP:aK 11 (dM D):=by
 intro r F;unfold dM;cases Y:bg r with
 |none=>
  have:fI r F=Eng.b5 [] r F:=by grind[fI]
  rw[dx (nd:=(b8 [] F []).1) (ds:=(b8 [] F []).2) (op:=[]) this];exact aK.b5 (α:=Bool) (x:=[]) (by simp) r F
 |some r'=>
  have d:=(eV Y).length_le;have e:(r'.dropWhile cd).length<=r'.length:=(Bb).length_le;by_cases Z:fm (bt (r'.dropWhile cd))=true
  ·have a:fI r F= .ok (some (bt (r'.dropWhile cd))) ((r'.dropWhile cd).drop (bt (r'.dropWhile cd)).length) F:=by simp_all[fI,ba]
   rw[aJ a];have M:=T_ Z;have U:=Tl (r:=r'.dropWhile cd);generalize r'.dropWhile cd=q at*;have aw:(q.drop (bt q).length).length+1<=r.length:=by grind
   generalize q.drop (bt q).length=v at*;simp only;refine eu.N ?_ λ_=>aK.ret _;by_cases b:bt q=[60,60]
   ·rw[ba b];exact(aK.oM (tabs:=false) (F:=F) aw).qI (by decide)
   ·rw[aM b];by_cases c:bt q=[60,60,45]
    ·rw[ba c];exact(aK.oM (tabs:=true) (F:=F) aw).qI (by decide)
    ·rw[aM c];exact(aK.jP hD (by decide) v F).less aw (by decide)
  ·have a:fI r F= .ok none r' F:=by simp_all[fI,aM]
   rw[aJ a];show eA F+100*r'.length<=eA F+100*r.length;omega
theorem aK.l4:aK 11 (gH D):=aK.rep (λ_=>(aK.gP hD).N λb=>aK.ret _) _
theorem aK.simple(fr:Bool):aK 11 (gS fr D):=aK.rep (λ_=>(aK.gP hD).N λb=>aK.ite (aK.ret _) ((aK.c4 (by simp)).N λt=>by
 cases t with
 |word _ _=>grind[aK.cR,aK.N,aK.ret]
 |op o=>simp[aK.ite,aK.b6,aK.ret]
 |_=>simp[aK.ret])) _
end
theorem aK.N0{c:Nat}(x:H)(h:x.length<=c):aK c (cQ.aG x):=((aK.lines (c:=0)).aG x).mono (by omega)
theorem aK.pipe{c2:ab Unit}(h:aK 50 c2):aK 50 (fv c2):=(aK.c4 (by decide)).N λt=>(aK.ite (aK.cM _) (aK.ret _)).N λ_=>h.N λ_=>
 aK.rep (λ_=>(aK.c4 (by simp)).N λt=>aK.ite ((aK.cM _).N λ_=>(aK.N0 _ (by decide)).N λ_=>h.N λ_=>aK.ret _) (aK.ret _)) _
theorem aK.oc{a:ab Unit}(h:aK 50 a):aK 50 (hR a):=h.N λ_=>
 aK.rep (λ_=>(aK.c4 (by simp)).N λt=>aK.ite ((aK.cM _).N λ_=>(aK.N0 _ (by decide)).N λ_=>h.N λ_=>aK.ret _) (aK.ret _)) _
theorem aK.list(h:aK 50 cX)(c:Ctx)(no:Bool):aK 50 (np cX c no):=(aK.N0 _ (by grind)).N λ_=>aK.rep (λk=>(aK.c4 (by grind)).N λt=>
 aK.ite (aK.ite (aK.ret _) (aK.b5 (by grind))) (aK.ite (aK.ret _) (h.N λ_=>(aK.c4 (by simp)).N λt=>by
  cases t with
  |eof=>simp[aK.ret]
  |line=>exact aK.lines.N λ_=>aK.ret _
  |word _ _=>exact aK.b6
  |op o=>exact aK.ite ((aK.cM _).N λ_=>aK.lines.N λ_=>aK.ret _) (aK.ite (aK.ret _) aK.b6)))) _
structure zM(l:dD):Prop where
 ls:∀c no,aK 50 (l.ls c no)
 pm:aK 12 l.pm
 cp:∀r F,fJ (ar r)=true->eu 50 r F (l.cp (ar r) r F)
 rd:aK 11 l.rd
 dl:aK 10 l.dl
section
variable{l:dD}(aw:zM l)
include aw
theorem aK.body(a:x.length<=60):aK 60 (h3 l x):=(((aK.cI (c:=0) gd).aG x).mono (by omega)).N λ_=>(((aw.ls _ _).aG _).mono (by decide)).N λ_=>aK.cI _
theorem aK.cond:aK 70 (q4 l):=aK.rep (λ_=>(((aw.ls _ _).aG _).mono (by decide)).N λ_=>(aK.cI _).N λ_=>(((aw.ls _ _).aG _).mono (by decide)).N λ_=>(aK.c4 (by simp)).N λt=>
 aK.ite ((aK.cI _).N λ_=>aK.ret _) (aK.ite ((aK.cI _).N λ_=>(((aw.ls _ _).aG _).mono (by decide)).N λ_=>(aK.cI _).N λ_=>aK.ret _) ((aK.cI _).N λ_=>aK.ret _))) _
theorem aK.words:aK 11 (oL l.dl):=aK.rep (λ_=>(aK.c4 (by simp)).N λt=>by
 cases t with
 |eof=>simp[aK.b5]
 |word _ _=>exact(aK.cR aw.dl).N λ_=>aK.ret _
 |line=>simp[aK.ret]
 |op o=>simp[aK.ite,aK.cM,aK.N,aK.ret,aK.b6]) _
theorem aK.for_:aK 60 (pM l l.dl):=(aK.c4 (by decide)).N λt=>by
 cases t with
 |eof=>exact aK.b5 (by decide)
 |word w p=>
  cases p with
  |true=>
   refine aK.ite ((aK.cM _).N λ_=>((aK.aG (c:=11) ((aK.c4 (by simp)).N λt=>?_) dY).mono (by decide)).N λ_=>aK.body aw (by decide)) aK.b6
   exact aK.ite ((aK.cM _).N λ_=>aK.lines.N λ_=>aK.ret _) (aK.lines.N λ_=>(aK.c4 (by simp)).N λt=>
    aK.ite ((aK.cM _).N λ_=>(aK.words aw).N λ_=>aK.lines.N λ_=>aK.ret _) (aK.ret _))
  |false=>exact aK.b6
 |_=>exact aK.b6
theorem aK.uk:aK 12 (lb l.dl):=aK.rep (λ_=>(aK.c4 (by decide)).N λt=>by
 cases t with
 |eof=>simp[aK.b5]
 |word _ _=>
  refine((aK.cR aw.dl).aG [41]).N λ_=>(aK.c4 (by decide)).N λt=>?_;cases t with
  |op o=>exact aK.ite ((aK.cM _).N λ_=>aK.ret _) (aK.ite ((aK.cM _).N λ_=>aK.ret _) aK.b6)
  |eof=>simp[aK.b5]
  |_=>exact aK.b6
 |_=>exact aK.b6) _
theorem aK.items:aK 50 (nn l l.dl):=aK.rep (λ_=>aK.lines.N λ_=>(aK.c4 (by simp)).N λt=>aK.ite (aK.b5 (by simp)) (aK.ite ((aK.cM _).N λ_=>aK.ret _)
 ((aK.ite (aK.cM _) (aK.ret _)).N λ_=>((aK.uk aw).mono (by decide)).N λ_=>(aw.ls _ _).N λ_=>(aK.c4 (by simp)).N λt=>aK.ite ((aK.cM _).N λ_=>aK.ret _) (aK.ret _)))) _
theorem aK.vz:aK 60 (q5 l l.dl):=(aK.c4 (by decide)).N λt=>by
 cases t with
 |eof=>exact aK.b5 (by decide)
 |word _ _=>refine((aK.aG (c:=11) ((aK.cR aw.dl).N λ_=>aK.lines.N λ_=>(aK.c4 (by simp)).N λt=>aK.ite (aK.b5 (by simp)) (aK.ret _)) ([32]++eb++[10]++dt)).mono (by decide)).N λt=>?_;exact aK.ite ((aK.cM _).N λ_=>((aK.items aw).aG _).mono (by decide)) aK.b6
 |_=>exact aK.b6
theorem eu.kind(aq:fJ (ar r)=true):eu 50 r F (hd l (ar r) r F):=by
 obtain⟨c,d⟩:=aa2 aq;have e:(mM (ar r)).length<=r.length:=by
  cases a:ar r with
  |eof=>rw[a] at aq;cases aq
  |line=>rw[a] at aq;cases aq
  |op o=>
   have:=(ib a).2.1.length_le;rw[a] at aq;have b:o=[40]:=by grind[fJ]
   subst b;exact this
  |word w p=>
   rw[a] at aq;cases p with
   |false=>cases aq
   |true=>exact(q8 a).1.length_le
 rw[aa3 aq];have az:aK 70 (DE l (ar r)):=by
  unfold DE;cases a:ar r with
  |op o=>exact(((aw.ls _ _).aG _).mono (by decide)).N λ_=>aK.jr _
  |word w p=>refine aK.ite ((((aw.ls _ _).aG _).mono (by decide)).N λ_=>aK.cI _) (aK.ite (aK.cond aw) (aK.ite ((aK.for_ aw).mono (by decide)) (aK.ite ((aK.vz aw).mono (by decide)) ?_)));exact(((aw.ls _ _).aG _).mono (by decide)).N λ_=>(aK.body aw (by decide)).mono (by decide)
  |_=>exact aK.b6
 exact(az _ F).less (k:=1) (by grind) (by decide)
end
theorem aK.Ux:∀(t:H)(d n:Nat),ij d t= .more n->n<=d+t.length+2
 |[],d,n,h=>by grind[ij]
 |b::t,d,n,h=>by have a:=aK.Ux t;unfold ij at h;grind
theorem aK.um(aw:∀l,lo=some l->zM l):aK 10 (dj lo):=by
 intro r F;unfold dj;split
 ·rename_i h;rw[BV] at h;obtain⟨t,rfl⟩:=h;show eu 10 _ F (oK t F);unfold oK;cases Y:ij 0 t with
  |ok q=>have:=(Bd 0 t q Y).length_le;grind[eu,List.length_append]
  |more n=>have:=aK.Ux t 0 n Y;grind[eu,List.length_append,List.length_replicate,List.length_cons,List.length_nil]
  |bad q=>trivial
 ·split
  ·rename_i h;rw[BV] at h;have U:=h.length_le;cases lo with
   |none=>trivial
   |some l=>have a:=aw l rfl;have ah:aK 60 (uh l):=((((a.ls _ _).aG _).mono (by decide)).named _).N λ_=>aK.jr _;exact aK.Uw ah (k:=2) (by omega) (by decide)
  ·split
   ·rename_i h;rw[BV] at h;have U:=h.length_le;cases lo with
    |none=>trivial
    |some l=>exact aK.Uw ((aw l rfl).pm.named _) (k:=2) (by omega) (by decide)
   grind[eu,List.length_drop]
theorem aK.function(aw:∀l,lo=some l->zM l):eu 50 (40::u) F (kU fr lo (40::u) F):=by
 unfold kU;cases lo with
 |none=>trivial
 |some l=>
  have b:=aw l rfl;dsimp only;split
  ·have af:∀{α:Type}{c:Nat}{m:ab α}{r:H}{F:ag}{x:H},eu c r F (m r F)->eu c r F (m.named x r F):=by
    intro α c m r F x h;unfold ab.named;cases hm:m r F with
    |more op nd ds=>rw[hm] at h;exact h
    |ok a an d=>grind
    |bad _=>trivial
    |deep _=>trivial
   refine af ?_;refine aK.Uw (c:=60) (k:=1) ?_ (by simp) (by decide);refine(aK.c4 (by decide)).N λt=>aK.ite (aK.b5 (by decide)) (aK.ite ((aK.cM _).N λ_=>(aK.N0 _ (by decide)).N λ_=>?_) aK.b6);intro r F;cases Y:bg r with
   |none=>rw[dx (jC Y)];exact aK.b5 (α:=Unit) (by decide) r F
   |some r'=>
    rw[aJ (bL Y)];have e:=(eV Y).length_le;refine eu.mono (r:=r') (F:=F) ?_ (by omega);split
    ·exact aK.b5 (α:=Unit) (by decide) _ _
    ·split
     ·rename_i aq;exact(eu.N ((b.cp r' F aq).qI (by decide)) λ_=>aK.ite (b.rd.mono (by decide)) (aK.ret _))
     ·trivial
  ·trivial
theorem aK.command(aw:∀l,lo=some l->zM l):aK 50 (fA fr lo (dj lo)):=by
 have hD:=aK.um aw;intro r F;unfold fA;cases Y:bg r with
 |none=>rw[dx (jC Y)];exact aK.b5 (α:=Unit) (by decide) r F
 |some r'=>
  rw[aJ (bL Y)];have e:=(eV Y).length_le;refine eu.mono (r:=r') (F:=F) ?_ (by omega);by_cases M:ar r'= .eof
  ·rw[ba M];exact aK.b5 (α:=Unit) (by decide) _ _
  rw[aM M];by_cases aq:fJ (ar r')=true
  ·rw[ba aq];refine eu.N ?_ λ_=>(aK.l4 hD).mono (by decide);cases lo with
   |none=>trivial
   |some l=>
    have:=eu.kind (aw l rfl) aq (r:=r') (F:=F);show eu 50 r' F ((hd l (ar r')).named _ r' F);unfold ab.named;cases hm:hd l (ar r') r' F with
    |more op nd ds=>rw[hm] at this;exact this
    |ok a an f=>grind
    |bad _=>trivial
    |deep _=>trivial
  ·rw[aM aq];cases g:ar r' with
   |eof=>grind
   |line=>trivial
   |op o=>exact aK.ite (((aK.gP hD).mono (by decide)).N λ_=>(aK.simple hD fr).mono (by decide)) aK.b6 _ _
   |word w p=>
    refine aK.ite aK.b6 (((aK.gP hD).mono (by decide)).N λb=>aK.ite ((aK.simple hD fr).mono (by decide)) (((aK.cR hD).mono (by decide)).N λ_=>aK.ite ?_ ((aK.simple hD fr).mono (by decide)))) _ _;intro r F;cases Y:bg r with
    |none=>rw[dx (jC Y)];exact aK.b5 (α:=Unit) (by decide) r F
    |some d=>
     rw[aJ (bL Y)];have e:=(eV Y).length_le;refine eu.mono (r:=d) (F:=F) ?_ (by omega);by_cases c:ar d= .op [40]
     ·rw[ba c];obtain⟨u,rfl⟩:=(ib c).2.1;exact eu.N (aK.function aw) λ_=>aK.ite (aK.ret _) ((aK.l4 hD).mono (by decide))
     ·rw[aM c];exact(aK.simple hD fr).mono (by decide) _ _
theorem abp(aw:∀l,lo=some l->zM l)(b:Bool):zM {ls:=np (hR (fv (fA fr lo (dj lo)))),pm:=qp (dj lo),cp:=rU lo,rd:=gH (dj lo),dl:=dj lo,has:=b}:=by
 have hD:=aK.um aw;refine⟨λc no=>aK.list (aK.oc (aK.pipe (aK.command aw))) c no,aK.param hD,λr F aq=>?_,aK.l4 hD,hD⟩;cases lo with
 |none=>trivial
 |some l=>
  have:=eu.kind (aw l rfl) aq (r:=r) (F:=F);show eu 50 r F ((hd l (ar r)).named _ r F);unfold ab.named;cases hm:hd l (ar r) r F with
  |more op nd ds=>rw[hm] at this;exact this
  |ok a an d=>grind
  |bad _=>trivial
  |deep _=>trivial
theorem tk(fr:Bool):∀n,zM (aW fr n)
 |0=>abp (λl h=>by cases h) false
 |n+1=>abp (λl h=>by cases h;exact tk fr n) true
end Go.Eng
namespace Go.Eng
open Go Go.Proofs
variable{D:ab Unit}{F ds:ag}{R:bl}{S an r r' r0 t u x:H}{al no tabs:Bool}{b:UInt8}{c:Ctx}{α σ:Type}{dq:Option (ab Unit)}{f:σ->ab (σ⊕α)}{i m n:Nat}
theorem N1(Z:r<:+S):CX (ax S r) S.length=some (ax S r):=by grind[CX,ax,e1,pQ]
theorem aoa(dy:S.length<=1000000):∀(n:Nat)(r:H),r.length<n->r<:+S->fixF (MN S λ_=>some (-1)) n (ax S r)=some (lR S (gw r)):=by
 intro n;induction n with
 |zero=>omega
 |succ n a=>
  intro r af Z;rw[fx];generalize fixF (MN S _) n=k at a;unfold MN;cases r with
  |nil=>simp[iC,gw,lR]
  |cons b t=>
   have c:=iW (iV dy) Z;simp only[nW Z,bz,aO];rw[b2 ⟨(ho Z).1,trivial⟩];simp only[jE Z,c,rY];unfold gw;by_cases d:b=39
   ·grind[lR]
   ·simp only[d,bG,aY,cZ];grind[List.length_cons,dV]
theorem aob(dy:S.length<=1000000)(Z:r<:+S):FB S (ax S r)=some (lR S (gw r)):=by unfold FB a6;rw[N1 Z,aS rfl];grind[aoa,ml,Nat.le_trans,e1]
theorem aoc(dy:S.length<=1000000):∀(n:Nat)(r:H),r.length+1<n->r<:+S->fixF (Fz S λ_=>some (-1)) n (ax S r)=some (lR S (gx r)):=by
 intro n;induction n with
 |zero=>omega
 |succ n e=>
  intro r af Z;have h:=e1 Z;have a:n≠0->fixF (Fz S λ_=>some (-1)) n ((S.length:Int)+1)=some (-1):=by
   intro h0
   obtain⟨m,rfl⟩:∃m,n=m+1:=⟨n-1,by omega⟩
   grind[fx,Fz]
  rw[fx];generalize fixF (Fz S _) n=k at e a;unfold Fz a6;cases r with
  |nil=>simp[iC,gx,lR]
  |cons b t=>
   have f:=iW (iV dy) Z;have i:(b::t).length=t.length+1:=rfl;simp only[nW Z,bz,aO];rw[b2 ⟨(ho Z).1,trivial⟩];simp only[jE Z,f,oP,nu];unfold gx;by_cases g:b=96
   ·grind[lR]
   simp only[g,bG,aY,cZ];rw[b2 ⟨(ho Z).1,trivial⟩];by_cases d:b=92
   ·subst d;simp only[bz,aO,c9];cases t with
    |nil=>
     have:W (ax S []+1)=(S.length:Int)+1:=by grind[iC,dO]
     rw[this];exact a (by omega)
    |cons c u=>grind[iW,dV,List.length_cons]
   ·simp only[d,bG,aY,cZ];grind[dV]
theorem aod(dy:S.length<=1000000)(Z:r<:+S):C1 S (ax S r)=some (lR S (gx r)):=by unfold C1 a6;rw[N1 Z,aS rfl];grind[aoc,e1,gM]
theorem aoe(l:H)(aw:(l.length:Int)<=1048576)(a g:Int->Option (Int×Int))(y:∀d,a d=g d)(z:∀d,∃v,g d=some v):∀(m:Nat)(d k:Int),0<=d->d<=k->k<=2000000->(l.length:Int)-k<m->0<m->
  ∃v,fixF (S2 l a) m (d,k)=some v/\fixF (E6 l g) m (d,k)=some v:=by
 intro m;induction m with
 |zero=>omega
 |succ m i=>
  intro d k aB j A hm _;have az:0<=k:=by omega
  simp only[fixF,S2,E6,a4,a6];by_cases M:k<(l.length:Int)
  ·simp only[M,az,bz,aO,c9,om];rw[dO (x:=k+1) (by omega) (by omega),dO (x:=k+2) (by omega) (by omega),dO (x:=d+1) (by omega) (by omega),dO (x:=d-1) (by omega) (by omega)];have o:0<=k+1:=by omega
   have c:=λ(e:Int)(M:0<=e)(U:e<=k+1)=>i e (k+1) M U (by omega) (by omega) (by omega);have u0:=c d (by omega) (by omega);have u1:=c (d+1) (by omega) (by omega);by_cases U:k+1<(l.length:Int)
   ·have f:¬k+1=(l.length:Int):=by omega
    simp only[U,f,o,bz,bG,aO,aY,c9,om,implies_true];generalize ((at' l k).toNat:Int)=b;generalize ((at' l (k+1)).toNat:Int)=n;by_cases p:b=39
    ·grind
    by_cases q:b=34
    ·grind
    by_cases r:b=92
    ·grind
    by_cases s:b=96
    ·grind
    by_cases t:b=40
    ·grind
    by_cases h:b=41
    ·subst h;by_cases ah:0<d
     ·have u:=c (d-1) (by omega) (by omega);grind
     grind
    grind
   ·have w:((0:UInt8).toNat:Int)=0:=rfl;simp only[U,bG,aY,w,fR,false_implies,implies_true,c9];generalize ((at' l k).toNat:Int)=b;have f:k+1=(l.length:Int):=by omega
    simp only[f,bz];rw[<-f];by_cases p:b=39
    ·grind
    by_cases q:b=34
    ·grind
    by_cases r:b=92
    ·grind
    by_cases s:b=96
    ·grind
    by_cases t:b=40
    ·grind
    by_cases h:b=41
    ·subst h;by_cases ah:0<d
     ·have u:=c (d-1) (by omega) (by omega);grind
     grind
    grind
  ·simp only[M,bG,aY];simp_all
theorem aof(dy:S.length<=1000000)(Z:r<:+S):I_ S (ax S r)=some (rb S (ij 0 r)):=by
 have bh:=aat (iV dy) Z;have h0:0<=ax S r:=by grind[e1,ax]
 have hle:= @pQ r S;obtain⟨v,M,U⟩:=aoe S (by omega) (λx=>some ((-1),(W (x+2)))) (λx=>some ((-1),(W (x+2)))) (λ_=>rfl) (λd=>⟨_,rfl⟩) bB 0 (ax S r) (by omega) h0 (by omega) (by grind[gM]) (by simp[gM]);have a:I_ S (ax S r)=some v:=by unfold I_ a6;rw[N1 Z,aS rfl];exact M
 have b:E7 S (ax S r)=some v:=by unfold E7 a6;rw[JH Z,aS rfl];exact U
 grind
theorem aog{d:H}(dy:S.length<=1000000)(Z:r<:+S):IJ S (ax S r) d tabs=some (match kf d tabs r with|some q=>ax S q|none=> -1):=by
 have bh:=aao (d:=d) (tabs:=tabs) (iV dy) Z;have h0:0<=ax S r:=by grind[e1,ax]
 have hle:= @pQ r S;obtain⟨v,an,a⟩:=amD S d tabs (by omega) bB (ax S r) h0 hle (by grind[gM]) (by simp[gM]);have b:IJ S (ax S r) d tabs=some v:=by unfold IJ;rw[N1 Z,aS rfl];exact an
 have c:E0 S (ax S r) d tabs=some v:=by unfold E0;rw[JH Z,aS rfl];exact a
 grind
theorem UC(dy:S.length<=1000000)(Z:r<:+S):AU S (ax S r)=some (bt r):=by
 have M:¬ax S r<0:=by grind[e1,ax]
 unfold AU Ss;by_cases U:(S.length:Int)<=ax S r
 ·have a:r=[]:=zE.1 (show ax S r=S.length by have:= @pQ r S;omega);simp_all[bt,l2,yz,List.isPrefixOf]
 ·simp only[M,U,bG,aY];rw[aS rfl];unfold a6;show fixF (MC S (ax S r) l2 λ_=>some []) bB 0=_;rw[(aaa S (ax S r) (by omega) (by omega) (by omega) l2 (by decide) (by decide) (λ_=>some []) bB 0 (by omega) (by decide) (by rw[gM];decide) (by simp[gM])).1];rw[TS Z];grind[bt,Lib.hasPrefix,List.isPrefixOf,List.find?,l2]
theorem N2(w:H)(l:bs)(aw:l.length<=1000):AW w l=some (l.contains w):=by
 have a:∀(n i:Nat),l.length-i<n->i<=l.length->fixF (MH w l λ_=>some false) n (i:Int)=some ((l.drop i).contains w):=by
  intro n;induction n with
  |zero=>omega
  |succ n b=>
   intro i af bh;rw[fx];generalize fixF (MH w l _) n=k at b;unfold MH;by_cases c:i<l.length
   ·have d:(i:Int)<(l.length:Int):=by omega
    have e:l.drop i=at' l (i:Int)::l.drop (i+1):=by rw[Pu c];simp_all[at',aeP,aeS]
    simp only[d,bz,aO];rw[b2 ⟨by omega,trivial⟩,dO (by omega) (by omega),e];by_cases he:at' l (i:Int)=w
    ·grind
    ·have:=b (i+1) (by omega) (by omega);have f:(i:Int)+1=((i+1:Nat):Int):=by omega
     simp only[he,bG,aY,f];rw[this];have:(w==at' l (i:Int))=false:=by grind
     rw[List.contains_cons,this,Bool.false_or]
   grind
 unfold AW a6;have:=a bB 0 (by grind[gM]) (by omega);grind
theorem abr(w:H):AX w=some (oJ w):=by unfold AX;rw[aS (N2 w _ (by decide))];rfl
theorem abt(w:H):IK w=some (q3 w):=by unfold IK;rw[aS (N2 w _ (by decide))];rfl
theorem Gr(w:H):xI w=some (fm w):=by unfold xI;rw[aS (N2 w _ (by decide))];rfl
structure cn where
 S:H
 ne:Int
variable{e:cn}
def cn.st(e:cn)(r:H)(F:ag)(al:Bool):aa:=(e.S,ax e.S r,e.ne,F,0,0,[],[],al)
def cn.tt(e:cn)(F:ag):aa:=(e.S,e.S.length,e.ne,F,0,0,[],[],true)
structure cJ(e:cn)(r:H)(F:ag):Prop where
 b4:e.S.length<=1000000
 nl:cx e.S
 JU:e.S≠[]
 sfx:r<:+e.S
 kk:eA F+100*r.length<=100*e.S.length
theorem cJ.mono(h:cJ e r F)(M:r'<:+r):cJ e r' F:=
 ⟨h.b4,h.nl,h.JU,M.trans h.sfx,by have:=h.kk;grind⟩
structure oT(e:cn)(r0:H)(st:aa):Prop where
 s:st.1=e.S
 lo:ax e.S r0<=st.2.1
 bh:st.2.1<=(e.S.length:Int)+1+r0.length
 nd:st.2.2.2.2.2.2.1.length+eA st.2.2.2.1<=100*e.S.length+1000
 op:st.2.2.2.2.2.2.2.1.length<=r0.length+1
def jh(q:Bool)(e:cn)(r0:H)(nd:H)(ds:ag)(st:aa):Prop:=
 (st.2.2.2.2.1=1/\st.2.2.2.2.2.2.1=nd/\st.2.2.2.1=ds/\oT e r0 st/\(e.S.length:Int)<=st.2.1)\/(q=true/\nd=[]/\st=e.tt ds)
def js(e:cn)(r0:H)(st:aa):Prop:=st.2.2.2.2.1=2/\oT e r0 st
def gJ(e:cn)(r:H)(F:ag)(st:aa):Prop:=∃al,st=e.st r F al/\(r=[]->al=false)
def bR{α β:Type}(q:Bool)(e:cn)(r0:H)(m:dn α)(pr:β->aa)(cv:α->H->β->Prop)(y:Option β):Prop:=∃b,y=some b/\match m with
 | .ok a r F=>r<:+r0/\cJ e r F/\gJ e r F (pr b)/\cv a r b
 | .more _ nd ds=>jh q e r0 nd ds (pr b)
 | .bad _=>js e r0 (pr b)
 | .deep _=>js e r0 (pr b)
theorem oT.mono{st:aa}(h:oT e r0 st)(M:r0<:+an):oT e an st:=by
 have:=M.length_le;have U:ax e.S an<=ax e.S r0:=by grind[ax]
 exact⟨h.s,by have:=h.lo;omega,by have:=h.bh;omega,h.nd,by have:=h.op;omega⟩
theorem jh.mono{q:Bool}{e:cn}{r0 an:H}{nd:H}{ds:ag}{st:aa}(h:jh q e r0 nd ds st)(M:r0<:+an):jh q e an nd ds st:=by
 rcases h with⟨a,b,c,d,f⟩|h
 ·exact .inl ⟨a,b,c,d.mono M,f⟩
 ·exact .inr h
theorem jh.up{q:Bool}{nd:H}{st:aa}(h:jh false e r0 nd ds st):jh q e r0 nd ds st:=by
 rcases h with h|h
 ·exact .inl h
 grind
theorem jh.z{nd:H}{st:aa}(h:jh false e r0 nd ds st):st.2.2.2.2.1=1/\st.2.2.2.2.2.2.1=nd/\st.2.2.2.1=ds/\oT e r0 st/\(e.S.length:Int)<=st.2.1:=by
 rcases h with h|h
 ·exact h
 grind
theorem js.mono{e:cn}{r0 an:H}{st:aa}(h:js e r0 st)(M:r0<:+an):js e an st:=⟨h.1,h.2.mono M⟩
theorem bR.mono{q:Bool}{α β:Type}{e:cn}{r0 an:H}{m:dn α}{pr:β->aa}{cv:α->H->β->Prop}{y:Option β}(h:bR q e r0 m pr cv y)(M:r0<:+an):bR q e an m pr cv y:=by obtain⟨b,a,h⟩:=h;refine⟨b,a,?_⟩;grind[trans,jh.mono,js.mono]
theorem bR.et{q:Bool}{β:Type}{m:dn α}{pr:β->aa}{cv:α->H->β->Prop}{y a:Option β}(h:bR q e r0 m pr cv y)(b:a=y):bR q e r0 m pr cv a:=b▸h
theorem bR.je{q o:Bool}{p s β l:Type}{C:dn p->dn s}(n:dg C){m:ab α}{k:α->ab p}{pr:β->aa}{cv:α->H->β->Prop}{i:l->aa}{cv':s->H->l->Prop}{y:Option β}{K:β->Option l}
  (h:bR o e r0 (m r F) pr cv y)
  (az:∀a an d b,m r F= .ok a an d->an<:+r0->cJ e an d->gJ e an d (pr b)->cv a an b->bR q e r0 (C (k a an d)) i cv' (K b))
  (hm:∀op nd ds b,m r F= .more op nd ds->jh o e r0 nd ds (pr b)->∃c,K b=some c/\jh q e r0 nd ds (i c))
  (t:∀b,js e r0 (pr b)->∃c,K b=some c/\js e r0 (i c)):
  bR q e r0 (C (Eng.N m k r F)) i cv' (ay y K):=by
 obtain⟨b,u,h⟩:=h;rw[u,aS rfl];unfold Eng.N;cases j:m r F with
 |ok a an d=>grind
 |more op nd ds=>rw[j] at h;obtain⟨c,f,g⟩:=hm op nd ds b j h;rw[n.more];exact⟨c,f,g⟩
 |bad q=>rw[j] at h;obtain⟨c,f,g⟩:=t b h;rw[n.bad];exact⟨c,f,g⟩
 |deep q=>rw[j] at h;obtain⟨c,f,g⟩:=t b h;rw[n.deep];exact⟨c,f,g⟩
theorem wS(e:cn)(r:H)(a b c:Int)(d:ag)(f:H)(g:bs)(h:Bool):g9 (e.S,ax e.S r,a,d,b,c,f,g,h)=some (decide (r=[])):=by
 unfold g9;have:((e.S.length:Int)<=ax e.S r)↔r=[]:=by rw[<-zE (S:=e.S)];have:= @pQ r e.S;omega
 grind
theorem wT(Z:r<:+e.S)(a c d:Int)(f:ag)(g:H)(h:bs)(i:Bool):jn (e.S,ax e.S r,a,f,c,d,g,h,i)=some (r.headD 0):=by
 unfold jn;rw[wS,aS rfl];cases r with
 |nil=>rfl
 |cons b t=>simp only[reduceCtorEq,bG,aY];simp_all[b2,ho,jE]
theorem UD(b:UInt8):CV b=some (fV b):=by grind[CV,fV,TM,JA]
theorem JV(a:e.S.length<=1000000)(Z:r<:+e.S)(b c d:Int)(f:ag)(g:H)(h:bs)(i:Bool):iz (e.S,ax e.S r,b,f,c,d,g,h,i)=some (bt r):=by unfold iz;rw[UC a Z];rfl
theorem x7(e:cn)(F:ag):e.tt F=e.st [] F true:=by rfl
def Gs(e:cn)(r:H)(F:ag)(al:Bool)(y:Option aa):Prop:=match bg r with
 |some r'=>∃a,y=some (e.st r' F a)/\(a=al\/a=true)
 |none=>y=some (e.tt F)
theorem aoh{I:aa}(a:I.1=e.S){j:Int->Option aa}(dy:e.S.length<=1000000):∀(n:Nat)(r:H),r.length<n->r<:+e.S->fixF (Fu I al j) n (ax e.S r)=j (ax e.S (mi r)):=by
 intro n;induction n with
 |zero=>omega
 |succ n c=>
  intro r af Z;rw[fx];generalize fixF (Fu I al j) n=k at c;unfold Fu;rw[a];rw[wS,aS rfl];cases r with
  |nil=>rfl
  |cons b t=>
   simp only[reduceCtorEq,bG,fp,aO];rw[b2 (λ_=>ho Z),jE Z,iW (iV dy) Z];simp only[qu];unfold mi;by_cases d:b=10
   ·grind
   ·simp only[d,bG,fp,aO,cZ];grind[List.length_cons,dV]
theorem aoi(dy:e.S.length<=1000000)(I:aa)(l:∃r0 tr0,I=e.st r0 F tr0):∀(n:Nat)(r:H)(al:Bool),r.length<n->r<:+e.S->
  Gs e r F al (fixF (CW I λx=>some (I.1,x.1,I.2.2.1,I.2.2.2.1,I.2.2.2.2.1,I.2.2.2.2.2.1,I.2.2.2.2.2.2.1,I.2.2.2.2.2.2.2.1,x.2)) n (ax e.S r,al)):=by
 obtain⟨r0,tr0,rfl⟩:=l;intro n;induction n with
 |zero=>omega
 |succ n a=>
  intro r al af Z;rw[fx];generalize fixF (CW (e.st r0 F tr0) _) n=k at a;unfold CW a6;dsimp only;have he:g9 ((e.st r0 F tr0).1,ax e.S r,(e.st r0 F tr0).2.2.1,(e.st r0 F tr0).2.2.2.1,(e.st r0 F tr0).2.2.2.2.1,(e.st r0 F tr0).2.2.2.2.2.1,(e.st r0 F tr0).2.2.2.2.2.2.1,(e.st r0 F tr0).2.2.2.2.2.2.2.1,al)=some (decide (r=[])):=wS e r _ _ _ _ _ _ _;rw[he,aS rfl];unfold Gs;cases r with
  |nil=>rw[mj];exact⟨al,rfl,.inl rfl⟩
  |cons b t=>
   have i:t.length<n:=by grind
   simp only[reduceCtorEq,bG,fp,aO];have d:(e.st r0 F tr0).1=e.S:=rfl;rw[d];rw[b2 (ho Z),jE Z,UD,aS rfl,iW (iV dy) Z];by_cases f:fV b=true
   ·rw[Ga f,f];exact a t al i (dV Z)
   have m:fV b=false:=by grind
   rw[m];simp only[aY,nu,aag];by_cases j:b=92
   ·subst j;cases t with
    |nil=>
     rw[aai];refine⟨al,?_,.inl rfl⟩;have h0:decide (ax e.S []<(e.S.length:Int))=false:=by simp[iC]
     simp only[bz,aO,h0,aY];rfl
    |cons c u=>
     simp only[bz,aO,nW (dV Z)];rw[b2 (λ_=>⟨(ho (dV Z)).1,trivial⟩),jE (dV Z)];simp only[qu];by_cases aq:c=10
     ·subst aq;have o:W (ax e.S (92::10::u)+2)=ax e.S u:=kY (w:=[92,10]) (iV dy) Z;rw[o,TO];simp only[bz,aO];by_cases hu:u=[]
      ·subst hu;rw[ba rfl];have:=a [] true (by grind) List.nil_suffix;unfold Gs at this;rw[mj] at this;obtain⟨p,M,U⟩:=this;have:p=true:=by rcases U with rfl|rfl<;>rfl
       subst this;simp only;rw[x7];exact M
      ·rw[aM hu];have:=a u true (by grind) (dV (dV Z));unfold Gs at this;grind
     ·rw[TN aq];simp only[aq,bG,aY,show¬((92:UInt8)=35) by decide];exact⟨al,rfl,.inl rfl⟩
   ·have q:decide (b=92)=false:=by grind
    rw[q];simp only[aY];rw[b2 (λh=>by cases h)];by_cases g:b=35
    ·subst g;rw[TP];simp only[bz,aO];have aB:fixF (Fu (e.st r0 F tr0) al λs=>k (s,al)) bB (ax e.S (35::t))=k (ax e.S (mi (35::t)),al):=aoh (e:=e) rfl dy _ _ (ml (k1 (e1 Z) (iV dy))) Z;rw[aB];have:mi (35::t)=mi t:=by rfl
     rw[this];exact a _ al (Nat.lt_of_le_of_lt (zv t) i) ((Dm t).trans (dV Z))
    ·rw[TQ f g j];simp only[g,bG,aY];exact⟨al,rfl,.inl rfl⟩
theorem aok(h:cJ e r F):Gs e r F al (h1 (e.st r F al)):=by unfold h1 a6;exact aoi h.b4 _ ⟨r,al,rfl⟩ bB r al (ml (k1 (e1 h.sfx) (iV h.b4))) h.sfx
theorem cx.iT(h:cx S)(Z:r<:+S):cx r:=by
 obtain⟨u,rfl⟩:=Z;induction u with
 |nil=>exact h
 |cons b u a=>exact a h.tail
theorem abu(a:cx r)(Z:r≠[])(Y:bg r=some r'):r'≠[]:=by
 have d:∀(n:Nat)(r r':H),r.length<=n->cx r->r≠[]->bg r=some r'->r'≠[]:=by
  intro n;induction n with
  |zero=>grind
  |succ n e=>
   intro r r' af a Z Y;cases r with
   |nil=>grind
   |cons b t=>
    have j:t.length<=n:=by grind
    have f:b≠10->t≠[]:=by
     intro g h0;subst h0;rcases a with h|⟨s,h⟩
     ·cases h
     ·have:=k2 List.getLast? h;grind
    by_cases g:fV b=true
    ·rw[Ga g] at Y;exact e t r' j a.tail (f (by rintro rfl;exact absurd g (by decide))) Y
    by_cases l:b=35
    ·subst l;rw[TP] at Y;have bj:=f (by decide);have aB:mi t≠[]:=by
      have:∀t:H,cx t->t≠[]->mi t≠[]:=by
       intro t;induction t with
       |nil=>simp
       |cons c u i=>
        intro k _;unfold mi;by_cases aq:c=10
        ·grind
        ·rw[aM aq];refine i k.tail ?_;rintro rfl;rcases k with h|⟨s,h⟩
         ·cases h
         ·have:=k2 List.getLast? h;grind
      exact this t a.tail bj
     exact e _ r' (k1 (zv t) j) (a.tail.iT (Dm t)) aB Y
    by_cases m:b=92
    ·subst m;have bj:=f (by decide);cases t with
     |nil=>grind
     |cons c u=>
      by_cases aq:c=10
      ·subst aq;rw[TO] at Y;by_cases hu:u=[]
       ·grind
       ·rw[aM hu] at Y;exact e u r' (by grind) a.tail.tail hu Y
      grind[TN]
    grind[TQ]
 exact d _ r r' (cS _) a Z Y
theorem x8{st:aa}(h:cJ e r F)(d:gJ e r F st):(∃r' a,bg r=some r'/\h1 st=some a/\gJ e r' F a/\cJ e r' F/\r'<:+r/\bg r'=some r')\/(bg r=none/\h1 st=some (e.tt F)):=by
 obtain⟨al,rfl,i⟩:=d;have:=aok (al:=al) h;unfold Gs at this;cases Y:bg r with
 |none=>grind
 |some r'=>
  rw[Y] at this;obtain⟨b,M,U⟩:=this;have c:=eV Y;refine .inl ⟨r',_,rfl,M,⟨b,rfl,λf=>?_⟩,h.mono c,c,lz _ _ _ (cS _) Y⟩;subst f;by_cases Z:r=[]
  ·subst Z;have g:h1 (e.st [] F al)=some (e.st [] F al):=by
    unfold h1 a6
    obtain⟨n,af⟩:∃n,bB=n+1:=⟨bB-1,by rw[gM]⟩
    dsimp only;rw[af,fx];unfold CW;dsimp only;have he:g9 ((e.st [] F al).1,(e.st [] F al).2.1,(e.st [] F al).2.2.1,(e.st [] F al).2.2.2.1,(e.st [] F al).2.2.2.2.1,(e.st [] F al).2.2.2.2.2.1,(e.st [] F al).2.2.2.2.2.2.1,(e.st [] F al).2.2.2.2.2.2.2.1,(e.st [] F al).2.2.2.2.2.2.2.2)=some (decide (([]:H)=[])):=wS e [] _ _ _ _ _ _ _;rw[he,aS rfl];rfl
   rw[g] at M;have:=k2 (λx=>x.2.2.2.2.2.2.2.2) (Option.some.inj M);have j:al=b:=this;grind
  ·exact absurd rfl (abu (h.nl.iT h.sfx) Z Y)
theorem DF(e:cn)(F:ag):h1 (e.tt F)=some (e.tt F):=by
 rw[x7];unfold h1 a6
 obtain⟨n,af⟩:∃n,bB=n+1:=⟨bB-1,by rw[gM]⟩
 dsimp only;rw[af,fx];unfold CW;dsimp only;have he:g9 ((e.st [] F true).1,(e.st [] F true).2.1,(e.st [] F true).2.2.1,(e.st [] F true).2.2.2.1,(e.st [] F true).2.2.2.2.1,(e.st [] F true).2.2.2.2.2.1,(e.st [] F true).2.2.2.2.2.2.1,(e.st [] F true).2.2.2.2.2.2.2.1,(e.st [] F true).2.2.2.2.2.2.2.2)=some (decide (([]:H)=[])):=wS e [] _ _ _ _ _ _ _;rw[he,aS rfl];rfl
theorem bR.rep{q:Bool}{τ β:Type}{pr:β->aa}{cv:α->H->β->Prop}{en:σ->H->ag->τ->Prop}{body:(τ->Option β)->τ->Option β}
  (c:∀(k:τ->Option β)(s:σ)(r:H)(F:ag)(x:τ),cJ e r F->en s r F x->(∀a,∃k',k a=body k' a)->(∀s' r' b a,r'<:+r->cJ e r' b->r'.length<r.length->en s' r' b a->bR q e r (cD f s' r' b) pr cv (k a))->bR q e r (dc f r (f s r F)) pr cv (body k x)):
  ∀(n:Nat)(s:σ)(r:H)(F:ag)(x:τ),r.length+1<n->cJ e r F->en s r F x->bR q e r (cD f s r F) pr cv (fixF body n x):=by
 intro n;induction n with
 |zero=>omega
 |succ n d=>
  intro s r F x af g he;rw[cL,fx];refine c _ s r F x g he (λa=>?_) λs' r' b a M U i h=>(d s' r' b a (by omega) U h).mono M
  obtain⟨m,rfl⟩:∃m,n=m+1:=⟨n-1,by omega⟩
  exact⟨_,fx⟩
theorem bR.inl{q:Bool}{β:Type}{a:ag}{s':σ}{pr:β->aa}{cv:α->H->β->Prop}{y:Option β}(aw:r'.length<r.length)(h:bR q e r0 (cD f s' r' a) pr cv y):bR q e r0 (dc f r (.ok (.inl s') r' a)) pr cv y:=by simp_all[dc,ba]
theorem wV(h:cJ e r F):r.length+1<bB:=by have:=h.b4;have:=e1 h.sfx;grind[gM]
theorem N4[Inhabited α]{l:List α}(bh:i<l.length):l.drop i=at' l (i:Int)::l.drop (i+1):=by grind[List.drop_eq_getElem_cons,at',List.getElem?_eq_getElem]
theorem aom{j:H->Option aa}(e:ds.length<=1000000000):∀(n i:Nat)(x:H),ds.length-i<n->i<=ds.length->x.length+eA (ds.drop i)<=1000000000->fixF (Mv ds j) n ((i:Int),x)=j (x++fl (ds.drop i)):=by
 intro n;induction n with
 |zero=>omega
 |succ n b=>
  intro i x af bh f;rw[fx];generalize fixF (Mv ds j) n=k at b;unfold Mv;dsimp only;by_cases c:i<ds.length
  ·have a:(i:Int)<(ds.length:Int):=by omega
   have aB:=N4 c;have aw:eA (ds.drop i)=(at' ds (i:Int)).1.length+1+eA (ds.drop (i+1)):=by grind[eA,fl]
   simp only[a,bz,aO];rw[b2 ⟨by omega,trivial⟩,b2 (by omega),b2 (by grind)];have d:W ((i:Int)+1)=((i+1:Nat):Int):=by grind[dO]
   rw[d,b (i+1) _ (by omega) (by omega) (by grind),aB];simp[fl]
  ·have a:¬(i:Int)<(ds.length:Int):=by omega
   simp only[a,decide_false,cond_false];grind[List.drop_eq_nil_of_le,fl]
theorem aon{a:H}{j:ag×H->Option aa}(l:a.length<=2000000):∀(n i:Nat)(nd:H)(ds:ag),a.length-i<n->i<=a.length->nd.length+eA ds+(a.length-i)<=1000000000->ds.length<=1000000000->fixF (Mw a j) n ((i:Int),ds,nd)=j ((b8 nd ds (a.drop i)).2,(b8 nd ds (a.drop i)).1):=by
 intro n;induction n with
 |zero=>omega
 |succ n d=>
  intro i nd ds af bh m e;rw[fx];generalize fixF (Mw a j) n=k at d;unfold Mw a6;dsimp only;by_cases f:i<a.length
  ·have b:(i:Int)<(a.length:Int):=by omega
   have aB:=N4 f;have g:W ((i:Int)+1)=((i+1:Nat):Int):=by grind[dO]
   have h:b3 a (i:Int) ((i+1:Nat):Int)=[at' a (i:Int)]:=by simp_all[b3,KF]
   simp only[b,bz,aO,g];rw[b2 (by omega),h,b2 (by grind),b2 ⟨by omega,trivial⟩];simp only[qu];rw[aB];unfold b8;by_cases c:at' a (i:Int)=10
   ·rw[if_pos c];simp only[c,decide_true,cond_true];have h0:(0:Int)=((0:Nat):Int):=rfl;rw[h0,aom e bB 0 (nd++[10]) (by grind[gM]) (by omega) (by grind)];simp only[List.drop_zero];grind[fl,List.length_append,List.length_cons,eA,List.length_nil]
   grind
  ·have b:¬(i:Int)<(a.length:Int):=by omega
   simp only[b,bG,aY];rw[xe (by omega)];rfl
theorem DG(a b c f:Int)(S nd:H)(ds:ag)(op:bs)(al:Bool)(x:H)(d:x.length<=2000000)(g:nd.length+eA ds+x.length<=1000000000)(e:ds.length<=1000000000):
  xF (S,a,b,ds,c,f,nd,op,al) x=some (S,a,b,(b8 nd ds x).2,c,f,(b8 nd ds x).1,op,al):=by
 unfold xF a6;dsimp only;have h0:(0:Int)=((0:Nat):Int):=rfl;rw[h0,aon d bB 0 nd ds (by grind[gM]) (by omega) (by omega) e];simp
theorem uA:∀(l:ag),l.length<=eA l
 |[]=>by simp
 |a::b=>by have:=uA b;simp[eA,fl] at this⊢;omega
def oU(e:cn)(r0:H)(nd:H)(ds:ag)(st:aa):Prop:=st.2.2.2.2.1=1/\st.2.2.2.2.2.2.1=nd/\st.2.2.2.1=ds/\oT e r0 st/\(e.S.length:Int)<=st.2.1
theorem oU.s{q:Bool}{nd:H}{st:aa}(h:oU e r0 nd ds st):jh q e r0 nd ds st:= .inl h
theorem oU.mono{e:cn}{r0 an:H}{nd:H}{ds:ag}{st:aa}(h:oU e r0 nd ds st)(M:r0<:+an):oU e an nd ds st:=⟨h.1,h.2.1,h.2.2.1,h.2.2.2.1.mono M,h.2.2.2.2⟩
theorem Gt(h:cJ e [] F)(b:x.length<=100):∃a,h2 (e.st [] F al) x=some a/\oU e [] (b8 [] F x).1 (b8 [] F x).2 a:=by
 have ah:=h.kk;have c:=h.b4;have aw:=zL x [] F;simp only[Hl] at aw ah;have d:=uA F;refine⟨(e.S,ax e.S [],e.ne,(b8 [] F x).2,1,0,(b8 [] F x).1,[],al),?_,rfl,rfl,rfl,⟨rfl,sH (ax e.S []),?_,?_,?_⟩,?_⟩
 ·unfold h2 a6 cn.st;simp only[bz,aO];rw[DG _ _ _ _ _ _ _ _ _ _ (by omega) (by grind) (by omega),aS rfl]
 ·grind[ax,iC]
 ·grind
 ·simp
 simp[ax,iC,sH]
theorem x9{nd:H}{st:aa}{nm:H}(h:oU e an nd ds st)(M:an<:+r0)(h0:r0<:+e.S)(w:nm=[]\/an.length<r0.length)(y:nd.length+eA ds+x.length<=100*e.S.length+1000)(dy:e.S.length<=1000000)(z:x.length<=1000):
  ∃k,g_ st nm x=some k/\oU e r0 (b8 nd ds x).1 (b8 nd ds x).2 k:=by
 obtain⟨a,b,c,d,vE,f,g,op,al⟩:=st;obtain⟨U,l,m,q,i⟩:=h;simp only at U l m i;subst U l m;have aw:=zL x g d;have n:=M.length_le;have r:=h0.length_le;have A:ax e.S r0<=ax e.S an:=by grind[ax]
 have B:=uA d;obtain⟨o,s,t,u,v⟩:=q;simp only at o s t u v;subst o
 have p:∀j,xF (e.S,b,c,d,1,f,g,j,al) x=some (e.S,b,c,(b8 g d x).2,1,f,(b8 g d x).1,j,al):=λj=>DG _ _ _ _ _ _ _ _ _ _ (by omega) (by omega) (by omega)
 unfold g_ a6;simp only[bz,aO];by_cases af:nm=[]
 ·subst af;simp only[bz,hU,aY];rw[p,aS rfl];exact⟨_,rfl,rfl,rfl,rfl,⟨rfl,by grind,by grind,by grind,by grind⟩,i⟩
 ·have C:an.length<r0.length:=by grind
  simp only[af,bG,fp,aO];rw[b2 (by grind),p,aS rfl];exact⟨_,rfl,rfl,rfl,rfl,⟨rfl,by grind,by grind,by grind,by grind⟩,i⟩
theorem qx{st:aa}{nm:H}(h:st.2.2.2.2.1≠1):g_ st nm x=some st:=by simp_all[g_,bG,aY]
theorem UF:∀(x nd:H)(ds:ag),(10:UInt8)∉x->b8 nd ds x=(nd++x,ds)
 |[],nd,ds,_=>by simp[b8]
 |b::x,nd,ds,h=>by have a:b≠10:=λc=>h (by grind);simp_all[b8,aM,UF]
theorem UG{q:Bool}{o:Option H}{nm:H}(h:cJ e r F)(h0:r<:+r0)(b:∀q,o=some q->q<:+r)(c:(10:UInt8)∉x)(g:x.length<=r.length+100)(i:r0≠[])(d:∀q,o=some q->q=[]->al=false):
  bR q e r0 (match o with|some r'=>dn.ok () r' F|none=> .more [nm] x F) (λst=>st) (λ_ _ _=>True) (uc (e.st r F al) (lR e.S o) nm x):=by
 cases o with
 |some q=>
  have a:=b q rfl;have M:¬ax e.S q<0:=by have:=e1 (a.trans h.sfx);grind[ax]
  refine⟨e.st q F al,?_,a.trans h0,h.mono a,⟨al,rfl,d q rfl⟩,trivial⟩;unfold uc;simp only[lR,M,bG,aY];rfl
 |none=>
  have ah:=h.kk;have j:=h.b4;have k:=uA F;have l:=e1 h.sfx;have hm:h2 (e.st [] F al) x=some (e.S,ax e.S [],e.ne,F,1,0,x,[],al):=by unfold h2 a6 cn.st;simp only[bz,aO];rw[DG _ _ _ _ _ _ _ _ _ _ (by omega) (by grind) (by omega),aS rfl,UF _ _ _ c];rfl
  refine⟨(e.S,ax e.S [],e.ne,F,1,0,x,[nm],al),?_,?_⟩
  ·unfold uc;simp only[lR,show((-1:Int)<0) from by decide,decide_true,cond_true];have f:((e.st r F al).1,((e.st r F al).1.length:Int),(e.st r F al).2.2.1,(e.st r F al).2.2.2.1,(e.st r F al).2.2.2.2.1,(e.st r F al).2.2.2.2.2.1,(e.st r F al).2.2.2.2.2.2.1,(e.st r F al).2.2.2.2.2.2.2.1,(e.st r F al).2.2.2.2.2.2.2.2)=e.st [] F al:=by rfl
   rw[f,hm,aS rfl];exact b2 (by simp)
  ·have Z:ax e.S r0<=ax e.S []:=by grind[ax,List.length_nil]
   refine .inl ⟨rfl,rfl,rfl,⟨rfl,Z,?_,?_,?_⟩,?_⟩
   ·grind[ax,iC]
   ·grind
   ·simp
   simp[ax,iC,sH]
theorem abv{q:Bool}{o:Option H}{x:UInt8}(h:cJ e r F)(h0:r<:+r0)(a:∀q,o=some q->q<:+r)(d:x≠10)(b:r0≠[])(c:∀q,o=some q->q=[]->al=false):
  bR q e r0 (match o with|some r'=>dn.ok () r' F|none=> .more [[x]] [x] F) (λst=>st) (λ_ _ _=>True) (uc (e.st r F al) (lR e.S o) [x] [x]):=
 UG h h0 a (by grind) (by simp) b c
theorem aoo{I:aa}{i0:Nat}{j:H->Option aa}(c:i0<=I.2.2.2.1.length)(h:I.2.2.2.1.length<=1000000000):∀(n i:Nat)(x:H),(I.2.2.2.1.length-i0)-i<n->i<=I.2.2.2.1.length-i0->x.length+eA ((I.2.2.2.1.drop i0).drop i)<=1000000000->
  fixF (MA I (i0:Int) j) n ((i:Int),x)=j (x++fl ((I.2.2.2.1.drop i0).drop i)):=by
 have d:b3 I.2.2.2.1 (i0:Int) (I.2.2.2.1.length:Int)=I.2.2.2.1.drop i0:=by simp[b3,KF,Hn]
 have e:(I.2.2.2.1.drop i0).length=I.2.2.2.1.length-i0:=Hk;intro n;induction n with
 |zero=>omega
 |succ n b=>
  intro i x af bh l;rw[fx];generalize fixF (MA I (i0:Int) j) n=k at b;unfold MA;dsimp only;rw[d];generalize I.2.2.2.1.drop i0=ds at*;by_cases f:i<ds.length
  ·have a:(i:Int)<(ds.length:Int):=by omega
   have aB:=N4 f;have aw:eA (ds.drop i)=(at' ds (i:Int)).1.length+1+eA (ds.drop (i+1)):=by grind[eA,fl]
   simp only[a,bz,aO];rw[b2 ⟨by omega,trivial⟩,b2 (by omega),b2 (by grind)];have g:W ((i:Int)+1)=((i+1:Nat):Int):=by grind[dO]
   rw[g,b (i+1) _ (by omega) (by omega) (by grind),aB];simp[fl]
  ·have a:¬(i:Int)<(ds.length:Int):=by omega
   simp only[a,decide_false,cond_false];grind[List.drop_eq_nil_of_le,fl]
theorem aop{r0:H}{al:Bool}{j:Int->Option aa}(dy:e.S.length<=1000000)(p:eA F<=100000000):∀(n i:Nat)(q:H),F.length-i<n->i<=F.length->q<:+e.S->
  match kg (F.drop i) q with
  | .inl r'=>fixF (Fx (e.st r0 F al) j) n ((i:Int),ax e.S q)=j (ax e.S r')
  | .inr nd=>fixF (Fx (e.st r0 F al) j) n ((i:Int),ax e.S q)=some (e.S,(e.S.length:Int),e.ne,[],1,0,nd,[[60,60]],false):=by
 have r:=uA F;intro n;induction n with
 |zero=>omega
 |succ n d=>
  intro i q af bh c;rw[fx];generalize fixF (Fx (e.st r0 F al) j) n=k at d;unfold Fx a6;dsimp only;have f:(e.st r0 F al).1=e.S:=rfl;have g:(e.st r0 F al).2.2.2.1=F:=rfl;rw[f,g];by_cases l:i<F.length
  ·have a:(i:Int)<(F.length:Int):=by omega
   have aB:=N4 l;rw[aB];simp only[a,bz,aO];rw[b2 (show 0<=(i:Int)/\True from⟨by omega,trivial⟩),aog dy c,aS rfl,dO (x:=(i:Int)+1) (by omega) (by omega)];unfold kg;cases m:kf (at' F (i:Int)).1 (at' F (i:Int)).2 q with
   |none=>
    simp only[show((-1:Int)<0) from by decide,bz,aO];rw[b2 (by omega)]
    have:=aoo (I:=e.st r0 F al) (i0:=i) (j:=λo=>some (e.S,(e.S.length:Int),(e.st r0 F al).2.2.1,[],1,(e.st r0 F al).2.2.2.2.2.1,o,([([60,60]:H)]:bs),false)) bh (by grind) bB 0 [] (by grind[gM]) (by omega) (by
     show 0+eA ((F.drop i).drop 0)<=_;rw[yy];have:eA (F.drop i)<=eA F:=by have h:=abo (F.take i) (F.drop i);grind[List.take_append_drop]
     omega)
    have h0:(e.st r0 F al).2.2.2.2.2.2.1=[]:=rfl;rw[h0];refine Eq.trans this ?_;show some (e.S,(e.S.length:Int),e.ne,([]:ag),(1:Int),(0:Int),[]++fl ((F.drop i).drop 0),[[60,60]],false)=_;grind
   |some b=>
    have s:b<:+e.S:=((Nl _ _ _ q [] b (cS _) m).1).trans c;have h0:¬ax e.S b<0:=by grind[e1,ax]
    grind
  ·have a:¬(i:Int)<(F.length:Int):=by omega
   rw[xe (by omega)];simp only[a,bG,aY];rfl
theorem abw{q:Bool}(h:cJ e (10::t) F):bR q e (10::t) (kh (10::t) F) (λst=>st) (λ_ _ _=>True) (CY (e.st (10::t) F al)):=by
 have ah:=h.kk;have k:=h.b4;have c:t<:+e.S:=dV h.sfx;have l:=e1 c;have a:=aop (e:=e) (r0:=10::t) (F:=F) (al:=al) (j:=λd=>some (e.S,d,e.ne,[],0,0,[],[],false)) h.b4 (by omega) bB 0 t (by grind[uA,gM]) (by omega) c;rw[yy] at a;have g:W (ax e.S (10::t)+1)=ax e.S t:=iW (iV h.b4) h.sfx;have f:CY (e.st (10::t) F al)=fixF (Fx (e.st (10::t) F al) λd=>some (e.S,d,e.ne,[],0,0,[],[],false)) bB ((0:Nat),ax e.S t):=by unfold CY a6;show fixF _ bB ((0:Int),W (ax e.S (10::t)+1))=_;rw[g];rfl
 unfold kh;simp only;cases b:kg F t with
 |inl r'=>rw[b] at a;simp only at a⊢;have Y:=(wI F t [] r' b).1;have aw:=Y.length_le;refine⟨e.st r' [] false,?_,Y.trans (eL 10 t),⟨h.b4,h.nl,h.JU,Y.trans c,by grind[eA,fl]⟩,⟨false,rfl,λ_=>rfl⟩,trivial⟩;rw[f];exact a
 |inr nd=>
  rw[b] at a;simp only at a⊢;have i:=Uv F t nd b;refine⟨_,f.trans a,.inl ⟨rfl,rfl,rfl,⟨rfl,?_,?_,?_,?_⟩,?_⟩⟩
  ·grind[ax,pQ]
  ·grind
  ·grind[eA,fl]
  ·simp
  simp
theorem UH{a:Unit}{b:ag}(h:kh (10::t) F= .ok a an b):an<:+t/\b=[]:=by
 unfold kh at h;simp only at h;cases c:kg F t with
 |inl r'=>rw[c] at h;cases h;exact⟨(wI F t [] _ c).1,rfl⟩
 |inr nd=>grind
theorem Gu{st:aa}(h:cJ e r F)(C:gJ e r F st):bR true e r (cQ r F) (λst=>st) (λ_ r' _=>bg r'=some r'/\ar r'≠ .line) (pJ st):=by
 unfold pJ a6;have D:st.2.2.2.1=F/\st.2.2.2.2.2.2.2.1=[]:=by obtain⟨al,rfl,_⟩:=C;exact⟨rfl,rfl⟩
 rw[D.1,D.2]
 have L:∀(bF:Nat)(b:Bool)(r:H)(F:ag)(st:aa),r.length+1<bF->cJ e r F->gJ e r F st->bg r=some r->∀r0:H,r<:+r0->(ar r= .line->r.length<=r0.length)->bR true e r0 (dc iB r0 (if ar r= .line then N kh (λ_=>aU (.inl true)) r F else .ok (.inr b) r F)) (λst=>st) (λ_ r' _=>bg r'=some r'/\ar r'≠ .line) (fixF (A2 λx=>some x) bF st):=by
  intro bF;induction bF with
  |zero=>omega
  |succ bF E=>
   intro b r F st eG s O P r0 G _;rw[fx]
   obtain⟨gZ,Q⟩:∃gZ,bF=gZ+1:=⟨bF-1,by omega⟩
   have v:∀x:aa,(x.2.2.2.2.1≠0\/∃ds,x=e.tt ds)->fixF (A2 λx=>some x) bF x=some x:=by
    intro x I;rw[Q,fx];unfold A2;dsimp only;rcases I with I|⟨ds,rfl⟩
    ·simp_all[bG,c1,fR,cZ,aY]
    ·have m:jn (e.tt ds)=some 0:=by rw[x7];exact wT (e:=e) (r:=[]) pt _ _ _ _ _ _ _
     have h0:(e.tt ds).2.2.2.2.1=0:=rfl;rw[show jn ((e.tt ds).1,(e.tt ds).2.1,(e.tt ds).2.2.1,(e.tt ds).2.2.2.1,(e.tt ds).2.2.2.2.1,(e.tt ds).2.2.2.2.2.1,(e.tt ds).2.2.2.2.2.2.1,(e.tt ds).2.2.2.2.2.2.2.1,(e.tt ds).2.2.2.2.2.2.2.2)=some 0 from m];rw[gI,h0];rfl
   generalize u6:fixF (A2 λx=>some x) bF=k at E v;obtain⟨al,rfl,R⟩:=O;unfold A2 a6;dsimp only;have m:jn ((e.st r F al).1,(e.st r F al).2.1,(e.st r F al).2.2.1,(e.st r F al).2.2.2.1,(e.st r F al).2.2.2.2.1,(e.st r F al).2.2.2.2.2.1,(e.st r F al).2.2.2.2.2.2.1,(e.st r F al).2.2.2.2.2.2.2.1,(e.st r F al).2.2.2.2.2.2.2.2)=some (r.headD 0):=wT s.sfx _ _ _ _ _ _ _;rw[m,gI];have h0:(e.st r F al).2.2.2.2.1=0:=rfl;rw[h0];simp only[bz,c9,aO,qu];by_cases aw:ar r= .line
   ·rw[ba aw];obtain⟨t,rfl⟩:=wL aw;simp only[Aa,bz,aO];refine bR.je dg.k ((abw (q:=false) s).mono G) (λ_ an d c S s1 T w _=>?_) (λop nd ds c m8 J=>?_) (λc p=>?_)
    ·have U:c.2.2.2.2.1=0:=by obtain⟨V,rfl,_⟩:=w;rfl
     have K:c.2.2.2.1=d/\c.2.2.2.2.2.2.2.1=[]:=by obtain⟨V,rfl,_⟩:=w;exact⟨rfl,rfl⟩
     rw[U,K.1,K.2];simp only[bz,aO];have UJ:an.length<(10::t).length:=by have:=(UH S).1.length_le;grind
     have W:an.length<r0.length:=by grind
     show bR true e r0 (dc iB r0 (.ok (.inl true) an d)) _ _ _;refine bR.inl W ?_;rw[cL];rcases x8 T w with⟨f,a,g,i,o,y,j,z⟩|⟨g,i⟩
     ·have A:iB true an d=(if ar f= .line then N kh (λ_=>aU (.inl true)) f d else .ok (.inr true) f d):=by
       by_cases l:ar f= .line
       ·obtain⟨u,rfl⟩:=wL l;simp_all[ba,xS]
       simp_all[aM,sw]
      rw[A,i,aS rfl];have B:a=(a.1,a.2.1,a.2.2.1,d,a.2.2.2.2.1,a.2.2.2.2.2.1,a.2.2.2.2.2.2.1,([]:bs),a.2.2.2.2.2.2.2.2):=by obtain⟨X,rfl,_⟩:=o;rfl
      rw[<-B];exact(E true f d a (by grind) y o z an j (λ_=>j.length_le)).mono s1
     ·rw[i,aS rfl];have:iB true an d= .more [] (b8 [] d []).1 (b8 [] d []).2:=dx (jC g);rw[this];refine⟨e.tt d,?_,.inr ⟨rfl,rfl,rfl⟩⟩;exact v (e.tt d) (.inr ⟨d,rfl⟩)
    ·have M:=J.z.1;refine⟨c,?_,J.up⟩;grind
    ·refine⟨c,?_,p⟩;rw[p.1];simp only[show¬((2:Int)=0) by decide,bG,aY];have:=v c (.inl (by rw[p.1];decide));have Y:c=(c.1,c.2.1,c.2.2.1,c.2.2.2.1,2,c.2.2.2.2.2.1,c.2.2.2.2.2.2.1,c.2.2.2.2.2.2.2.1,c.2.2.2.2.2.2.2.2):=by rw[<-p.1]
     grind
   ·rw[aM aw];have Z:decide (r.headD 0=10)=false:=by
     cases r with
     |nil=>rfl
     |cons b t=>
      have:b≠10:=by rintro rfl;grind[ar]
      grind
    rw[Z];simp only[aY];exact⟨_,rfl,G,s,⟨al,rfl,R⟩,P,aw⟩
 rw[uo,cL];rcases x8 h C with⟨f,a,g,i,o,y,j,z⟩|⟨g,i⟩
 ·rw[i,aS rfl];have B:a=(a.1,a.2.1,a.2.2.1,F,a.2.2.2.2.1,a.2.2.2.2.2.1,a.2.2.2.2.2.2.1,([]:bs),a.2.2.2.2.2.2.2.2):=by obtain⟨X,rfl,_⟩:=o;rfl
  rw[<-B];have A:iB false r F=(if ar f= .line then N kh (λ_=>aU (.inl true)) f F else .ok (.inr false) f F):=by
   by_cases l:ar f= .line
   ·obtain⟨u,rfl⟩:=wL l;rw[ba l,xS g]
   ·rw[aM l,sw g l]
  rw[A];exact L bB false f F a (by have:=j.length_le;have:=h.b4;have:=e1 h.sfx;grind[gM]) y o z r j (λ_=>j.length_le)
 ·rw[i,aS rfl];have:iB false r F= .more [] (b8 [] F []).1 (b8 [] F []).2:=dx (jC g);rw[this];refine⟨e.tt F,?_,.inr ⟨rfl,rfl,rfl⟩⟩
  obtain⟨n,af⟩:∃n,bB=n+1:=⟨bB-1,by rw[gM]⟩
  dsimp only;rw[af,fx];unfold A2;dsimp only;have m:jn ((e.tt F).1,(e.tt F).2.1,(e.tt F).2.2.1,F,(e.tt F).2.2.2.2.1,(e.tt F).2.2.2.2.2.1,(e.tt F).2.2.2.2.2.2.1,[],(e.tt F).2.2.2.2.2.2.2.2)=some 0:=by have:=wT (e:=e) (r:=[]) pt e.ne 0 0 F [] [] true;rw[iC] at this;exact this
  rw[m,gI];rfl
def gW(b:UInt8):Bool:=(decide (97<=b)&&decide (b<=122))||decide (b=123)||decide (b=125)||decide (b=33)
def jG(r:H):H:=if r.dropWhile gW≠[]/\cV (r.dropWhile gW)=true then r.takeWhile gW else []
theorem aor(b:UInt8):((b.toNat:Int)=33)↔b=33:=rZ (c:=33)
theorem abx(b:UInt8):((b.toNat:Int)=125)↔b=125:=rZ (c:=125)
theorem aos{I:aa}{j:Int->Option H}(c:I.1=e.S)(dy:e.S.length<=1000000):∀(n:Nat)(r:H),r.length<n->r<:+e.S->fixF (ME I j) n (ax e.S r)=j (ax e.S (r.dropWhile gW)):=by
 intro n;induction n with
 |zero=>omega
 |succ n d=>
  intro r af Z;rw[fx];generalize fixF (ME I j) n=k at d;unfold ME;rw[c];cases r with
  |nil=>simp[iC,a4]
  |cons b t=>
   have g:0<=ax e.S (b::t)/\ax e.S (b::t)<(e.S.length:Int):=ho Z;have a:∀p:Prop,(p->0<=ax e.S (b::t)/\ax e.S (b::t)<(e.S.length:Int)):=λp _=>g
   rw[b2 (a _),b2 (λ_=>a _),b2 (λ_=>a _),b2 (λ_=>a _),b2 (λ_=>a _)];simp only[nW Z,bz,aO,jE Z,iW (iV dy) Z,Uh,Ui,Bk,abx,aor];have aq:(bif(bif(bif(bif decide (97<=b) then decide (b<=122) else false) then true else decide (b=123)) then true else decide (b=125)) then true else decide (b=33))=gW b:=by simp[gW,decide]
   grind[gW,List.dropWhile_cons_of_pos,List.length_cons,dV,List.dropWhile_cons_of_neg]
theorem wW(h:cJ e r F):mA (e.st r F al)=some (jG r):=by
 unfold mA a6;have q:(e.st r F al).1=e.S:=rfl;have U:(e.st r F al).2.1=ax e.S r:=rfl;have aw:=aos (e:=e) (I:=e.st r F al) (j:=λc=>(a4 (((decide (c<(e.S.length:Int)))=true)->0<=c/\c<(e.S.length:Int))<|(c1 ((decide (c<(e.S.length:Int)))=true) (CV (at' e.S c)) false λ(f:Bool)=>(a4 ((f=false)->((decide (c<(e.S.length:Int)))=true)->0<=c/\c<(e.S.length:Int))<|(c1 ((bif f then true else(decide (((at' e.S c).toNat:Int)=(10:Int))))=false/\(decide (c<(e.S.length:Int)))=true) (AU e.S c) [] λ(k:H)=>(bif(bif(decide (c<(e.S.length:Int))) then(bif(bif f then true else(decide (((at' e.S c).toNat:Int)=(10:Int)))) then true else(!(decide (k=[])))) else false) then(a4 (0<=ax e.S r/\ax e.S r<=c/\c<=(e.S.length:Int))<|some (b3 e.S (ax e.S r) c)) else some ([]))))))) rfl h.b4 bB r (ml (k1 (e1 h.sfx) (iV h.b4))) h.sfx;refine Eq.trans aw ?_;have Y:r.dropWhile gW<:+r:=List.dropWhile_suffix _;have d:=Y.trans h.sfx;have i:0<=ax e.S r/\ax e.S r<=ax e.S (r.dropWhile gW)/\ax e.S (r.dropWhile gW)<=(e.S.length:Int):=by have:=Y.length_le;have:=e1 h.sfx;grind[ax]
 have m:b3 e.S (ax e.S r) (ax e.S (r.dropWhile gW))=r.takeWhile gW:=by rw[JC h.sfx Y];have n:=Ww (p:=gW) (l:=r);generalize r.takeWhile gW=a at*;generalize r.dropWhile gW=b at*;rw[<-n];simp
 unfold jG;cases o:r.dropWhile gW with
 |nil=>simp[iC,a4,c1]
 |cons b t=>
  rw[o] at d i m;have g:=ho d;rw[b2 (λ_=>g)];simp only[nW d,bz,jE d,UD,gI,c9];refine Eq.trans (b2 (λ_ _=>⟨g.1,trivial⟩)) ?_;simp only[UC h.b4 d,gI,qu,and_true,aO];have s:cV (b::t)=(fV b||decide (b=10)|| !decide (bt (b::t)=[])):=by show(fV b||(b==10)||(bt (b::t)!=[]))=_;grind
  grind[fV,a4,bt]
theorem N6(h:gW b=true):fV b=false/\b≠10/\b≠92/\b≠39/\b≠34/\b≠96/\b≠36/\b≠35/\qs b=false:=by
 have M:(97<=b.toNat/\b.toNat<=122)\/b.toNat=123\/b.toNat=125\/b.toNat=33:=by
  unfold gW at h;simp only[yx,h4,PC,Ek] at h;have a:(97:UInt8).toNat=97:=rfl;have c:(122:UInt8).toNat=122:=rfl;rw[a,c] at h;rcases h with((h|h)|h)|h
  ·omega
  ·simp_all
  ·simp_all
  simp_all
 have d:b=UInt8.ofNat b.toNat:=by simp
 generalize b.toNat=n at*;subst d;have:n=97\/n=98\/n=99\/n=100\/n=101\/n=102\/n=103\/n=104\/n=105\/n=106\/n=107\/n=108\/n=109\/n=110\/n=111\/n=112\/n=113\/n=114\/n=115\/n=116\/n=117\/n=118\/n=119\/n=120\/n=121\/n=122\/n=123\/n=125\/n=33:=by omega
 rcases this with rfl|rfl|rfl|rfl|rfl|rfl|rfl|rfl|rfl|rfl|rfl|rfl|rfl|rfl|rfl|rfl|rfl|rfl|rfl|rfl|rfl|rfl|rfl|rfl|rfl|rfl|rfl|rfl|rfl<;>decide
theorem aby(h:gW b=true):cV (b::t)=false:=by obtain⟨M,U,_,_,_,_,_,_,a⟩:=N6 h;show(fV b||b==10||bt (b::t)!=[])=false;grind[m3]
theorem aou(h:gW b=true):fD (b::t)=false:=by simp_all[N6,tf]
theorem abz:∀(r:H),cV (r.dropWhile gW)=true->di r=(r.takeWhile gW,true)
 |[],_=>by decide
 |b::t,h=>by
  cases a:gW b with
  |true=>rw[Ws a] at h;obtain⟨M,U,c,d,e,f,g,i,j⟩:=N6 a;unfold di;simp_all[aby,aM,aou,abz,List.takeWhile_cons_of_pos]
  |false=>simp_all[Eh,di,ba,Wx]
theorem x_(b:UInt8)(t:H):ar (b::t)=if b=10 then Tok.line else if bt (b::t)≠[] then .op (bt (b::t)) else .word (di (b::t)).1 (di (b::t)).2:=rfl
theorem sD{w:H}(e:cx r)(i:w≠[])(f:w.all gW=true):jG r=w↔ar r= .word w true:=by
 unfold jG;constructor
 ·intro h;split at h
  ·rename_i aq;have ah:=abz r aq.2;cases r with
   |nil=>simp_all
   |cons b t=>
    have j:gW b=true:=by grind[gW,List.takeWhile_cons_of_neg,absurd]
    simp_all[N6,x_,aM,m3]
  grind
 ·intro h;cases r with
  |nil=>grind[ar]
  |cons b t=>
   have ah:di (b::t)=(w,true):=by grind[x_,Prod.ext]
   obtain⟨v,a⟩:=(F0 _ _ ah).1;have he:=NT _ _ ah;rw[<-a,pq] at he;have g:v≠[]:=by
    rintro rfl;rw[pZ] at a;rcases e with h0|⟨s,h0⟩
    ·cases h0
    grind[gW,List.all_eq_true,absurd]
   have aB:v.dropWhile gW=v/\v.takeWhile gW=[]:=by
    cases v with
    |nil=>simp
    |cons c u=>grind[gW,aby,List.dropWhile_cons_of_neg,List.takeWhile_cons_of_neg]
   have d:∀x∈w,gW x=true:=pY.1 f
   rw[<-a,List.dropWhile_append_of_pos d,aB.1,ba ⟨g,he⟩,List.takeWhile_append_of_pos d,aB.2,pZ]
theorem JY{w:H}(a:cx r)(b:w≠[])(c:w.all gW=true):decide (jG r=w)=cm (ar r) w:=by have:=sD a b c;grind[cm,jG,decide_eq_true,decide_eq_false,ar]
theorem abA{L:bs}(a:cx r)(bm:∀w∈L,w≠[]/\w.all gW=true):L.contains (jG r)=(match ar r with| .word w true=>L.contains w|_=>false):=by
 rw[Bool.eq_iff_iff];constructor
 ·intro h;have hm:=List.contains_iff_mem.1 h;obtain⟨M,U⟩:=bm _ hm;have:=(sD a M U).1 rfl;grind
 grind[ar,List.contains_iff_mem,sD]
theorem aov(a:cx r):oJ (jG r)=(match ar r with| .word w true=>oJ w|_=>false):=by unfold oJ;exact abA a (by decide)
theorem aow(a:cx r):q3 (jG r)=(match ar r with| .word w true=>q3 w|_=>false):=by unfold q3;exact abA a (by decide)
theorem mQ{o:H}(a:o≠[]):ar r= .op o↔bt r=o:=by
 constructor
 ·intro h;exact(ib h).1.symm
 ·intro h;cases r with
  |nil=>simp_all[bt,l2,yz,List.isPrefixOf,absurd]
  |cons b t=>
   have c:b≠10:=by rintro rfl;rw[m3 (by decide)] at h;grind
   simp_all[x_,aM,ba]
theorem abB(a:cx r):(decide (bt r=[40])||oJ (jG r))=fJ (ar r):=by rw[aov a];grind[fJ,bt,mQ,ar,decide_eq_false]
theorem aox{I:aa}{j:Int->Option Bool}(a:I.1=e.S)(dy:e.S.length<=1000000):∀(n:Nat)(r:H),r.length<n->r<:+e.S->fixF (MK I j) n (ax e.S r)=j (ax e.S (r.dropWhile cd)):=by
 intro n;induction n with
 |zero=>omega
 |succ n c=>
  intro r af Z;rw[fx];generalize fixF (MK I j) n=k at c;unfold MK;rw[a];cases r with
  |nil=>simp[iC,a4]
  |cons b t=>
   have g:=ho Z;rw[b2 (λ_=>g),b2 (λ_=>g)];simp only[nW Z,bz,aO,jE Z,iW (iV dy) Z,Uj,Uk];have aq:(bif decide (48<=b) then decide (b<=57) else false)=cd b:=by simp[cd,decide]
   grind[cd,List.dropWhile_cons_of_pos,List.length_cons,dV,List.dropWhile_cons_of_neg]
theorem UK(h:cJ e r F):CZ (e.st r F al)=some (decide (r.dropWhile cd≠r)&&fm (bt (r.dropWhile cd))):=by
 unfold CZ a6;have Y:r.dropWhile cd<:+r:=List.dropWhile_suffix _;have aw:=aox (e:=e) (I:=e.st r F al) (j:=λa=>c1 ((decide (ax e.S r<a))=true) (AU e.S a) [] λ(b:H)=>(c1 ((decide (ax e.S r<a))=true) (xI b) false λ(c:Bool)=>some (bif(decide (ax e.S r<a)) then c else false))) rfl h.b4 bB r (ml (k1 (e1 h.sfx) (iV h.b4))) h.sfx;refine Eq.trans aw ?_;rw[UC h.b4 (Y.trans h.sfx),gI];have f:decide (ax e.S r<ax e.S (r.dropWhile cd))=decide (r.dropWhile cd≠r):=by
  by_cases d:r.dropWhile cd=r
  ·grind
  ·have:(r.dropWhile cd).length<r.length:=by
    rcases PB (r.dropWhile cd).length r.length with M|M
    ·exact M
    ·exact absurd (Y.eq_of_length (Nat.le_antisymm Y.length_le M)) d
   grind[ax,cd]
 grind[Gr,gI,decide,cd]
theorem N7(r:H):(fm (bt r)||(decide (r.dropWhile cd≠r)&&fm (bt (r.dropWhile cd))))=fm (bt (r.dropWhile cd)):=by
 by_cases h:r.dropWhile cd=r
 ·grind
 ·have h0:bt r=[]:=by
   cases r with
   |nil=>simp_all
   |cons b t=>
    cases a:cd b with
    |true=>simp_all[m3,Bp]
    |false=>simp_all
  simp_all[fm]
theorem UL(h:cJ e r F)(k:Nat)(az:k<=1000):vp (e.st r F al) k=some ((r.drop k).headD 0):=by
 unfold vp;have aw:=e1 h.sfx;have d:=h.b4;have M:(e.st r F al).2.1=ax e.S r:=rfl;have U:(e.st r F al).1=e.S:=rfl;have ah:0<=ax e.S r/\ax e.S r<=(e.S.length:Int):=by grind[ax]
 have a:W (ax e.S r+(k:Int))=ax e.S r+k:=dO (by omega) (by omega);rw[M,U,a];by_cases f:k<r.length
 ·have Y:r.drop k<:+e.S:=(iI k r).trans h.sfx;have c:ax e.S r+(k:Int)=ax e.S (r.drop k):=by grind[ax,List.length_drop]
  rw[c];cases aB:r.drop k with
  |nil=>grind
  |cons b t=>rw[aB] at Y;simp only[nW Y,bz,aO];simp_all[b2,ho,trivial,trans,jE]
 grind[ax,List.drop_eq_nil_of_le]
theorem tm{β b:Type}{m:Option α}{f:α->Option β}{g:β->Option b}:ay (ay m f) g=ay m (λa=>ay (f a) g):=by cases m<;>rfl
theorem UM{β:Type}{b:Bool}{x y:Option α}{g:α->Option β}:ay (bif b then x else y) g=bif b then ay x g else ay y g:=by grind
theorem oV{β:Type}{a:α}{g:α->Option β}:ay (some a) g=g a:=rfl
theorem abC{R:bl}{a b:H}:∀(n:Nat)(x:aa),fixF (zg R λst=>ay (g_ st a b) λy=>some y) n x=ay (fixF (zg R λst=>some st) n x) λst=>g_ st a b
 |0,x=>rfl
 |n+1,x=>by
  rw[fx,fx];have c:=abC (R:=R) (a:=a) (b:=b) n;generalize fixF (zg R λst=>ay (g_ st a b) λy=>some y) n=o at c;generalize fixF (zg R λst=>some st) n=p at c;obtain⟨e,f,g,i,d,j,k,l,m⟩:=x;unfold zg a6;dsimp only;by_cases h:d=0
  ·subst h;simp only[bz,aO,tm,UM,c,oV];rfl
  ·simp only[h,bG,aY,oV];cases g_ (e,f,g,i,d,j,k,l,m) a b<;>rfl
theorem abD{R:bl}{a b:H}:∀(n:Nat)(x:aa),fixF (zp R λst=>ay (g_ st a b) λy=>some y) n x=ay (fixF (zp R λst=>some st) n x) λst=>g_ st a b
 |0,x=>rfl
 |n+1,x=>by
  rw[fx,fx];have c:=abD (R:=R) (a:=a) (b:=b) n;generalize fixF (zp R λst=>ay (g_ st a b) λy=>some y) n=o at c;generalize fixF (zp R λst=>some st) n=p at c;obtain⟨e,f,g,i,d,j,k,l,m⟩:=x;unfold zp a6;dsimp only;by_cases h:d=0
  ·subst h;simp only[bz,aO,tm,UM,c,oV];rfl
  ·simp only[h,bG,aY,oV];cases g_ (e,f,g,i,d,j,k,l,m) a b<;>rfl
theorem cJ.zN(h:cJ e (b::t) F)(a:b≠10):t≠[]:=by
 rintro rfl;have:=h.nl.iT h.sfx;rcases this with M|⟨s,M⟩
 ·cases M
 ·have:=k2 List.getLast? M;grind
theorem cx.last(h:cx t)(a:t≠[])(he:t=x++[b]):b=10:=by
 rcases h with M|⟨s,M⟩
 ·grind
 simp_all
theorem aoy:∀(n:Nat)(r q:H),r.length<=n->gx r=some q->∃x,r=x++96::q:=by
 intro n;induction n with
 |zero=>simp_all[tA,Nat.le_zero,gx]
 |succ n d=>
  intro r q af h;cases r with
  |nil=>grind
  |cons b t=>
   unfold gx at h;split at h
   ·simp_all
   ·split at h
    ·cases t with
     |nil=>cases h
     |cons c u=>obtain⟨x,a⟩:=d u q (by simp only[nB] at af;omega) h;exact⟨b::c::x,by rw[a];rfl⟩
    ·obtain⟨x,a⟩:=d t q (by simp only[nB] at af;omega) h;exact⟨b::x,by rw[a];rfl⟩
theorem abE:∀(r q:H),gw r=some q->∃x,r=x++39::q
 |[],q,h=>by grind[gw]
 |b::t,q,h=>by
  unfold gw at h;split at h
  ·rename_i a;cases h;subst a;exact⟨[],rfl⟩
  ·obtain⟨x,c⟩:=abE t q h;exact⟨b::x,by rw[c];rfl⟩
theorem UN{q:H}{c:UInt8}(aq:c≠10)(h:cx t)(he:t=x++c::q):q≠[]:=by rintro rfl;exact aq (h.last (by simp_all) he)
structure ll(R:bl)(n:Nat):Prop where
 im:∀(e:cn),e.ne=30- (n:Int)->∀(t:H)(F:ag)(al:Bool),cJ e (36::t) F->bR false e (36::t) (a9 true n (36::t) F) (λst=>st) (λ_ _ _=>True) (R.v9 (e.st (36::t) F al))
theorem Gv{f:Unit->ab (Unit⊕Unit)}{part:ab Unit}{y:Option aa}{β:Type}{pr:β->aa}{cv:Unit->H->β->Prop}{k:aa->Option β}
  (hm:bR false e r0 (part r F) (λst=>st) (λ_ _ _=>True) y) (aw:∀a r' c,part r F= .ok a r' c->r'.length<r.length)
  (az:∀r' c g,r'<:+r0->cJ e r' c->r'.length<r.length->gJ e r' c g->bR false e r0 (cD f () r' c) pr cv (k g))
  (h:∀x,x.2.2.2.2.1≠0->∃b,k x=some b/\pr b=x):
  bR false e r0 (dc f r (N part (λ_=>aU (.inl ())) r F)) pr cv (ay y k):=by
 refine bR.je dg.k hm (λa an i d j s1 l m _=>?_) (λop nd ds d _ n=>?_) (λd o=>?_)
 ·have:=aw a an i j;exact bR.inl this (az an i d s1 l this m)
 ·obtain⟨b,p,q⟩:=h d (by rw[n.z.1];decide);grind
 ·obtain⟨b,p,q⟩:=h d (by rw[o.1];decide);grind
theorem UO(h:cJ e (92::t) F):zf (e.st (92::t) F al)=some (e.st (t.drop 1) F al):=by
 have b:=h.zN (by decide);cases t with
 |nil=>grind
 |cons c u=>
  have a:W (ax e.S (92::c::u)+2)=ax e.S u:=kY (w:=[92,c]) (iV h.b4) h.sfx;unfold zf;have M:(e.st (92::c::u) F al).2.1=ax e.S (92::c::u):=rfl;rw[M,a];have:¬((e.st (92::c::u) F al).1.length:Int)<ax e.S u:=by have:= @pQ u e.S;show¬(e.S.length:Int)<ax e.S u;omega
  simp only[this,bG,aY];rfl
theorem UP(h:cJ e (96::t) F)(h0:96::t<:+r0):bR false e r0 (ki gx [96] t F) (λst=>st) (λ_ _ _=>True) (ay (C1 e.S (W (ax e.S (96::t)+1))) λy=>uc (e.st (96::t) F al) y [96] [96]):=by rw[iW (iV h.b4) h.sfx,aod h.b4 (dV h.sfx),aS rfl];unfold ki;have b:=(h.nl.iT h.sfx).tail;refine abv h h0 (λq a=>(F3 _ _ q (cS _) a).trans (eL _ _)) (by decide) (by grind) λq a c=>?_;obtain⟨x,d⟩:=aoy _ _ _ (cS _) a;grind[absurd,UN]
theorem abF(h:cJ e (39::t) F)(h0:39::t<:+r0):bR false e r0 (ki gw [39] t F) (λst=>st) (λ_ _ _=>True) (ay (FB e.S (W (ax e.S (39::t)+1))) λy=>uc (e.st (39::t) F al) y [39] [39]):=by rw[iW (iV h.b4) h.sfx,aob h.b4 (dV h.sfx),aS rfl];unfold ki;have b:=(h.nl.iT h.sfx).tail;refine abv h h0 (λq a=>(Bi _ q a).trans (eL _ _)) (by decide) (by grind) λq a c=>?_;grind[abE,absurd,UN]
theorem JZ(fr:Bool)(n:Nat)(h:fD (36::t)=false):a9 fr n (36::t) F= .ok () t F:=by rw[Gm];unfold dj;rw[tf] at h;grind
theorem UQ(fr:Bool)(n:Nat){a:Unit}{b:ag}(h:a9 fr n (36::t) F= .ok a r' b):r'.length<(36::t).length:=by
 cases c:fD (36::t) with
 |true=>exact(mO fr n).lt c h
 |false=>grind[JZ]
theorem DH(fr:Bool)(n:Nat)(dq:Option (ab Unit))(t:H)(F:ag):cC (a9 fr n) dq (36::t) F=a9 fr n (36::t) F:=by
 unfold cC;simp only;rw[aM (by decide),aM (by decide)];cases a:fD (36::t) with
 |true=>simp
 |false=>grind[JZ]
theorem Gw(a:b≠92)(c:b≠96)(d:b≠36)(e:dq=none\/(b≠39/\b≠34)):cC D dq (b::t) F= .ok () t F:=by
 unfold cC;simp only;have f:fD (b::t)=false:=by grind[tf]
 grind
section
variable(hD:ll R n)(bj:e.ne=30- (n:Int))
include hD bj
theorem aoz(h:cJ e r F):bR false e r (iQ 34 (cC (a9 true n) none) r F) (λst=>st) (λ_ _ _=>True) (fixF (zg R λst=>some st) bB (e.st r F al)):=by
 unfold iQ;refine bR.rep (en:=λ_ r F x=>∃al,x=e.st r F al) (λk s r F x c l P az=>?_) bB () r F _ (wV h) h ⟨al,rfl⟩;obtain⟨al,rfl⟩:=l
 have E:∀x:aa,x.2.2.2.2.1≠0->k x=some x:=by intro x l;obtain⟨k',M⟩:=P x;simp_all[zg]
 have G:∀x:aa,x.2.2.2.2.1≠0->∃b,k x=some b/\b=x:=λx l=>⟨x,E x l,rfl⟩
 have I:∀r' d m,r'<:+r->cJ e r' d->r'.length<r.length->gJ e r' d m->bR false e r (cD (λ_ r F=>match r with
  |[]=>b5 [] r F
  |b::t=>if b=34 then .ok (.inr ()) t F else(N (cC (a9 true n) none) λ_=>aU (.inl ())) r F) () r' d) (λst=>st) (λ_ _ _=>True) (k m):=λr' d m Q av a3 S=>az () r' d m Q av a3 (by obtain⟨al,M,_⟩:=S;grind)
 unfold zg a6 cn.st;dsimp only;simp only[bz,aO];rw[wS,aS rfl];cases r with
 |nil=>
  simp only[bz,aO];obtain⟨o,T,J⟩:=Gt (al:=al) (x:=[]) c (by simp);have U:h2 (e.S,ax e.S [],e.ne,F,0,0,[],[],al) []=some o:=T;rw[U,aS rfl];refine⟨o,?_,?_⟩
  ·exact E o (by rw[J.1];decide)
  ·exact J.s
 |cons b t=>
  have j:t<:+b::t:=eL b t;have K:=iW (iV c.b4) c.sfx;simp only[reduceCtorEq,bG,aY];have V:∀p u v w y z A,jn (e.S,ax e.S (b::t),p,w,u,v,y,z,A)=some b:=λp u v w y z A=>wT c.sfx p u v w y z A
  rw[V];simp only[oV,oQ,nu,oP,ra,K];by_cases L:b=34
  ·subst L;simp only[bz,aO,c9];exact⟨_,rfl,j,c.mono j,⟨al,rfl,λW=>absurd W (c.zN (by decide))⟩,trivial⟩
  simp only[L,bG,aY,cZ];by_cases B:b=92
  ·subst B;simp only[bz,aO];have ah:zf (e.S,ax e.S (92::t),e.ne,F,0,0,[],[],al)=some (e.st (t.drop 1) F al):=UO c;rw[ah,aS rfl];have aB:t.drop 1<:+92::t:=(iI 1 t).trans j;have aw:(t.drop 1).length<(92::t).length:=by grind
   have i:N (cC (a9 true n) none) (λ_=>(aU (.inl ()):ab (Unit⊕Unit))) (92::t) F= .ok (.inl ()) (t.drop 1) F:=by rfl
   rw[i];exact bR.inl aw (az () _ F _ aB (c.mono aB) aw ⟨al,rfl⟩)
  simp only[B,bG,aY];by_cases C:b=96
  ·subst C;simp only[bz,aO];have i:cC (a9 true n) none (96::t) F=ki gx [96] t F:=by rfl
   have:=Gv (f:=λ_ r F=>match r with
    |[]=>b5 [] r F
    |b::t=>if b=34 then .ok (.inr ()) t F else(N (cC (a9 true n) none) λ_=>aU (.inl ())) r F) (part:=cC (a9 true n) none) (r:=96::t) (F:=F) (pr:=λst=>st) (cv:=λ_ _ _=>True) (k:=k) (by rw[i];exact UP (al:=al) c gr) (λa r' d g=>by
     rw[i] at g;unfold ki at g;cases O:gx t with
     |none=>grind
     |some q=>rw[O] at g;cases g;have:=(F3 _ _ _ (cS _) O).length_le;grind) I G
   rw[K,tm] at this;exact this
  simp only[C,bG,aY];by_cases D:b=36
  ·subst D;simp only[bz,aO];exact Gv (part:=cC (a9 true n) none) (by rw[DH];exact hD.im e bj t F al c) (λa r' d g=>by rw[DH] at g;exact UQ true n g) I G
  ·simp only[D,bG,aY];have i:N (cC (a9 true n) none) (λ_=>(aU (.inl ()):ab (Unit⊕Unit))) (b::t) F= .ok (.inl ()) t F:=by unfold N;rw[Gw B C D (.inl rfl)];rfl
   rw[i];exact bR.inl (by simp) (az () _ F _ j (c.mono j) (by simp) ⟨al,rfl⟩)
theorem abG(h:cJ e (34::t) F)(h0:34::t<:+r0)(j:r0<:+e.S):bR false e r0 (eP (a9 true n) t F) (λst=>st) (λ_ _ _=>True) (IL R (e.st (34::t) F al)):=by
 have k:=iW (iV h.b4) h.sfx;have d:t<:+34::t:=eL 34 t;have g:=h.mono d;unfold IL a6;have l:((e.st (34::t) F al).1,W ((e.st (34::t) F al).2.1+1),(e.st (34::t) F al).2.2.1,(e.st (34::t) F al).2.2.2.1,(e.st (34::t) F al).2.2.2.2.1,(e.st (34::t) F al).2.2.2.2.2.1,(e.st (34::t) F al).2.2.2.2.2.2.1,(e.st (34::t) F al).2.2.2.2.2.2.2.1,(e.st (34::t) F al).2.2.2.2.2.2.2.2)=e.st t F al:=by show(e.S,W (ax e.S (34::t)+1),e.ne,F,(0:Int),(0:Int),([]:H),([]:bs),al)=_;rw[k];rfl
 rw[l];have m:=abC (R:=R) (a:=[34]) (b:=[34]) bB (e.st t F al);refine bR.et ?_ m;obtain⟨f,o,c⟩:=aoz hD bj (al:=al) g;rw[o,aS rfl];unfold eP ab.named ab.aG;have i:=aK.Du (n:=11) (aK.part (xZ true n▸(tk true n).dl) (dq:=none) (λq h=>by cases h)) 34 t F;cases hm:iQ 34 (cC (a9 true n) none) t F with
 |ok a an v=>rw[hm] at c;obtain⟨p,av,a3,_⟩:=c;refine⟨f,qx ?_,p.trans (d.trans h0),av,a3,trivial⟩;obtain⟨w,rfl,_⟩:=a3;show(0:Int)≠1;decide
 |more op nd ds=>rw[hm] at c i;simp only[eu] at i;have ah:=g.kk;obtain⟨r,s,u⟩:=x9 (nm:=[34]) (x:=[34]) (r0:=r0) (an:=t) c.z (d.trans h0) j (.inr (by grind)) (by grind) h.b4 (by simp);exact⟨r,s,u.s⟩
 |bad q=>rw[hm] at c;exact⟨f,qx (by rw[c.1];decide),js.mono c (d.trans h0)⟩
 |deep q=>rw[hm] at c;exact⟨f,qx (by rw[c.1];decide),js.mono c (d.trans h0)⟩
theorem aoA(h:cJ e r F):bR false e r (iQ 125 (cC (a9 true n) (some (eP (a9 true n)))) r F) (λst=>st) (λ_ _ _=>True) (fixF (zp R λst=>some st) bB (e.st r F al)):=by
 unfold iQ;refine bR.rep (en:=λ_ r F x=>∃al,x=e.st r F al) (λk s r F x d o S az=>?_) bB () r F _ (wV h) h ⟨al,rfl⟩;obtain⟨al,rfl⟩:=o
 have P:∀x:aa,x.2.2.2.2.1≠0->k x=some x:=by intro x o;obtain⟨k',M⟩:=S x;rw[M];unfold zp;grind
 have p:∀x:aa,x.2.2.2.2.1≠0->∃b,k x=some b/\b=x:=λx o=>⟨x,P x o,rfl⟩
 have u:∀r' i v,r'<:+r->cJ e r' i->r'.length<r.length->gJ e r' i v->bR false e r (cD (λ_ r F=>match r with
  |[]=>b5 [] r F
  |b::t=>if b=125 then .ok (.inr ()) t F else(N (cC (a9 true n) (some (eP (a9 true n)))) λ_=>aU (.inl ())) r F) () r' i) (λst=>st) (λ_ _ _=>True) (k v):=λr' i v T av a3 U=>az () r' i v T av a3 (by obtain⟨al,M,_⟩:=U;grind)
 unfold zp a6 cn.st;dsimp only;simp only[bz,aO];rw[wS,aS rfl];cases r with
 |nil=>
  simp only[bz,aO];obtain⟨w,V,Q⟩:=Gt (al:=al) (x:=[]) d (by simp);have W:h2 (e.S,ax e.S [],e.ne,F,0,0,[],[],al) []=some w:=V;rw[W,aS rfl];refine⟨w,?_,?_⟩
  ·exact P w (by rw[Q.1];decide)
  ·exact Q.s
 |cons b t=>
  have j:t<:+b::t:=eL b t;have y:=iW (iV d.b4) d.sfx;simp only[reduceCtorEq,bG,aY];have X:∀z A B C D E G,jn (e.S,ax e.S (b::t),z,C,A,B,D,E,G)=some b:=λz A B C D E G=>wT d.sfx z A B C D E G
  rw[X];simp only[oV,oQ,nu,oP,ra,rY,abx,y];by_cases l:b=125
  ·subst l;simp only[bz,aO,c9];exact⟨_,rfl,j,d.mono j,⟨al,rfl,λY=>absurd Y (d.zN (by decide))⟩,trivial⟩
  simp only[l,bG,aY,cZ];by_cases I:b=92
  ·subst I;simp only[bz,aO];have ah:zf (e.S,ax e.S (92::t),e.ne,F,0,0,[],[],al)=some (e.st (t.drop 1) F al):=UO d;rw[ah,aS rfl];have aB:t.drop 1<:+92::t:=(iI 1 t).trans j;have aw:(t.drop 1).length<(92::t).length:=by grind
   have g:N (cC (a9 true n) (some (eP (a9 true n)))) (λ_=>(aU (.inl ()):ab (Unit⊕Unit))) (92::t) F= .ok (.inl ()) (t.drop 1) F:=by rfl
   rw[g];exact bR.inl aw (az () _ F _ aB (d.mono aB) aw ⟨al,rfl⟩)
  simp only[I,bG,aY];by_cases J:b=39
  ·subst J;simp only[bz,aO];have g:cC (a9 true n) (some (eP (a9 true n))) (39::t) F=ki gw [39] t F:=by rfl
   have:=Gv (f:=λ_ r F=>match r with
    |[]=>b5 [] r F
    |b::t=>if b=125 then .ok (.inr ()) t F else(N (cC (a9 true n) (some (eP (a9 true n)))) λ_=>aU (.inl ())) r F) (part:=cC (a9 true n) (some (eP (a9 true n)))) (r:=39::t) (F:=F) (pr:=λst=>st) (cv:=λ_ _ _=>True) (k:=k) (by rw[g];exact abF (al:=al) d gr) (λa r' i c=>by
     rw[g] at c;unfold ki at c;cases m:gw t with
     |none=>grind
     |some q=>rw[m] at c;cases c;have:=(Bi _ _ m).length_le;grind) u p
   rw[y,tm] at this;exact this
  simp only[J,bG,aY];by_cases K:b=34
  ·subst K;simp only[bz,aO];have g:cC (a9 true n) (some (eP (a9 true n))) (34::t) F=eP (a9 true n) t F:=by rfl
   refine Gv (part:=cC (a9 true n) (some (eP (a9 true n)))) (by rw[g];exact abG hD bj d gr d.sfx) (λa r' i c=>?_) u p;rw[g] at c;have:=((ae.double (mO true n)).sfx c).length_le;grind
  simp only[K,bG,aY];by_cases L:b=96
  ·subst L;simp only[bz,aO];have g:cC (a9 true n) (some (eP (a9 true n))) (96::t) F=ki gx [96] t F:=by rfl
   have:=Gv (f:=λ_ r F=>match r with
    |[]=>b5 [] r F
    |b::t=>if b=125 then .ok (.inr ()) t F else(N (cC (a9 true n) (some (eP (a9 true n)))) λ_=>aU (.inl ())) r F) (part:=cC (a9 true n) (some (eP (a9 true n)))) (r:=96::t) (F:=F) (pr:=λst=>st) (cv:=λ_ _ _=>True) (k:=k) (by rw[g];exact UP (al:=al) d gr) (λa r' i c=>by
     rw[g] at c;unfold ki at c;cases m:gx t with
     |none=>grind
     |some q=>rw[m] at c;cases c;have:=(F3 _ _ _ (cS _) m).length_le;grind) u p
   rw[y,tm] at this;exact this
  simp only[L,bG,aY];by_cases O:b=36
  ·subst O;simp only[bz,aO];exact Gv (part:=cC (a9 true n) (some (eP (a9 true n)))) (by rw[DH];exact hD.im e bj t F al d) (λa r' i c=>by rw[DH] at c;exact UQ true n c) u p
  ·simp only[O,bG,aY];have g:N (cC (a9 true n) (some (eP (a9 true n)))) (λ_=>(aU (.inl ()):ab (Unit⊕Unit))) (b::t) F= .ok (.inl ()) t F:=by unfold N;rw[Gw I L O (.inr ⟨J,K⟩)];rfl
   rw[g];exact bR.inl (by simp) (az () _ F _ j (d.mono j) (by simp) ⟨al,rfl⟩)
end
def j1:Ctx->H
 | .text=>[]| .paren=>[41]| .item=>[59,59]|_=>[119]
def pR:Ctx->bs
 | .pK=>[[125]]| .rT=>[hQ]| .pL=>[h_,gy,ea]| .ko=>[ea]| .pa=>[gd]| .done=>[hc]|_=>[]
def ya:Ctx->Bool->Bool
 | .text,_=>false
 | .paren,_=>true
 | .item,no=>no
 |_,no=> !no
structure ph(R:bl)(n:Nat):Prop where
 im:∀(e:cn)(c:Ctx)(no:Bool),ya c no=true->e.ne=30- (n:Int)->∀(r:H)(F:ag)(st:aa),cJ e r F->gJ e r F st->bR false e r ((aW true n).ls c no r F) (λb=>b.2) (λa _ b=>b.1=(a:Int)) (R.oA st (j1 c) (pR c) (!no))
def cn.up(e:cn):cn:=⟨e.S,e.ne+1⟩
theorem oT.uB{st:aa}(h:oT e.up r st):oT e r st:=⟨h.s,h.lo,h.bh,h.nd,h.op⟩
theorem cJ.yb(h:cJ e r F):cJ e.up r F:=⟨h.b4,h.nl,h.JU,h.sfx,h.kk⟩
theorem cJ.uB(h:cJ e.up r F):cJ e r F:=⟨h.b4,h.nl,h.JU,h.sfx,h.kk⟩
theorem qz(p:Int)(h:cJ e r F)(h0:r<:+r0):∃st,ih (e.st r F al) p=some st/\js e r0 st:=by
 refine⟨_,rfl,rfl,rfl,?_,?_,?_,?_⟩
 ·show ax e.S r0<=ax e.S r;grind[ax]
 ·show ax e.S r<=_;have:= @pQ r e.S;omega
 ·show([]:H).length+eA F<=_;have:=h.kk;grind
 ·show([]:bs).length<=_;simp
theorem aoB{j:H->Option aa}{a:(Int×H)->Option aa}(x:H):FN j a (0,x)=j x:=rfl
theorem aoC{j:H->Option aa}{a:(Int×H)->Option aa}(k:Nat)(x:H)(c:x.length+k<=100000000):FN j a (((k+1:Nat):Int),x)=a ((k:Int),x++[41]):=by
 unfold FN;dsimp only;have h0:(0:Int)<((k+1:Nat):Int):=by omega
 have b:W (((k+1:Nat):Int)-1)=(k:Int):=by grind[dO]
 rw[decide_eq_true h0,aO,b2 (by grind),b]
theorem abI{j:H->Option aa}:∀(n k:Nat)(x:H),k<n->x.length+k<=100000000->fixF (FN j) n ((k:Int),x)=j (x++List.replicate k 41):=by
 intro n;induction n with
 |zero=>omega
 |succ n a=>
  intro k x h b;rw[fx];cases k with
  |zero=>simp[aoB,trans,List.replicate_zero,List.append_nil]
  |succ k=>grind[aoC,List.length_append,List.length_singleton,List.append_assoc]
def zO(st:aa):aa:=(st.1,W (st.2.1+1),W (st.2.2.1-1),st.2.2.2.1,st.2.2.2.2.1,st.2.2.2.2.2.1,st.2.2.2.2.2.2.1,st.2.2.2.2.2.2.2.1,st.2.2.2.2.2.2.2.2)
def tn(st:aa):aa:=(st.1,st.2.1,W (st.2.2.1-1),st.2.2.2.1,st.2.2.2.2.1,st.2.2.2.2.2.1,st.2.2.2.2.2.2.1,st.2.2.2.2.2.2.2.1,st.2.2.2.2.2.2.2.2)
theorem oT.zO{st:aa}(h:oT e an st)(M:an<:+r0)(h0:r0<:+e.S)(aw:an.length<r0.length)(g:e.S.length<=1000000):oT e r0 (zO st):=by
 have a:=h.lo;have b:=h.bh;have i:=e1 h0;have c:0<=ax e.S an:=by grind[ax]
 have d:ax e.S r0<=ax e.S an:=by grind[ax]
 have f:W (st.2.1+1)=st.2.1+1:=dO (by omega) (by omega);refine⟨h.s,?_,?_,h.nd,?_⟩
 ·show _<=W (st.2.1+1);omega
 ·show W (st.2.1+1)<=_;omega
 ·have:=h.op;show st.2.2.2.2.2.2.2.1.length<=_;omega
theorem aoF{st:aa}(h:oT e an st)(Y:an<:+e.S)(c:e.S.length<=1000000)(aw:(e.S.length:Int)<=st.2.1):(e.S.length:Int)<=(zO st).2.1:=by have a:=h.bh;have d:=e1 Y;have b:W (st.2.1+1)=st.2.1+1:=dO (by omega) (by omega);show _<=W (st.2.1+1);omega
theorem oT.tn{st:aa}(h:oT e r0 st):oT e r0 (tn st):=⟨h.s,h.lo,h.bh,h.nd,h.op⟩
theorem UR{m:ab α}{n:H}{a:α}{b:ag}(h:m r F= .ok a an b):((m.aG x).named n) r F= .ok a an b:=by grind[ab.named,ab.aG]
theorem US{m:ab α}{n:H}{op:bs}{nd:H}(h:m r F= .more op nd ds):((m.aG x).named n) r F= .more (n::op) (b8 nd ds x).1 (b8 nd ds x).2:=by grind[ab.named,ab.aG]
theorem abK{m:ab α}{n q:H}(h:m r F= .bad q):((m.aG x).named n) r F= .bad q:=by grind[ab.named,ab.aG]
theorem abL{m:ab α}{n q:H}(h:m r F= .deep q):((m.aG x).named n) r F= .deep q:=by grind[ab.named,ab.aG]
theorem km{β:Type}{m:ab α}{k:α->ab β}{q:H}(h:m r F= .deep q):N m k r F= .deep q:=by grind[N]
section
variable(hp:∀m,n=m+1->ll R m/\ph R m)(af:n<=30)(bj:e.ne=30- (n:Int))
include hp af bj
theorem aoG(h:cJ e (36::t) F):bR false e (36::t) (a9 true n (36::t) F) (λst=>st) (λ_ _ _=>True) (Ja R (e.st (36::t) F al)):=by
 have D:t<:+36::t:=eL 36 t;have b0:=iW (iV h.b4) h.sfx;have uv:=h.zN (by decide);have N5:vp (e.st (36::t) F al) 1=some (t.headD 0):=UL h 1 (by decide);have K:vp (e.st (36::t) F al) 2=some ((t.drop 1).headD 0):=UL h 2 (by decide);unfold Ja;rw[N5];simp only[oV,Bj,Bk];rw[K,gI];cases t with
 |nil=>grind
 |cons c u=>
  simp only[Aa,KJ,yy];have N9:c::u<:+e.S:=dV h.sfx;have z:u<:+36::c::u:=(eL c u).trans D;by_cases aq:c=40
  ·subst aq;simp only[bz,c9,aO];have nI:u≠[]:=(h.mono D).zN (by decide);cases u with
   |nil=>grind
   |cons d v=>
    simp only[Aa];by_cases aB:d=40
    ·
     subst aB;simp only[bz,aO];have jk:W (ax e.S (36::40::40::v)+3)=ax e.S v:=kY (w:=[36,40,40]) (iV h.b4) h.sfx;have l:v<:+36::40::40::v:=gq [36,40,40] v;have ah:a9 true n (36::40::40::v) F=oK v F:=by rw[Gm];rfl
     rw[ah];have M:(e.st (36::40::40::v) F al).1=e.S:=rfl;have U:(e.st (36::40::40::v) F al).2.1=ax e.S (36::40::40::v):=rfl;rw[M,U,jk,aof h.b4 (l.trans h.sfx),aS rfl];unfold oK a6;cases Y:ij 0 v with
     |bad q=>simp only[rb,show(decide ((-2:Int)= -2))=true from rfl,aO];obtain⟨st,g,f⟩:=qz (al:=al) (ax e.S q) h gr;rw[g,aS rfl];exact⟨_,rfl,f.1,f.2.s,f.2.lo,f.2.bh,by have:=f.2.nd;have i:=h.kk;cases g;omega,by cases g;exact f.2.op⟩
     |ok q=>
      have E:=Bd 0 v q Y;have aw:=e1 (E.trans (l.trans h.sfx));have h0:¬ax e.S q= -2:=by grind[ax]
      simp only[rb,h0,bG,aY];have jF:(0:Int)=((0:Nat):Int):=rfl;rw[jF,abI bB 0 [] (by simp[gM]) (by simp)]
      have:=UG (q:=false) (al:=al) (o:=some q) (nm:=[36,40,40]) (x:=[]) h gr (λL G=>by grind) (by simp) (by simp) (by simp) (λL G m2=>by
       cases G;exfalso;have dN:=(h.nl.iT h.sfx).iT l
       have:∃x,v=x++41::q:=by
        have:∀(r:H)(d:Nat)(q:H),ij d r= .ok q->∃x,r=x++41::q:=by
         intro r;induction r with
         |nil=>simp[ij]
         |cons b t a1=>
          intro d q i;unfold ij at i;split at i
          ·cases i
          ·split at i
           ·grind
           ·split at i
            ·split at i
             ·grind
             ·split at i
              ·cases i
              ·split at i
               ·rename_i avl _ N;cases i;subst N;exact⟨[b],rfl⟩
               grind
            grind
        grind
       grind[UN])
      simp only[lR] at this;obtain⟨st,g,f⟩:=this;simp only[List.replicate_zero,pZ];rw[g,aS rfl];exact⟨st,rfl,f⟩
     |more k=>have az:=aK.Ux v 0 k Y;have aw:=e1 (l.trans h.sfx);have hb:=h.b4;simp only[rb,show(decide ((-1:Int)= -2))=false from rfl,aY];rw[abI bB k [] (by grind[gM]) (by grind)];have:=UG (q:=false) (al:=al) (o:=none) (nm:=[36,40,40]) (x:=List.replicate k 41) h List.suffix_rfl (λL G=>by grind) (by simp) (by grind) (by simp) (λL G=>by grind);simp only[lR] at this;obtain⟨st,g,f⟩:=this;simp only[ps];rw[g,aS rfl];exact⟨st,rfl,f⟩
    ·
     simp only[aB,bG,aY];unfold a6 A3;have I:¬([36,40,40]:H).isPrefixOf (36::40::d::v)=true:=by grind
     cases n with
     |zero=>
      have p:decide (30<=(e.st (36::40::d::v) F al).2.2.1)=true:=by show decide (30<=e.ne)=true;grind
      rw[p];have ah:a9 true 0 (36::40::d::v) F= .deep (36::40::d::v):=by rw[Gm];unfold dj;rw[aM I,ba (by simp)];rfl
      rw[ah];obtain⟨st,g,f⟩:=qz (al:=al) ((e.st (36::40::d::v) F al).2.1) h gr;simp only[aO,tm];rw[g,aS rfl,aS rfl];exact⟨_,rfl,by cases g;exact f⟩
     |succ m=>
      obtain⟨N_,uz⟩:=hp m rfl;have p:decide (30<=(e.st (36::40::d::v) F al).2.2.1)=false:=by show decide (30<=e.ne)=false;grind
      rw[p];simp only[aY,oV,aO];have O:e.ne=(e.st (36::40::d::v) F al).2.2.1:=rfl;rw[<-O];have P:W (e.ne+1)=e.ne+1:=dO (by omega) (by omega);have Q:W ((e.st (36::40::d::v) F al).2.1+2)=ax e.S (d::v):=kY (w:=[36,40]) (iV h.b4) h.sfx;rw[P,Q];have l:d::v<:+36::40::d::v:=z;have A:=(h.mono l).yb;have S:d::v≠[]:=by simp
      have aw:=uz.im e.up .paren true rfl (by show e.ne+1=_;omega) (d::v) F (e.up.st (d::v) F al) A ⟨al,rfl,λi=>absurd i S⟩;have ah:a9 true (m+1) (36::40::d::v) F=uh (aW true m) (d::v) F:=by rw[Gm];unfold dj j0;rw[aM I,ba (by simp)];rfl
      rw[ah];have T:((e.st (36::40::d::v) F al).1,ax e.S (d::v),e.ne+1,(e.st (36::40::d::v) F al).2.2.2.1,(e.st (36::40::d::v) F al).2.2.2.2.1,(e.st (36::40::d::v) F al).2.2.2.2.2.1,(e.st (36::40::d::v) F al).2.2.2.2.2.2.1,(e.st (36::40::d::v) F al).2.2.2.2.2.2.2.1,(e.st (36::40::d::v) F al).2.2.2.2.2.2.2.2)=e.up.st (d::v) F al:=rfl;rw[T];obtain⟨b,g,f⟩:=aw;have wY:R.oA (e.up.st (d::v) F al) [41] [] false=some b:=g;rw[wY,aS rfl];unfold uh;have B:=(tk true m).ls .paren true (d::v) F;have kE:(d::v).length<(40::d::v).length:=by simp
      have ic:(40::d::v).length<(36::40::d::v).length:=by simp
      cases az:(aW true m).ls .paren true (d::v) F with
      |ok a an C=>
       rw[az] at f;obtain⟨V,av,⟨s,a3,bQ⟩,fh⟩:=f;dsimp only at a3;rw[aJ (UR az)];obtain⟨cX,eW⟩:=Bt true m;rw[eW] at az;obtain⟨hP,j3⟩:=x1 (by simp) az;have hq:ar an= .op [41]:=by grind[dC]
       rw[Bm hP hq];obtain⟨q,rfl⟩:=(ib hq).2.1;rw[pq];have j:g_ b.2 [36,40] [41]=some b.2:=qx (by rw[a3];show(0:Int)≠1;decide);rw[j,aS rfl,a3];have E:q<:+[41]++q:=gq [41] q;have lC:W (ax e.S ([41]++q)+1)=ax e.S q:=kY (w:=[41]) (iV h.b4) av.sfx;have m2:q≠[]:=av.zN (by decide);have sM:=(av.uB.mono E);refine⟨e.st q C s,?_,E.trans (V.trans l),sM,⟨s,rfl,λi=>absurd i m2⟩,trivial⟩;show some (e.S,W (ax e.S ([41]++q)+1),W (e.ne+1-1),C,(0:Int),(0:Int),([]:H),([]:bs),s)=_;rw[lC,dO (by omega) (by omega)];have:e.ne+1-1=e.ne:=by omega
       rw[this];rfl
      |more op nd ds=>rw[az] at f B;simp only[eu] at B;have X:=A.kk;have Z:e.up.S=e.S:=rfl;rw[Z] at X;obtain⟨fC,iU,sz,lA,vG⟩:=f.z;obtain⟨aL,ai,bf⟩:=x9 (e:=e) (nm:=[36,40]) (x:=[41]) (an:=d::v) (r0:=40::d::v) (nd:=nd) (ds:=ds) ⟨fC,iU,sz,lA.uB,vG⟩ (eL _ _) N9 (.inr kE) (by grind) h.b4 (by simp);rw[ai,aS rfl,dx (US az)];obtain⟨r4,eZ,cW,J,mx⟩:=bf;exact⟨zO aL,rfl,.inl ⟨r4,eZ,cW,J.zO (eL _ _) h.sfx ic h.b4,aoF J N9 h.b4 mx⟩⟩
      |bad q=>rw[az] at f;have j:g_ b.2 [36,40] [41]=some b.2:=qx (by rw[f.1];decide);rw[j,aS rfl,hS (abK az)];exact⟨zO b.2,rfl,f.1,f.2.uB.zO l h.sfx (by simp) h.b4⟩
      |deep q=>rw[az] at f;have j:g_ b.2 [36,40] [41]=some b.2:=qx (by rw[f.1];decide);rw[j,aS rfl,km (abL az)];exact⟨zO b.2,rfl,f.1,f.2.uB.zO l h.sfx (by simp) h.b4⟩
  ·simp only[aq,bG,aY,fR,cZ];by_cases xt:c=123
   ·
    subst xt;simp only[bz,aO];unfold a6 A3;have I:¬([36,40,40]:H).isPrefixOf (36::123::u)=true:=by simp
    have aoK:¬([36,40]:H).isPrefixOf (36::123::u)=true:=by simp
    cases n with
    |zero=>
     have p:decide (30<=(e.st (36::123::u) F al).2.2.1)=true:=by show decide (30<=e.ne)=true;grind
     rw[p];have ah:a9 true 0 (36::123::u) F= .deep (36::123::u):=by rfl
     rw[ah];obtain⟨st,g,f⟩:=qz (al:=al) ((e.st (36::123::u) F al).2.1) h gr;simp only[aO,tm];rw[g,aS rfl,aS rfl];exact⟨_,rfl,by cases g;exact f⟩
    |succ m=>
     obtain⟨N_,uz⟩:=hp m rfl;have p:decide (30<=(e.st (36::123::u) F al).2.2.1)=false:=by show decide (30<=e.ne)=false;grind
     rw[p];simp only[aY,oV,aO];have O:e.ne=(e.st (36::123::u) F al).2.2.1:=rfl;rw[<-O];have P:W (e.ne+1)=e.ne+1:=dO (by omega) (by omega);rw[P];have T:((e.st (36::123::u) F al).1,(e.st (36::123::u) F al).2.1,e.ne+1,(e.st (36::123::u) F al).2.2.2.1,(e.st (36::123::u) F al).2.2.2.2.1,(e.st (36::123::u) F al).2.2.2.2.2.1,(e.st (36::123::u) F al).2.2.2.2.2.2.1,(e.st (36::123::u) F al).2.2.2.2.2.2.2.1,(e.st (36::123::u) F al).2.2.2.2.2.2.2.2)=e.up.st (36::123::u) F al:=rfl;rw[T];have ah:a9 true (m+1) (36::123::u) F=((qp (a9 true m)).named [36,123]) u F:=by rw[Gm];unfold dj j0;rw[aM I,aM aoK,ba (by simp)];show((aW true m).pm.named [36,123]) u F=_;rw[aau]
     rw[ah];unfold S3 a6;have Q:W ((e.up.st (36::123::u) F al).2.1+2)=ax e.S u:=kY (w:=[36,123]) (iV h.b4) h.sfx;have JL:((e.up.st (36::123::u) F al).1,W ((e.up.st (36::123::u) F al).2.1+2),(e.up.st (36::123::u) F al).2.2.1,(e.up.st (36::123::u) F al).2.2.2.1,(e.up.st (36::123::u) F al).2.2.2.2.1,(e.up.st (36::123::u) F al).2.2.2.2.2.1,(e.up.st (36::123::u) F al).2.2.2.2.2.2.1,(e.up.st (36::123::u) F al).2.2.2.2.2.2.2.1,(e.up.st (36::123::u) F al).2.2.2.2.2.2.2.2)=e.up.st u F al:=by rw[Q];rfl
     rw[JL];have N8:=abD (R:=R) (a:=[36,123]) (b:=[125]) bB (e.up.st u F al);have A:=(h.mono z).yb;obtain⟨b,g,f⟩:=aoA N_ (e:=e.up) (by show e.ne+1=_;omega) (al:=al) A;rw[g,aS rfl] at N8;refine bR.et ?_ (k2 (λy=>ay y _) N8);unfold qp;have B:=aK.Du (n:=11) (aK.zC (xZ true m▸(tk true m).dl)) 125 u F;have kE:u.length<(123::u).length:=by simp
     have ic:(123::u).length<(36::123::u).length:=by simp
     cases az:iQ 125 (cC (a9 true m) (some (eP (a9 true m)))) u F with
     |ok a an C=>
      rw[az] at f;obtain⟨V,av,⟨s,a3,bQ⟩,fh⟩:=f;dsimp only at a3;rw[UR az];have j:g_ b [36,123] [125]=some b:=qx (by rw[a3];show(0:Int)≠1;decide);rw[j,aS rfl,a3];refine⟨e.st an C s,?_,V.trans z,av.uB,⟨s,rfl,bQ⟩,trivial⟩;show some (e.S,ax e.S an,W (e.ne+1-1),C,(0:Int),(0:Int),([]:H),([]:bs),s)=_;rw[dO (by omega) (by omega)];have:e.ne+1-1=e.ne:=by omega
      rw[this];rfl
     |more op nd ds=>rw[az] at f B;simp only[eu] at B;have X:=A.kk;have Z:e.up.S=e.S:=rfl;rw[Z] at X;obtain⟨fC,iU,sz,lA,vG⟩:=f.z;obtain⟨aL,ai,bf⟩:=x9 (e:=e) (nm:=[36,123]) (x:=[125]) (an:=u) (r0:=36::123::u) (nd:=nd) (ds:=ds) ⟨fC,iU,sz,lA.uB,vG⟩ z h.sfx (.inr (by omega)) (by grind) h.b4 (by simp);rw[ai,aS rfl,US az];obtain⟨r4,eZ,cW,J,mx⟩:=bf;exact⟨tn aL,rfl,.inl ⟨r4,eZ,cW,J.tn,mx⟩⟩
     |bad q=>rw[az] at f;have j:g_ b [36,123] [125]=some b:=qx (by rw[f.1];decide);rw[j,aS rfl,abK az];exact⟨tn b,rfl,f.1,(f.2.uB.mono z).tn⟩
     |deep q=>rw[az] at f;have j:g_ b [36,123] [125]=some b:=qx (by rw[f.1];decide);rw[j,aS rfl,abL az];exact⟨tn b,rfl,f.1,(f.2.uB.mono z).tn⟩
   ·
    simp only[xt,bG,aY];have aP:fD (36::c::u)=false:=by grind[tf]
    rw[JZ true n aP];refine⟨e.st (c::u) F al,?_,D,h.mono D,⟨al,rfl,λi=>absurd i (by simp)⟩,trivial⟩;show some (e.S,W (ax e.S (36::c::u)+1),e.ne,F,(0:Int),(0:Int),([]:H),([]:bs),al)=_;rw[b0];rfl
end
structure uC(r0:H)(f:Bool)(an:H):Prop where
 sfx:an<:+r0
 t:f=true->(di r0).2=(di an).2/\((di an).2=true->(di r0).1=r0.take (r0.length-an.length)++(di an).1)
 f:f=false->(di r0).2=false
theorem uC.start(r:H):uC r true r:=⟨gr,λ_=>⟨rfl,λ_=>by simp⟩,λh=>by cases h⟩
theorem UT(a:cV (b::t)=false)(h:b=92\/b=39\/b=34\/b=96\/fD (b::t)=true):di (b::t)=([],false):=by simp_all[di]
theorem aoL(a:cV (b::t)=false)(h:¬(b=92\/b=39\/b=34\/b=96\/fD (b::t)=true)):(di (b::t)).2=(di t).2/\((di t).2=true->(di (b::t)).1=b::(di t).1):=by
 have h0:di (b::t)=(match di t with|(w,true)=>(b::w,true)|(_,false)=>([],false)):=by rw[di,a,aM (by simp),aM h];grind
 grind
theorem uC.aoM{f:Bool}(bh:uC r0 f (b::t))(a:cV (b::t)=false)(h:b=92\/b=39\/b=34\/b=96\/fD (b::t)=true)(Z:r'<:+r0):uC r0 false r':=by
 refine⟨Z,(λc=>by cases c),λ_=>?_⟩;cases f with
 |true=>rw[(bh.t rfl).1,UT a h]
 |false=>exact bh.f rfl
theorem uC.byte{f:Bool}(bh:uC r0 f (b::t))(a:cV (b::t)=false)(h:¬(b=92\/b=39\/b=34\/b=96\/fD (b::t)=true)):uC r0 f t:=by
 have Y:=bh.sfx;refine⟨(eL b t).trans Y,λhf=>?_,bh.f⟩;obtain⟨M,U⟩:=bh.t hf;obtain⟨d,c⟩:=aoL a h;refine⟨by grind,λah=>?_⟩;rw[U (by grind),c ah];obtain⟨u,rfl⟩:=Y;have e:(u++b::t).length- (b::t).length=u.length:=by simp
 have g:(u++b::t).length-t.length=(u++[b]).length:=by grind
 grind
theorem abM{β b:Type}{g:Prop}[Decidable g]{m:Option α}{d:α}{k:α->Option β}{G:β->Option b}:ay (c1 g m d k) G=c1 g m d (λa=>ay (k a) G):=by grind[c1,tm]
theorem abN{R:bl}{j:Bool×aa->Option (H×Bool×aa)}:∀(n:Nat)(x:Bool×aa),fixF (zh R j) n x=ay (fixF (zh R λx=>some ([],x.1,x.2)) n x) λy=>j (y.2.1,y.2.2)
 |0,x=>rfl
 |n+1,x=>by
  rw[fx,fx];have a:=abN (R:=R) (j:=j) n;generalize fixF (zh R j) n=c at a;generalize fixF (zh R λx=>some ([],x.1,x.2)) n=d at a;obtain⟨f,e,g,i,k,b,l,m,o,p⟩:=x;unfold zh a6;dsimp only;by_cases h:b=0
  ·subst h;simp only[bz,aO,tm,UM,abM,a,oV]
  simp_all[oV]
theorem UU{b:H×Bool×aa}(h:cJ e r0 F)(Y:b.2.2.1=e.S)(d:rM R (e.st r0 F al)=some b):b.1.length<=e.S.length/\((e.S.length:Int)<=b.2.2.2.1->b.1=r0):=by
 unfold rM a6 at d;dsimp only at d;rw[abN] at d;cases o:fixF (zh R λx=>some ([],x.1,x.2)) bB (true,(e.st r0 F al).1,(e.st r0 F al).2.1,(e.st r0 F al).2.2.1,(e.st r0 F al).2.2.2.1,(e.st r0 F al).2.2.2.2.1,(e.st r0 F al).2.2.2.2.2.1,(e.st r0 F al).2.2.2.2.2.2.1,(e.st r0 F al).2.2.2.2.2.2.2.1,(e.st r0 F al).2.2.2.2.2.2.2.2) with
 |none=>rw[o] at d;cases d
 |some y=>
  rw[o,aS rfl] at d;obtain⟨u,f,g,n,p,q,r,i,s,j,k⟩:=y;dsimp only at d
  have l:∀(m:Int),a4 (0<=(e.st r0 F al).2.1/\(e.st r0 F al).2.1<=m/\m<=(g.length:Int)) (some (b3 g (e.st r0 F al).2.1 m,f,(g,n,p,q,r,i,s,j,k)))=some b->b=(b3 g (ax e.S r0) m,f,(g,n,p,q,r,i,s,j,k)):=by
   intro m bk;unfold a4 at bk;split at bk
   ·cases bk;rfl
   grind
  have t:∀(a c:Int),(b3 g a c).length<=g.length:=by intro a c;unfold b3;grind
  by_cases aq:(g.length:Int)<n
  ·simp only[aq,bz,aO] at d;have:=l _ d;subst this;dsimp only at Y⊢;subst Y;exact⟨t _ _,λ_=>NA h.sfx⟩
  ·simp only[aq,bG,aY] at d;have:=l _ d;subst this;dsimp only at Y⊢;subst Y;refine⟨t _ _,λhle=>?_⟩;have:n=(e.S.length:Int):=by omega
   rw[this];exact NA h.sfx
section
variable(hD:ll R n)(bj:e.ne=30- (n:Int))
include hD bj
theorem Gz{O:ag}{tr0:Bool}(h:cJ e r0 O):bR false e r0 (cR (a9 true n) r0 O) (λb=>b.2.2) (λ_ r' b=>b.1=r0.take (r0.length-r'.length)/\b.2.1=(di r0).2/\(b.2.1=true->b.1=(di r0).1)) (rM R (e.st r0 O tr0)):=by
 unfold rM a6 cR;have aoN:=e1 h.sfx;have nY:=h.b4;have S:0<=ax e.S r0:=by grind[ax]
 refine bR.rep (en:=λ_ r F (x:Bool×aa)=>∃al,x.2=e.st r F al/\uC r0 x.1 r) (λk s r F x c D nw az=>?_) bB () r0 O _ (wV h) h ⟨tr0,rfl,uC.start r0⟩;obtain⟨f,x⟩:=x;obtain⟨al,D,bh⟩:=D;dsimp only at D bh;subst D;have G:=bh.sfx;have T:ax e.S r0<=ax e.S r:=by grind[ax]
 have kC:∀(g:Bool)(st:aa),st.1=e.S->ax e.S r0<=st.2.1->∃w,(bif decide ((st.1.length:Int)<st.2.1) then a4 (0<=ax e.S r0/\ax e.S r0<=(st.1.length:Int)/\(st.1.length:Int)<=(st.1.length:Int)) (some (b3 st.1 (ax e.S r0) (st.1.length:Int),g,st))
   else a4 (0<=ax e.S r0/\ax e.S r0<=st.2.1/\st.2.1<=(st.1.length:Int)) (some (b3 st.1 (ax e.S r0) st.2.1,g,st)))=some (w,g,st):=by
  intro g st M U;by_cases aq:(st.1.length:Int)<st.2.1
  ·simp_all[b2,pQ]
  ·simp only[aq,bG,aY];simp_all[b2]
 have gV:∀(x:Bool×aa),x.2.2.2.2.2.1≠0->x.2.1=e.S->ax e.S r0<=x.2.2.1->∃w,k x=some (w,x.1,x.2):=by intro x D M U;obtain⟨k',jU⟩:=nw x;rw[jU];unfold zh;dsimp only;simp only[D,bG,aY];exact kC x.1 x.2 M U
 unfold zh a6 cn.st;dsimp only;simp only[bz,aO];rw[wS,aS rfl];cases r with
 |nil=>simp only[bz,aO];obtain⟨E,a2,V⟩:=Gt (al:=al) (x:=[]) c (by simp);have sE:h2 (e.S,ax e.S [],e.ne,F,0,0,[],[],al) []=some E:=a2;rw[sE,aS rfl];obtain⟨w,l⟩:=kC f E V.2.2.2.1.s (by have:=V.2.2.2.1.lo;omega);exact⟨_,l,V.s⟩
 |cons b t=>
  have m:t<:+b::t:=eL b t;have b0:=iW (iV c.b4) c.sfx;simp only[reduceCtorEq,bG,aY];have ot:∀o p u v z A B,jn (e.S,ax e.S (b::t),o,v,p,u,z,A,B)=some b:=λo p u v z A B=>wT c.sfx o p u v z A B
  have W:∀o p u v z A B,iz (e.S,ax e.S (b::t),o,v,p,u,z,A,B)=some (bt (b::t)):=λo p u v z A B=>JV c.b4 c.sfx o p u v z A B
  rw[ot];simp only[oV,UD,qu];rw[W,gI];have ly:(bif(bif fV b then true else decide (b=10)) then true else(!decide ((if(bif fV b then true else decide (b=10))=false then bt (b::t) else [])=[])))=cV (b::t):=by show _=(fV b||(b==10)||(bt (b::t)!=[]));grind
  rw[ly];by_cases l:cV (b::t)=true
  ·rw[ba l,l];simp only[aO];have X:¬(e.S.length:Int)<ax e.S (b::t):=by simp[pQ]
   simp only[X,bG,aY];rw[b2 ⟨S,T,pQ⟩];have hO:=JC h.sfx G;refine⟨_,rfl,gr,c,⟨al,rfl,λhh=>by cases hh⟩,hO,?_,?_⟩
   ·cases f with
    |true=>rw[(bh.t rfl).1];unfold di;grind
    |false=>exact(bh.f rfl).symm
   ·intro hf;have HK:f=true:=hf;have:=(bh.t HK).2 (by unfold di;grind);rw[this];show b3 e.S (ax e.S r0) (ax e.S (b::t))=_;rw[hO];have ah:(di (b::t)).1=[]:=by unfold di;grind
    grind
  have P:cV (b::t)=false:=by grind
  rw[aM l,P];simp only[aY,oQ,nu,oP,ra,rY];have u6:∀(g:Bool),(∀r',r'<:+t->uC r0 g r')->∀r' d E,r'<:+t->cJ e r' d->gJ e r' d E->bR false e (b::t) (cD (λ_ r F=>match r with
    |[]=>b5 [] r F
    |_::_=>if cV r then .ok (.inr ()) r F else(N (cC (a9 true n) (some (eP (a9 true n)))) λ_=>aU (.inl ())) r F) () r' d) (λb=>b.2.2) (λ_ r' b=>b.1=r0.take (r0.length-r'.length)/\b.2.1=(di r0).2/\(b.2.1=true->b.1=(di r0).1)) (k (g,E)):=by
   intro g bk r' d E Z av a3;obtain⟨wU,rfl,_⟩:=a3;exact az () r' d (g,e.st r' d wU) (Z.trans m) av (by grind) ⟨wU,rfl,bk r' Z⟩
  have Q:∀(g:Bool)(y:Option aa)(K:aa->Option (H×Bool×aa)),(∀r',r'<:+t->uC r0 g r')->bR false e (b::t) (cC (a9 true n) (some (eP (a9 true n))) (b::t) F) (λst=>st) (λ_ _ _=>True) y->(∀a r' d,cC (a9 true n) (some (eP (a9 true n))) (b::t) F= .ok a r' d->r'<:+t)->(∀st,K st=k (g,st))->
    bR false e (b::t) (dc (λ_ r F=>match r with|[]=>b5 [] r F|_::_=>if cV r then .ok (.inr ()) r F else(N (cC (a9 true n) (some (eP (a9 true n)))) λ_=>aU (.inl ())) r F) (b::t) (N (cC (a9 true n) (some (eP (a9 true n)))) (λ_=>aU (.inl ())) (b::t) F)) (λb=>b.2.2) (λ_ r' b=>b.1=r0.take (r0.length-r'.length)/\b.2.1=(di r0).2/\(b.2.1=true->b.1=(di r0).1)) (ay y K):=by
   intro g y K bk bw hT lG
   have I:∀st:aa,st.2.2.2.2.1≠0->oT e (b::t) st->∃w,K st=some (w,g,st):=by intro st M U;rw[lG];exact gV (g,st) M U.s (by have:=U.lo;grind)
   refine bR.je dg.k bw (λa an aD C i s1 v1 hJ _=>?_) (λop nd ds C _ gb=>?_) (λC dX=>?_)
   ·have Y:=hT a an aD i;rw[lG];exact bR.inl (by grind) (u6 g bk an aD C Y v1 hJ)
   ·obtain⟨w,l⟩:=I C (by rw[gb.z.1];decide) gb.z.2.2.2.1;grind
   ·obtain⟨w,l⟩:=I C (by rw[dX.1];decide) dX.2;grind
  have J:(b=92\/b=39\/b=34\/b=96\/fD (b::t)=true)->∀r',r'<:+t->uC r0 false r':=λY r' x2=>bh.aoM P Y (x2.trans (m.trans G))
  by_cases eg:b=92
  ·subst eg;simp only[bz,aO];have ah:zf (e.S,ax e.S (92::t),e.ne,F,0,0,[],[],al)=some (e.st (t.drop 1) F al):=UO c;rw[ah,aS rfl];have aB:t.drop 1<:+t:=iI 1 t;have aw:(t.drop 1).length<(92::t).length:=by grind
   have j:N (cC (a9 true n) (some (eP (a9 true n)))) (λ_=>(aU (.inl ()):ab (Unit⊕Unit))) (92::t) F= .ok (.inl ()) (t.drop 1) F:=by rfl
   rw[j];exact bR.inl aw (az () _ F (false,e.st (t.drop 1) F al) (aB.trans m) (c.mono (aB.trans m)) aw ⟨al,rfl,J (.inl rfl) _ aB⟩)
  simp only[eg,bG,aY];by_cases j8:b=39
  ·subst j8;simp only[bz,aO];have j:cC (a9 true n) (some (eP (a9 true n))) (39::t) F=ki gw [39] t F:=by rfl
   have:=Q false _ (λst=>k (false,st)) (J (.inr (.inl rfl))) (by rw[j];exact abF (al:=al) c gr) (λa r' d i=>by grind[ki,Bi]) (λ_=>rfl)
   rw[tm] at this;exact this
  simp only[j8,bG,aY];by_cases gT:b=34
  ·subst gT;simp only[bz,aO];have j:cC (a9 true n) (some (eP (a9 true n))) (34::t) F=eP (a9 true n) t F:=by rfl
   exact Q false _ (λst=>k (false,st)) (J (.inr (.inr (.inl rfl)))) (by rw[j];exact abG hD bj (al:=al) c gr c.sfx) (λa r' d i=>by rw[j] at i;exact(ae.double (mO true n)).sfx i) (λ_=>rfl)
  simp only[gT,bG,aY];by_cases mC:b=96
  ·subst mC;simp only[bz,aO];have j:cC (a9 true n) (some (eP (a9 true n))) (96::t) F=ki gx [96] t F:=by rfl
   have:=Q false _ (λst=>k (false,st)) (J (.inr (.inr (.inr (.inl rfl))))) (by rw[j];exact UP (al:=al) c gr) (λa r' d i=>by
    rw[j] at i;unfold ki at i;cases aH:gx t with
    |none=>grind
    |some q=>rw[aH] at i;cases i;exact F3 _ _ _ (cS _) aH) (λ_=>rfl)
   rw[tm] at this;exact this
  simp only[mC,bG,aY];by_cases re:b=36
  ·subst re;simp only[bz,aO];have N5:vp (e.S,ax e.S (36::t),e.ne,F,0,0,[],[],al) 1=some (t.headD 0):=UL c 1 (by decide);rw[N5];simp only[oV,gI,Bj,Bk];have aP:fD (36::t)=(decide (t.headD 0=40)||decide (t.headD 0=123)):=by grind[tf]
   have Jm:∀a r' d,cC (a9 true n) (some (eP (a9 true n))) (36::t) F= .ok a r' d->r'<:+t:=by
    intro a r' d i;rw[DH] at i;have Y:=((mO true n).ex.sfx i);have aw:=UQ true n i;rcases List.suffix_cons_iff.1 Y with M|M
    ·grind
    omega
   have m5:=λg bk=>Q g (R.v9 (e.S,ax e.S (36::t),e.ne,F,0,0,[],[],al)) (λst=>k (g,st)) bk (by rw[DH];exact hD.im e bj t F al c) Jm (λ_=>rfl);cases L:fD (36::t) with
   |true=>
    rw[L] at aP;have aq:(bif decide (t.headD 0=40) then true else decide ((if decide (t.headD 0=40)=false then t.headD 0 else 0)=123))=true:=by grind
    rw[aq];exact m5 false (J (.inr (.inr (.inr (.inr L)))))
   |false=>
    rw[L] at aP;have gl:decide (t.headD 0=40)=false/\decide (t.headD 0=123)=false:=by grind
    have aq:(bif decide (t.headD 0=40) then true else decide ((if decide (t.headD 0=40)=false then t.headD 0 else 0)=123))=false:=by grind
    rw[aq];simp only[aY];have aoR:¬((36:UInt8)=92\/(36:UInt8)=39\/(36:UInt8)=34\/(36:UInt8)=96\/fD (36::t)=true):=by grind
    have j_:=bh.byte P aoR;have bw:=hD.im e bj t F al c;obtain⟨C,bu,aV⟩:=bw;have wY:R.v9 (e.S,ax e.S (36::t),e.ne,F,0,0,[],[],al)=some C:=bu;rw[wY,aS rfl];rw[JZ true n L] at aV;obtain⟨Z,av,⟨pg,rfl,bQ⟩,_⟩:=aV;have j:N (cC (a9 true n) (some (eP (a9 true n)))) (λ_=>(aU (.inl ()):ab (Unit⊕Unit))) (36::t) F= .ok (.inl ()) t F:=by unfold N;rw[DH,JZ true n L];rfl
    rw[j];exact bR.inl (by simp) (az () _ F (f,e.st t F pg) m av (by simp) ⟨pg,rfl,j_⟩)
  ·simp only[re,bG,aY,b0];have j:N (cC (a9 true n) (some (eP (a9 true n)))) (λ_=>(aU (.inl ()):ab (Unit⊕Unit))) (b::t) F= .ok (.inl ()) t F:=by unfold N;rw[Gw eg mC re (.inr ⟨j8,gT⟩)];rfl
   have ff:fD (b::t)=false:=by grind[tf]
   rw[j];exact bR.inl (by simp) (az () _ F (f,e.st t F al) m (c.mono m) (by simp) ⟨al,rfl,bh.byte P (by grind)⟩)
end
theorem aoS(h:gw t=none):dl (t++[39]) 39=some t:=by
 have:=JK (t++[39]);have Y:gw (t++[39])=some []:=by
  induction t with
  |nil=>decide
  |cons b t d=>
   unfold gw at h;by_cases a:b=39
   ·grind
   ·rw[aM a] at h;show(if b=39 then some (t++[39]) else gw (t++[39]))=some [];rw[aM a];grind[JK]
 rw[Y] at this;obtain⟨c,M,U,e⟩:=this;have f:c=t:=by grind
 grind[Gf]
theorem aoT:∀(n:Nat)(t:H),t.length<=n->cx t->t≠[]->g1 t= .part->∃x c y,t=x++c::y/\(c=36\/c=96)/\(∀v,dl (x++c::v) 34=none)/\
  ∀(D:ab Unit),gn D->∀F a q g,iQ 34 (cC D none) t F= .ok a q g->q<:+y:=by
 intro n;induction n with
 |zero=>simp
 |succ n r=>
  intro t af k bj f;cases t with
  |nil=>grind
  |cons b t=>
   have z:t.length<=n:=by grind
   by_cases h:b=34
   ·grind[NO]
   by_cases ah:b=36\/b=96
   ·refine⟨[],b,t,rfl,ah,λv=>NN 34 (.inr rfl) b ah v,λD hD F a q g e=>?_⟩;unfold iQ at e;rw[cL] at e;simp only[aM h] at e;have l:ae (iQ 34 (cC D none)):=ae.qq 34 (ae.part hD (by simp)) (lx.part hD (by simp));cases hm:cC D none (b::t) F with
    |ok E an G=>
     have aw:=(lx.part hD (dq:=none) (by simp)) (by simp) hm;have Y:=(ae.part hD (dq:=none) (by simp)).sfx hm;have A:an<:+t:=by
      rcases List.suffix_cons_iff.1 Y with M|M
      ·grind
      omega
     rw[aJ hm] at e;unfold aU dc at e;simp only at e;rw[ba aw] at e;exact(l.sfx e).trans A
    |more op nd ds=>rw[dx hm] at e;cases e
    |bad _=>rw[hS hm] at e;cases e
    |deep _=>rw[km hm] at e;cases e
   have i:b≠36/\b≠96:=by grind
   by_cases j:b=92
   ·subst j;have I:t≠[]:=by
     rintro rfl;rcases k with M|⟨s,M⟩
     ·cases M
     ·have:=k2 List.getLast? M;grind
    cases t with
    |nil=>grind
    |cons c u=>
     rw[NP] at f;have m:g1 u= .part:=by cases hu:g1 u<;>rw[hu] at f<;>simp[nk.add] at f⊢
     have o:u≠[]:=by rintro rfl;grind[g1]
     obtain⟨x,d,y,M,U,w,B⟩:=r u (by grind) k.tail.tail o m;refine⟨92::c::x,d,y,by grind,U,λv=>?_,λD hD F a q g e=>?_⟩
     ·grind[dl,T4]
     ·have p:cC D none (92::c::u) F= .ok () u F:=by rfl
      rw[Nw (by decide) p (by grind)] at e;grind
   ·rw[NQ b h ah j] at f;have m:g1 t= .part:=by cases hu:g1 t<;>rw[hu] at f<;>simp[nk.add] at f⊢
    have o:t≠[]:=by rintro rfl;grind[g1]
    obtain⟨x,d,y,M,U,w,B⟩:=r t z k.tail o m;refine⟨b::x,d,y,by grind,U,λv=>?_,λD hD F a q g e=>?_⟩
    ·show dl (b::(x++d::v)) 34=none;rw[JJ 34 (.inr rfl) b j i.1 i.2 h (λC=>absurd C (by decide)),w];rfl
    ·have p:cC D none (b::t) F= .ok () t F:=Gw j i.2 i.1 (.inl rfl);rw[Nw h p (by simp)] at e;grind
theorem aoU(hD:gn D):∀(n:Nat)(t:H)(F:ag),t.length<=n->match g1 t with
  | .closed _ r=>iQ 34 (cC D none) t F= .ok () r F
  | .open_ _=>iQ 34 (cC D none) t F= .more [] [] F
  | .part=>True:=by
 intro n;induction n with
 |zero=>intro t F h;have:t=[]:=tA.1 (by omega);subst this;show iQ 34 (cC D none) [] F= .more [] [] F;unfold iQ;rw[cL];rfl
 |succ n f=>
  intro t F af;cases t with
  |nil=>simp_all
  |cons b t=>
   have i:t.length<=n:=by grind
   by_cases a:b=34
   ·subst a;simp[NO,iQ,cC,cL,dc]
   by_cases ah:b=36\/b=96
   ·grind[T5]
   have g:b≠36/\b≠96:=by grind
   by_cases d:b=92
   ·subst d;cases t with
    |nil=>simp[T6]
    |cons c u=>
     rw[NP];have e:cC D none (92::c::u) F= .ok () u F:=by rfl
     have j:=Nw (c:=34) (b:=92) (by decide) e (by grind);have:=f u F (by grind);grind[g1,nk.add,part]
   ·rw[NQ b a ah d];have e:cC D none (b::t) F= .ok () t F:=Gw d g.2 g.1 (.inl rfl);have j:=Nw (c:=34) a e (by simp);have:=f t F i;grind[g1,nk.add,part]
def Ob(m:Option H):Prop:=m=none\/∃d,m=some d/\d.contains 10=true
theorem Ob.map{m:Option H}(h:Ob m)(x:H):Ob (m.map (x++·)):=by
 rcases h with rfl|⟨d,rfl,h⟩
 ·exact .inl rfl
 ·refine .inr ⟨x++d,rfl,?_⟩;grind
def By(r:H)(F:ag):dn Unit->Prop
 | .ok _ q a=>∃w,r=w++q/\((dP r=none/\dl w 0=none)\/∃d,dl w 0=some d/\dP r=some (d,q,[])/\a=F)
 | .more _ nd ds=>(dP r=none/\Ob (dl (r++nd) 0))\/∃d,dP r=some (d,[],nd)/\dl (r++nd) 0=some d/\ds=F
 | .bad _=>dP r=none
 | .deep _=>dP r=none
theorem By.step{p:H}{m:dn Unit}(h:By u F m)(Z:r=p++u)(M:dP r=(dP u).map λq=>(x++q.1,q.2))(U:∀v,dl (p++v) 0=(dl v 0).map (x++·)):By r F m:=by
 cases m with
 |ok a q e=>obtain⟨w,f,g⟩:=h;refine⟨p++w,by grind,?_⟩;grind
 |more op nd ds=>
  have c:dl (r++nd) 0=(dl (u++nd) 0).map (x++·):=by grind
  rcases h with⟨b,av⟩|⟨d,b,av,a3⟩
  ·left;rw[M,b,c];exact⟨rfl,av.map x⟩
  ·right;grind
 |bad q=>show dP r=none;rw[M,show dP u=none from h];rfl
 |deep q=>show dP r=none;rw[M,show dP u=none from h];rfl
theorem By.Oc{m:dn Unit}(M:dP r=none)(U:∀a q b,m= .ok a q b->∃w,r=w++q/\dl w 0=none)(c:∀v,dl (r++v) 0=none):By r F m:=by
 cases m with
 |ok a q b=>obtain⟨w,d,av⟩:=U a q b rfl;exact⟨w,d,.inl ⟨M,av⟩⟩
 |more op nd ds=>exact .inl ⟨M,.inl (c nd)⟩
 |bad q=>exact M
 |deep q=>exact M
theorem aoV(hD:gn D):∀(n:Nat)(r:H)(F:ag),r.length<=n->cx r->By r F (cR D r F):=by
 intro n;induction n with
 |zero=>
  intro r F h _;have:r=[]:=tA.1 (by omega);subst this;have:cR D [] F= .more [] [] F:=by unfold cR;rw[cL];rfl
  rw[this];exact .inr ⟨[],by rw[dP],by simp[Gf],rfl⟩
 |succ n l=>
  intro r F af e;cases r with
  |nil=>grind
  |cons b t=>
   have P:t.length<=n:=by grind
   by_cases Z:cV (b::t)=true
   ·have Q:cR D (b::t) F= .ok () (b::t) F:=by unfold cR;grind[cL,dc]
    have f:dP (b::t)=some ([],b::t,[]):=by simp_all[dP.eq_def,ba]
    rw[Q];exact⟨[],rfl,.inr ⟨[],Gf,f,rfl⟩⟩
   have g:cV (b::t)=false:=by grind
   have C:∀a q k,cR D (b::t) F= .ok a q k->∃w,b::t=b::w++q:=by
    intro a q k d;have Y:=(ae.word hD).sfx d;have aw:=wJ hD (by simp) g d;rcases List.suffix_cons_iff.1 Y with M|⟨w,M⟩
    ·grind
    grind
   by_cases E:b=92
   ·subst E;have G:t≠[]:=by
     rintro rfl;rcases e with M|⟨s,M⟩
     ·cases M
     ·have:=k2 List.getLast? M;grind
    cases t with
    |nil=>grind
    |cons c u=>
     have i:cC D (some (eP D)) (92::c::u) F= .ok () u F:=by rfl
     rw[Dt g i (by grind)];refine(l u F (by grind) e.tail.tail).step (p:=[92,c]) (x:=if c=10 then [] else [c]) rfl (by rw[dP.eq_def];grind) λv=>?_;show dl (92::c::v) 0=_;rw[T2 0 (.inl rfl)];by_cases aq:c=10
     ·simp[aq]
     grind
   by_cases I:b=39
   ·subst I;have i:cC D (some (eP D)) (39::t) F=ki gw [39] t F:=by rfl
    cases Y:gw t with
    |none=>
     have hm:cR D (39::t) F= .more [[39]] [39] F:=by
      unfold cR;rw[cL];simp only[g,fR,cZ];have:cC D (some (eP D)) (39::t) F= .more [[39]] [39] F:=by grind[ki]
      rw[dx this];rfl
     rw[hm];have f:dP (39::t)=none:=by rw[dP.eq_def];grind
     refine .inl ⟨f,.inr ⟨t,?_,?_⟩⟩
     ·grind[dl,T3,aoS]
     ·have G:t≠[]:=by
       rintro rfl;rcases e with M|⟨s,M⟩
       ·cases M
       ·have:=k2 List.getLast? M;grind
      rcases e.tail with M|⟨s,M⟩
      ·grind
      grind
    |some j=>
     have L:=JK t;rw[Y] at L;obtain⟨m,N,O,R⟩:=L;have S:=A_ t j Y;have x4:cC D (some (eP D)) (39::t) F= .ok () j F:=by grind[ki]
     rw[Dt g x4 (by grind)];refine(l j F (by omega) (e.tail.iT (Bi _ _ Y))).step (p:=39::m++[39]) (x:=m) (by grind) ?_ λv=>?_
     ·rw[dP.eq_def];grind
     grind[T3]
   by_cases ah:b=36\/b=96
   ·have f:dP (b::t)=none:=by simp_all[dP.eq_def,aM,ba]
    refine By.Oc f (λa q k d=>?_) λv=>NN 0 (.inl rfl) b ah _;obtain⟨w,M⟩:=C a q k d;exact⟨b::w,M,NN 0 (.inl rfl) b ah w⟩
   have A:b≠36/\b≠96:=by grind
   by_cases J:b=34
   ·subst J;have i:cC D (some (eP D)) (34::t) F=eP D t F:=by rfl
    have B:=aoU hD t.length t F (cS _);have K:=aaD _ t (cS _);have G:t≠[]:=by
     rintro rfl;rcases e with M|⟨s,M⟩
     ·cases M
     ·have:=k2 List.getLast? M;grind
    cases Y:g1 t with
    |closed o j=>
     rw[Y] at B K;obtain⟨m,N,O⟩:=K;have x4:cC D (some (eP D)) (34::t) F= .ok () j F:=by rw[i];exact UR B
     have S:=FU t o j Y;rw[Dt g x4 (by grind)];refine(l j F (by omega) (e.tail.iT (Tn _ _ _ _ (Nat.le_refl _) Y))).step (p:=34::m) (x:=o) (by grind) ?_ λv=>?_
     ·rw[dP.eq_def];grind
     grind[dl,Dz]
    |open_ o=>
     rw[Y] at B K;have x4:cC D (some (eP D)) (34::t) F= .more [[34]] [34] F:=by rw[i];exact US B
     have hm:cR D (34::t) F= .more [[34]] [34] F:=by unfold cR;rw[cL];simp only[g,fR,cZ];rw[dx x4];rfl
     rw[hm];have f:dP (34::t)=some (o,[],[34]):=by rw[dP.eq_def];grind
     refine .inr ⟨o,f,?_,rfl⟩;grind[dl,Dz]
    |part=>
     have f:dP (34::t)=none:=by rw[dP.eq_def];grind
     obtain⟨x,c,y,N,O,R,T⟩:=aoT _ t (cS _) e.tail G Y;refine By.Oc f (λa q k d=>?_) λv=>?_
     ·
      have U:q<:+y:=by
       unfold cR at d;rw[cL] at d;simp only[g,fR,cZ] at d;cases hm:cC D (some (eP D)) (34::t) F with
       |ok V an W=>
        rw[aJ hm] at d;rw[i] at hm;have X:=hn.1 (FW.1 hm);have M:=T D hD F V an W X;unfold aU dc at d;simp only at d;split at d
        ·exact((ae.word hD).sfx d).trans M
        grind
       |more op nd ds=>rw[dx hm] at d;cases d
       |bad _=>rw[hS hm] at d;cases d
       |deep _=>rw[km hm] at d;cases d
      obtain⟨z,rfl⟩:=U;grind[Dz]
     grind[dl,Dz,List.append_assoc]
   ·have i:cC D (some (eP D)) (b::t) F= .ok () t F:=Gw E A.2 A.1 (.inr ⟨I,J⟩);rw[Dt g i (by simp)];refine(l t F P e.tail).step (p:=[b]) (x:=[b]) rfl (by rw[dP.eq_def];grind) λv=>?_;show dl (b::v) 0=_;rw[JJ 0 (.inl rfl) b E A.1 A.2 J (λ_=>I)];rfl
theorem aoX{I:aa}{j:Int->Option aa}(m:I.1=e.S)(dy:e.S.length<=1000000):∀(n:Nat)(r:H),r.length<n->r<:+e.S->fixF (SF I j) n (ax e.S r)=j (ax e.S (r.dropWhile cd)):=by
 intro n;induction n with
 |zero=>omega
 |succ n o=>
  intro r af Z;rw[fx];generalize fixF _ n=k at o;unfold SF;rw[m];cases r with
  |nil=>have l:=λa c d f g h i=>wT Z a c d f g h i;rw[l];rfl
  |cons b t=>
   have l:∀a c d f g h i,jn _=some b:=λa c d f g h i=>wT Z a c d f g h i
   rw[l];simp only[oV,gI,Uj,Uk];have aq:(bif decide (48<=b) then decide ((if decide (48<=b)=true then b else 0)<=57) else false)=cd b:=by grind[cd]
   rw[iW (iV dy) Z];grind[List.dropWhile_cons_of_pos,dV,List.dropWhile_cons_of_neg]
theorem Oe(h:cJ e r F)(Z:r≠[]):xJ (e.st r F al)=some (match ar r with| .word _ _=>false|_=>true):=by
 unfold xJ;have a:jn (e.st r F al)=some _:=wT h.sfx _ _ _ _ _ _ _;have c:iz (e.st r F al)=some _:=JV h.b4 h.sfx _ _ _ _ _ _ _;rw[a];simp only[oV,qu];rw[c,gI];cases r with
 |nil=>grind
 |cons b t=>grind[x_]
theorem abU(F:ag):b8 [] F [120]=([120],F):=UF _ [] F (by decide)
theorem abV{q:H}(h:cJ e q F)(a:q<:+r):oT e r (e.st q F al):=by
 refine⟨rfl,?_,?_,?_,?_⟩
 ·show ax e.S r<=ax e.S q;grind[ax]
 ·show ax e.S q<=_;have:= @pQ q e.S;omega
 ·show([]).length+eA F<=_;have:=h.kk;grind
 ·show([]).length<=_;simp
section
variable(hD:ll R n)(bj:e.ne=30- (n:Int))
include hD bj
theorem UX(h:cJ e r F)(Y:bg r=some r)(iS:fm (bt (r.dropWhile cd))=true):bR false e r (dM (a9 true n) r F) (λst=>st) (λb _ _=>b=true) (FI R (e.st r F al)):=by
 have DA:r.dropWhile cd<:+r:=Bb;have c8:dM (a9 true n) r F=N (if bt (r.dropWhile cd)=[60,60] then gm false else if bt (r.dropWhile cd)=[60,60,45] then gm true else jP (a9 true n) [120]) (λ_=>aU true) ((r.dropWhile cd).drop (bt (r.dropWhile cd)).length) F:=by
  have nv:fI r F= .ok (some (bt (r.dropWhile cd))) ((r.dropWhile cd).drop (bt (r.dropWhile cd)).length) F:=by simp_all[fI]
  unfold dM;grind[aJ]
 rw[c8];unfold FI a6;have M:(e.st r F al).1=e.S:=rfl;have U:(e.st r F al).2.1=ax e.S r:=rfl;refine bR.et ?_ (aoX (e:=e) (I:=e.st r F al) rfl h.b4 bB r (ml (k1 (e1 h.sfx) (iV h.b4))) h.sfx);have aH:=DA.trans h.sfx;have UY:=h.mono DA;generalize r.dropWhile cd=q at*;have jj:bt q<+:q:=Nm;have lQ:=Tu (r:=q);have h0:=T_ iS;have ff:iz ((e.st r F al).1,ax e.S q,(e.st r F al).2.2.1,(e.st r F al).2.2.2.1,(e.st r F al).2.2.2.2.1,(e.st r F al).2.2.2.2.2.1,(e.st r F al).2.2.2.2.2.2.1,(e.st r F al).2.2.2.2.2.2.2.1,(e.st r F al).2.2.2.2.2.2.2.2)=some (bt q):=JV h.b4 aH _ _ _ _ _ _ _;rw[ff,aS rfl];generalize aP:bt q=o at*;obtain⟨v,rfl⟩:=jj;rw[pq];have hi:v<:+o++v:=gq o v;have aC:=UY.mono hi;have lC:W (ax e.S (o++v)+(o.length:Int))=ax e.S v:=kY (iV h.b4) aH;have tl:v≠[]:=by
  rintro rfl;rw[pZ] at aH;rcases h.nl.iT aH with m|⟨s,m⟩
  ·grind
  grind
 have T0:v.length<r.length:=by grind
 have b0:((e.st r F al).1,W (ax e.S (o++v)+(o.length:Int)),(e.st r F al).2.2.1,(e.st r F al).2.2.2.1,(e.st r F al).2.2.2.2.1,(e.st r F al).2.2.2.2.2.1,(e.st r F al).2.2.2.2.2.2.1,(e.st r F al).2.2.2.2.2.2.2.1,(e.st r F al).2.2.2.2.2.2.2.2)=e.st v F al:=by rw[lC];rfl
 rw[b0];have zR:v<:+r:=hi.trans DA;have avm:=aC.kk;have pc:=uA F;have nY:=h.b4;have aoN:=e1 h.sfx;have avn:(bif decide (o=[60,60]) then true else decide (o=[60,60,45]))=(decide (o=[60,60])||decide (o=[60,60,45])):=by simp
 rcases x8 aC ⟨al,rfl,λC=>absurd C tl⟩ with⟨c,eX,cF,ek,iF,X,dR,iM⟩|⟨cF,ek⟩
 ·rw[ek,aS rfl];obtain⟨g,rfl,_⟩:=iF;have Z:c≠[]:=abu (h.nl.iT aC.sfx) tl cF;have kC:g9 ((e.st c F g).1,(e.st c F g).2.1,(e.st c F g).2.2.1,(e.st r F al).2.2.2.1,(e.st c F g).2.2.2.2.1,(e.st c F g).2.2.2.2.2.1,(e.st c F g).2.2.2.2.2.2.1,(e.st r F al).2.2.2.2.2.2.2.1,(e.st c F g).2.2.2.2.2.2.2.2)=some (decide (c=[])):=wS e c _ _ _ _ _ _ _;rw[kC,aS rfl,e3 Z];simp only[aY];have aoY:xJ ((e.st c F g).1,(e.st c F g).2.1,(e.st c F g).2.2.1,(e.st r F al).2.2.2.1,(e.st c F g).2.2.2.2.1,(e.st c F g).2.2.2.2.2.1,(e.st c F g).2.2.2.2.2.2.1,(e.st r F al).2.2.2.2.2.2.2.1,(e.st c F g).2.2.2.2.2.2.2.2)=some (match ar c with| .word _ _=>false|_=>true):=Oe X Z;rw[aoY,aS rfl];have u:c<:+r:=dR.trans zR
  have aoZ:∀t,ar c=t->(∀w p,t≠ .word w p)->(if o=[60,60] then gm false else if o=[60,60,45] then gm true else jP (a9 true n) [120]:ab Unit) v F= .bad c:=by
   intro t ao avo
   have avp:∀tabs,gm tabs v F= .bad c:=by grind[gm,jd]
   have r5:jP (a9 true n) [120] v F= .bad c:=by
    unfold jP;rw[aJ (bL cF)];cases az:ar c with
    |eof=>grind[jd]
    |word w p=>grind
    |_=>rfl
   grind
  by_cases hw:∃w p,ar c= .word w p
  ·obtain⟨w,p,hw⟩:=hw;rw[hw];simp only[aY];have eH:=Gz hD bj (tr0:=g) X;obtain⟨⟨fC,hP,f⟩,bu,i⟩:=eH;have wY:rM R ((e.st c F g).1,(e.st c F g).2.1,(e.st c F g).2.2.1,(e.st r F al).2.2.2.1,(e.st c F g).2.2.2.2.1,(e.st c F g).2.2.2.2.2.1,(e.st c F g).2.2.2.2.2.2.1,(e.st r F al).2.2.2.2.2.2.2.1,(e.st c F g).2.2.2.2.2.2.2.2)=some (fC,hP,f):=bu;rw[wY,aS rfl];simp only;have D:=aoV (mO true n) _ c F (cS _) (h.nl.iT X.sfx);by_cases aB:o=[60,60]\/o=[60,60,45]
   ·have E:(bif decide (o=[60,60]) then true else decide (o=[60,60,45]))=true:=by grind
    rw[E];simp only[hU,aY];have Of:(if o=[60,60] then gm false else if o=[60,60,45] then gm true else jP (a9 true n) [120]:ab Unit)=gm (decide (o=[60,60,45])):=by grind
    generalize decide (o=[60,60,45])=tabs at*;have j:gm tabs v F=(match dP c with
      |none=> .bad c
      |some (d,q,k)=>if d.contains 10 then .bad c else
       if tabs/\d.head?=some 9 then .bad c else
       if k≠[] then .more [k] k (F++[(d,tabs)]) else
       if q=[] then .more [] [] (F++[(d,tabs)]) else .ok () q (F++[(d,tabs)])):=by
     grind[gm]
    have Xb:f.2.2.2.2.2.2.1.length<=100*e.S.length+1000:=by
     cases hm:cR (a9 true n) c F with
     |ok a L G=>rw[hm] at i;obtain⟨_,_,⟨oi,m,_⟩,_⟩:=i;dsimp only at m;rw[m];show([]:H).length<=_;simp
     |more op nd ds=>rw[hm] at i;have:=i.z.2.2.2.1.nd;grind
     |bad q=>rw[hm] at i;have:=i.2.nd;grind
     |deep q=>rw[hm] at i;have:=i.2.nd;grind
    have ao0:b3 f.2.2.2.2.2.2.1 ((e.st c F g).2.2.2.2.2.2.1.length:Int) (f.2.2.2.2.2.2.1.length:Int)=f.2.2.2.2.2.2.1:=by show b3 f.2.2.2.2.2.2.1 ((0:Nat):Int) _=_;simp[b3]
    rw[ao0];have abX:f.1=e.S/\oT e r f:=by
     cases hm:cR (a9 true n) c F with
     |ok a L G=>rw[hm] at i;obtain⟨cH,av,⟨oi,m,_⟩,_⟩:=i;dsimp only at m;rw[m];exact⟨rfl,abV av (cH.trans u)⟩
     |more op nd ds=>rw[hm] at i;exact⟨i.z.2.2.2.1.s,i.z.2.2.2.1.mono u⟩
     |bad q=>rw[hm] at i;exact⟨i.2.s,i.2.mono u⟩
     |deep q=>rw[hm] at i;exact⟨i.2.s,i.2.mono u⟩
    obtain⟨x3,B6⟩:=UU X abX.1 bu;dsimp only at x3 B6;have vF:fC.length<=1000000:=by omega
    refine bR.et ?_ (b2 (show 0<=((e.st c F g).2.2.2.2.2.2.1.length:Int)/\((e.st c F g).2.2.2.2.2.2.1.length:Int)<=(f.2.2.2.2.2.2.1.length:Int)/\(f.2.2.2.2.2.2.1.length:Int)<=(f.2.2.2.2.2.2.1.length:Int) from by show(0:Int)<=((0:Nat):Int)/\((0:Nat):Int)<=_/\_;omega))
    refine bR.et ?_ (b2 (by omega));have hlen:((fC++f.2.2.2.2.2.2.1).length:Int)<=200000000:=by grind
    refine bR.et ?_ (aS (ani _ hlen));have z:=abX.2;have ao1:∀(l:H)(O:Bool),(a4 (((bif tabs then(decide (0<(l.length:Int))) else false)=true)->((bif(decide (f.2.2.2.2.1=2)) then true else(!O))=false)->0<=(0:Int)/\0<(l.length:Int))<|
      (bif(bif(bif(decide (f.2.2.2.2.1=2)) then true else(!O)) then true else(bif(bif tabs then(decide (0<(l.length:Int))) else false) then(decide (((at' l 0).toNat:Int)=(9:Int))) else false)) then
      (ay (ih f (e.st c F g).2.1) λ(J:aa)=>
      some (J.1,J.2.1,J.2.2.1,f.2.2.2.1,J.2.2.2.2.1,J.2.2.2.2.2.1,J.2.2.2.2.2.2.1,f.2.2.2.2.2.2.2.1,J.2.2.2.2.2.2.2.2))
      else
      (a4 (f.2.2.2.1.length+([(l,tabs)]:ag).length<=536870912)<|
      some (f.1,f.2.1,f.2.2.1,(f.2.2.2.1++([(l,tabs)]:ag)),f.2.2.2.2.1,f.2.2.2.2.2.1,f.2.2.2.2.2.2.1,f.2.2.2.2.2.2.2.1,f.2.2.2.2.2.2.2.2))))=
      if(f.2.2.2.2.1=2\/O=false\/(tabs=true/\l.head?=some 9)) then some (f.1,f.2.1,f.2.2.1,f.2.2.2.1,2,(e.st c F g).2.1,f.2.2.2.2.2.2.1,f.2.2.2.2.2.2.2.1,f.2.2.2.2.2.2.2.2)
      else some (f.1,f.2.1,f.2.2.1,(f.2.2.2.1++([(l,tabs)]:ag)),f.2.2.2.2.1,f.2.2.2.2.2.1,f.2.2.2.2.2.2.1,f.2.2.2.2.2.2.2.1,f.2.2.2.2.2.2.2.2):=by
     intro l O
     rw[b2 (by grind)]
     have T9:(bif bif tabs then decide (0<(l.length:Int)) else false then decide (((at' l 0).toNat:Int)=9) else false)=decide (tabs=true/\l.head?=some 9):=by
      cases tabs with
      |false=>simp
      |true=>
       cases l with
       |nil=>simp
       |cons x y=>simp[at',JA]
     rw[T9];have ao2:f.2.2.2.1.length+[(l,tabs)].length<=536870912:=by have m:=uA f.2.2.2.1;have aQ:=z.nd;grind
     rw[b2 ao2];by_cases e_:f.2.2.2.2.1=2
     ·simp only[e_,bz,aO,true_or,c9];rfl
     ·by_cases dW:O=false
      ·subst dW;simp only[e_,bG,aY,fp,aO,false_or,true_or,c9];rfl
      ·have ao3:O=true:=by grind
       subst ao3;by_cases kp:tabs=true/\l.head?=some 9
       ·rw[ba (.inr (.inr kp)),decide_eq_true kp];simp only[e_,bG,aY,hU,aO];rfl
       grind
    refine bR.et ?_ (ao1 _ _);rw[Of];have r6:bR false e r (.bad c:dn Bool) (λst=>st) (λb _ _=>b=true) (some (f.1,f.2.1,f.2.2.1,f.2.2.2.1,(2:Int),(e.st c F g).2.1,f.2.2.2.2.2.2.1,f.2.2.2.2.2.2.2.1,f.2.2.2.2.2.2.2.2)):=
     ⟨_,rfl,rfl,z.s,z.lo,z.bh,z.nd,z.op⟩
    have K:=aK.oM (tabs:=tabs) (r0:=o++v) (v:=v) (F:=F) (by grind);have ao4:=UY.kk;cases hm:cR (a9 true n) c F with
    |bad q=>
     rw[hm] at i D;rw[ba (.inl i.1)];have:gm tabs v F= .bad c:=by rw[j,show dP c=none from D]
     grind[hS]
    |deep q=>
     rw[hm] at i D;rw[ba (.inl i.1)];have:gm tabs v F= .bad c:=by rw[j,show dP c=none from D]
     grind[hS]
    |ok a L G=>
     rw[hm] at i D;obtain⟨cH,av,⟨oi,m,_⟩,bQ,_⟩:=i;dsimp only at m bQ;subst m;have ao5:(e.st L G oi).2.2.2.2.2.2.1=[]:=rfl;rw[ao5,pZ];obtain⟨w,Gn,tp⟩:=D;have UZ:fC=w:=by simp_all
     subst UZ;have ao6:¬((e.st L G oi).2.2.2.2.1=2):=by show¬((0:Int)=2);decide
     rcases tp with⟨dX,A⟩|⟨d,dX,A,rfl⟩
     ·rw[A];rw[ba (.inr (.inl rfl))];grind[hS]
     ·rw[dX];rw[A] at j;simp only at j;unfold Bo;simp only;by_cases P:d.contains 10=true
      ·rw[ba P] at j;rw[ba (.inr (.inl (by grind))),hS j];grind
      ·rw[aM P] at j;by_cases FR:tabs=true/\d.head?=some 9
       ·rw[ba FR] at j;rw[ba (.inr (.inr (by grind))),hS j];grind
       ·rw[aM FR] at j;have abY:L≠[]:=by
         rintro rfl;have hex:cR (a9 true n) c G= .ok a [] G:=hm
         have:∀(bF:Nat)(r:H)(F:ag)(a:Unit)(q:H)(aE:ag),r.length<=bF->cR (a9 true n) r F= .ok a q aE->q≠[]:=by
          intro bF r F a q aE eG C;unfold cR at C;refine aaw (Q:=λq=>q≠[]) (λs r F a q aE Og=>?_) bF _ _ _ _ _ _ eG C;cases r with
          |nil=>cases Og
          |cons b t=>
           simp only at Og;split at Og
           ·grind
           ·obtain⟨_,_,_,_,ao7⟩:=bW Og;cases ao7
         grind
        rw[aM (by simp),aM abY] at j;rw[aM (by grind),aJ j,if_neg P];rw[j] at K;simp only[eu] at K;exact⟨_,rfl,cH.trans u,⟨h.b4,h.nl,h.JU,av.sfx,by omega⟩,⟨oi,rfl,λC=>absurd C abY⟩,rfl⟩
    |more op nd ds=>
     rw[hm] at i D;obtain⟨mv,S,T,Gy,V⟩:=i.z;dsimp only at mv S T Gy V;have UZ:=B6 V;rw[UZ,S];have ao6:¬(f.2.2.2.2.1=2):=by omega
     rcases D with⟨dX,A⟩|⟨d,dX,A,rfl⟩
     ·have zH:(Bo (dl (c++nd) 0)).2=false:=by
       rcases A with A|⟨d,A,jg⟩
       ·rw[A];rfl
       simp_all[Bo]
      simp_all[hS]
     ·rw[A];rw[dX] at j;simp only at j;unfold Bo;simp only;by_cases P:d.contains 10=true
      ·simp_all[hS]
      ·rw[aM P] at j;by_cases FR:tabs=true/\d.head?=some 9
       ·simp_all[hS]
       ·rw[aM FR] at j;rw[aM (by grind),if_neg P]
        have l6:∃kV,gm tabs v ds= .more kV nd (ds++[(d,tabs)]):=by grind
        obtain⟨kV,l6⟩:=l6;rw[dx l6];rw[l6] at K;simp only[eu] at K;rw[T];exact⟨_,rfl,.inl ⟨mv,rfl,rfl,⟨z.s,z.lo,z.bh,by grind,z.op⟩,V⟩⟩
   ·have E:(bif decide (o=[60,60]) then true else decide (o=[60,60,45]))=false:=by grind
    rw[E];simp only[fp,aO];simp only[B0] at aB;have B:(if o=[60,60] then gm false else if o=[60,60,45] then gm true else jP (a9 true n) [120]:ab Unit) v F=cR (a9 true n) c F:=by rw[aM aB.1,aM aB.2];unfold jP;rw[aJ (bL cF),hw]
    cases hm:cR (a9 true n) c F with
    |ok a L G=>rw[hm] at i B;rw[aJ B];obtain⟨cH,av,a3,_⟩:=i;exact⟨f,rfl,cH.trans u,av,a3,rfl⟩
    |more op nd ds=>rw[hm] at i B;rw[dx B];exact⟨f,rfl,jh.mono i u⟩
    |bad q=>rw[hm] at i B;rw[hS B];exact⟨f,rfl,js.mono i u⟩
    |deep q=>rw[hm] at i B;rw[km B];exact⟨f,rfl,js.mono i u⟩
  ·have ao8:(match ar c with| .word _ _=>false|_=>true)=true:=by grind
   rw[ao8];simp only[aO];rw[hS (aoZ _ rfl (λw p C=>hw ⟨w,p,C⟩))];obtain⟨st,bu,i⟩:=qz (al:=g) ((e.st c F g).2.1) X u;have wY:ih ((e.st c F g).1,(e.st c F g).2.1,(e.st c F g).2.2.1,(e.st r F al).2.2.2.1,(e.st c F g).2.2.2.2.1,(e.st c F g).2.2.2.2.2.1,(e.st c F g).2.2.2.2.2.2.1,(e.st r F al).2.2.2.2.2.2.2.1,(e.st c F g).2.2.2.2.2.2.2.2) (e.st c F g).2.1=some st:=bu;rw[wY,aS rfl];exact⟨_,rfl,by cases bu;exact i⟩
 ·
  rw[ek,aS rfl];have kC:g9 ((e.tt F).1,(e.tt F).2.1,(e.tt F).2.2.1,(e.st r F al).2.2.2.1,(e.tt F).2.2.2.2.1,(e.tt F).2.2.2.2.2.1,(e.tt F).2.2.2.2.2.2.1,(e.st r F al).2.2.2.2.2.2.2.1,(e.tt F).2.2.2.2.2.2.2.2)=some true:=by have:=wS e [] e.ne 0 0 F [] [] true;rw[iC] at this;exact this
  rw[kC,aS rfl];simp only[aO];have ao9:cJ e [] F:=aC.mono pt;obtain⟨aL,a2,bc⟩:=Gt (al:=true) (x:=[120]) ao9 (by simp);rw[abU] at bc;have sE:h2 ((e.tt F).1,(e.tt F).2.1,(e.tt F).2.2.1,(e.st r F al).2.2.2.1,(e.tt F).2.2.2.2.1,(e.tt F).2.2.2.2.2.1,(e.tt F).2.2.2.2.2.2.1,(e.st r F al).2.2.2.2.2.2.2.1,(e.tt F).2.2.2.2.2.2.2.2) [120]=some aL:=by rw[<-a2,<-x7];rfl
  rw[sE,aS rfl];obtain⟨mv,S,T,Gy,V⟩:=bc;dsimp only at S T;have nv:([]:H)<:+r:=pt;have dd:=Gy.mono nv;by_cases aB:o=[60,60]\/o=[60,60,45]
  ·have E:(bif decide (o=[60,60]) then true else decide (o=[60,60,45]))=true:=by grind
   rw[E];simp only[aO];have Of:(if o=[60,60] then gm false else if o=[60,60,45] then gm true else jP (a9 true n) [120]:ab Unit) v F=gm (decide (o=[60,60,45])) v F:=by grind
   have hm:gm (decide (o=[60,60,45])) v F= .more [] [120] (F++[([120],decide (o=[60,60,45]))]):=by grind[gm]
   rw[hm] at Of;rw[dx Of];have K:=aK.oM (tabs:=decide (o=[60,60,45])) (r0:=o++v) (v:=v) (F:=F) (by grind);rw[hm] at K;simp only[eu] at K;have ao4:=UY.kk;have avq:aL.2.2.2.1.length<=100000000:=by grind
   refine bR.et ?_ (b2 (by grind));rw[T];exact⟨_,rfl,.inl ⟨mv,S,rfl,⟨dd.s,dd.lo,dd.bh,by grind,dd.op⟩,V⟩⟩
  ·have E:(bif decide (o=[60,60]) then true else decide (o=[60,60,45]))=false:=by grind
   rw[E];simp only[aY];simp only[B0] at aB;have B:(if o=[60,60] then gm false else if o=[60,60,45] then gm true else jP (a9 true n) [120]:ab Unit) v F= .more [] [120] F:=by rw[aM aB.1,aM aB.2];unfold jP;grind[dx,jC,b5,abU]
   rw[dx B];exact⟨_,rfl,.inl ⟨mv,S,T,dd,V⟩⟩
end
theorem rk(e:cn)(r:H)(F:ag)(al:Bool):g9 (e.st r F al)=some (decide (r=[])):=wS e r _ _ _ _ _ _ _
theorem pS(e:cn)(F:ag):g9 (e.tt F)=some true:=by simp[x7,rk]
theorem sF(h:cJ e r F):iz (e.st r F al)=some (bt r):=JV h.b4 h.sfx _ _ _ _ _ _ _
theorem GB(h:cJ e r F):jn (e.st r F al)=some (r.headD 0):=wT h.sfx _ _ _ _ _ _ _
theorem ao_:bt []=[]:=by decide
theorem GC(F:ag)(h:e.S.length<=1000000):iz (e.tt F)=some []:=by have:=JV (e:=e) (r:=[]) h pt e.ne 0 0 F [] [] true;rw[ao_] at this;rw[x7];exact this
theorem apa(e:cn)(F:ag):jn (e.tt F)=some 0:=by rw[x7];exact wT (e:=e) (r:=[]) pt _ _ _ _ _ _ _
theorem cJ.Bz(h:cJ e r F):cJ e [] F:=h.mono pt
theorem apb(h:cJ e [] F):mA (e.tt F)=some []:=by rw[x7,wW h];rfl
theorem DK(h:cJ e [] F)(b:x.length<=100):∃a,h2 (e.tt F) x=some a/\oU e [] (b8 [] F x).1 (b8 [] F x).2 a:=by rw[x7];exact Gt h b
theorem vH(h:cJ e [] F)(b:x.length<=100):∃a,h2 (e.st [] F al) x=some a/\oU e [] (b8 [] F x).1 (b8 [] F x).2 a:=Gt h b
theorem abZ(F:ag):pJ (e.tt F)=some (e.tt F):=by
 unfold pJ;rw[DF,aS rfl];unfold a6
 obtain⟨n,af⟩:∃n,bB=n+1:=⟨bB-1,by rw[gM]⟩
 dsimp only;rw[af,fx];unfold A2;dsimp only;have a:jn ((e.tt F).1,(e.tt F).2.1,(e.tt F).2.2.1,(e.tt F).2.2.2.1,(e.tt F).2.2.2.2.1,(e.tt F).2.2.2.2.2.1,(e.tt F).2.2.2.2.2.2.1,(e.tt F).2.2.2.2.2.2.2.1,(e.tt F).2.2.2.2.2.2.2.2)=some 0:=apa e F;simp_all[gI]
theorem jh.tt(F:ag):jh true e r [] F (e.tt F):= .inr ⟨rfl,rfl,rfl⟩
theorem gJ.eta{st:aa}(h:gJ e r F st):st.1=e.S/\st.2.1=ax e.S r/\st.2.2.1=e.ne/\st.2.2.2.1=F/\st.2.2.2.2.1=0/\st.2.2.2.2.2.1=0/\st.2.2.2.2.2.2.1=[]/\st.2.2.2.2.2.2.2.1=[]:=by obtain⟨al,rfl,_⟩:=h;exact⟨rfl,rfl,rfl,rfl,rfl,rfl,rfl,rfl⟩
section
variable(hD:ll R n)(bj:e.ne=30- (n:Int))
include hD bj
theorem ab0{st:aa}(h:cJ e r F)(D:gJ e r F st):bR true e r (gH (a9 true n) r F) (λst=>st) (λ_ _ _=>True) (FK R st):=by
 have P:∀(bF:Nat)(r:H)(F:ag)(st:aa),r.length+1<bF->cJ e r F->gJ e r F st->bg r=some r->bR true e r (gH (a9 true n) r F) (λst=>st) (λ_ _ _=>True) (fixF (Db R λx=>some x) bF st):=by
  intro bF;induction bF with
  |zero=>omega
  |succ bF E=>
   intro r F st eG j Q G;rw[fx]
   obtain⟨gZ,S⟩:∃gZ,bF=gZ+1:=⟨bF-1,by omega⟩
   have w:∀x:aa,(x.2.2.2.2.1≠0\/∃ds,x=e.tt ds)->fixF (Db R λx=>some x) bF x=some x:=by
    intro x y;rw[S,fx];unfold Db;dsimp only;rcases y with y|⟨ds,rfl⟩
    ·simp only[y,bG,c1,fR,cZ,aY,and_false]
    ·rw[show g9 ((e.tt ds).1,(e.tt ds).2.1,(e.tt ds).2.2.1,(e.tt ds).2.2.2.1,(e.tt ds).2.2.2.2.1,(e.tt ds).2.2.2.2.2.1,(e.tt ds).2.2.2.2.2.2.1,(e.tt ds).2.2.2.2.2.2.2.1,(e.tt ds).2.2.2.2.2.2.2.2)=some true from pS e ds];rfl
   generalize u6:fixF (Db R λx=>some x) bF=k at E w;obtain⟨al,rfl,I⟩:=Q;unfold Db a6;dsimp only;have T:g9 ((e.st r F al).1,(e.st r F al).2.1,(e.st r F al).2.2.1,(e.st r F al).2.2.2.1,(e.st r F al).2.2.2.2.1,(e.st r F al).2.2.2.2.2.1,(e.st r F al).2.2.2.2.2.2.1,(e.st r F al).2.2.2.2.2.2.2.1,(e.st r F al).2.2.2.2.2.2.2.2)=some (decide (r=[])):=rk e r F al;have V:iz ((e.st r F al).1,(e.st r F al).2.1,(e.st r F al).2.2.1,(e.st r F al).2.2.2.1,(e.st r F al).2.2.2.2.1,(e.st r F al).2.2.2.2.2.1,(e.st r F al).2.2.2.2.2.2.1,(e.st r F al).2.2.2.2.2.2.2.1,(e.st r F al).2.2.2.2.2.2.2.2)=some (bt r):=sF j;have z:CZ ((e.st r F al).1,(e.st r F al).2.1,(e.st r F al).2.2.1,(e.st r F al).2.2.2.1,(e.st r F al).2.2.2.2.1,(e.st r F al).2.2.2.2.2.1,(e.st r F al).2.2.2.2.2.2.1,(e.st r F al).2.2.2.2.2.2.2.1,(e.st r F al).2.2.2.2.2.2.2.2)=some (decide (r.dropWhile cd≠r)&&fm (bt (r.dropWhile cd))):=UK j;have h0:(e.st r F al).2.2.2.2.1=0:=rfl;rw[T,gI,V,gI,Gr,gI,z,gI,h0];simp only[bz,c9];by_cases Z:r=[]
   ·subst Z;have g:gH (a9 true n) [] F= .ok () [] F:=by unfold gH;rw[cL,aJ (ti (r':=[]) mj (by decide))];rfl
    rw[g];simp only[bz,hU,aY,aO];exact⟨_,rfl,gr,j,⟨al,rfl,I⟩,trivial⟩
   ·have W:(bif(bif true then !decide (r=[]) else false) then bif(if(bif true then !decide (r=[]) else false)=true then fm (if(bif true then !decide (r=[]) else false)=true then bt r else []) else false) then true else(if((if(bif true then !decide (r=[]) else false)=true then fm (if(bif true then !decide (r=[]) else false)=true then bt r else []) else false)=false/\(bif true then !decide (r=[]) else false)=true) then(decide (r.dropWhile cd≠r)&&fm (bt (r.dropWhile cd))) else false) else false)=fm (bt (r.dropWhile cd)):=by
     conv=>rhs;rw[<-N7 r]
     grind
    refine bR.et ?_ (show(bif(bif(bif true then !decide (r=[]) else false) then bif(if(bif true then !decide (r=[]) else false)=true then fm (if(bif true then !decide (r=[]) else false)=true then bt r else []) else false) then true else(if((if(bif true then !decide (r=[]) else false)=true then fm (if(bif true then !decide (r=[]) else false)=true then bt r else []) else false)=false/\(bif true then !decide (r=[]) else false)=true) then(decide (r.dropWhile cd≠r)&&fm (bt (r.dropWhile cd))) else false) else false) then _ else _)=_ from by rw[W]);cases J:fm (bt (r.dropWhile cd)) with
    |false=>
     have g:gH (a9 true n) r F= .ok () r F:=by unfold gH;rw[cL,aJ (ti G J)];rfl
     rw[g];exact⟨_,rfl,gr,j,⟨al,rfl,I⟩,trivial⟩
    |true=>
     simp only[aO];unfold gH;rw[cL];refine bR.je dg.k (UX hD bj (al:=al) j G J) (λb an c d X s1 Y K r2=>?_) (λop nd ds d _ L=>?_) (λd u=>?_)
     ·subst r2;have aw:=tc (mO true n) X;have l:=K.eta;rw[l.2.2.2.2.1];simp only[bz,aO];show bR true e r (dc _ r (.ok (.inl ()) an c)) _ _ _;refine bR.inl aw ?_;rcases x8 Y K with⟨f,a,o,i,p,v,s,A⟩|⟨o,i⟩
      ·rw[i,aS rfl];have U:=p.eta;rw[l.2.2.2.1,l.2.2.2.2.2.2.2];have B:a=(a.1,a.2.1,a.2.2.1,c,a.2.2.2.2.1,a.2.2.2.2.2.1,a.2.2.2.2.2.2.1,([]:bs),a.2.2.2.2.2.2.2.2):=by grind
       rw[<-B];have g:gH (a9 true n) an c=gH (a9 true n) f c:=by
        unfold gH;rw[cL,cL];have GD:dM (a9 true n) an c=dM (a9 true n) f c:=by unfold dM;grind[fI,N]
        have C:N (dM (a9 true n)) (λb=>(aU (if b=true then .inl () else .inr ()):ab (Unit⊕Unit))) an c=N (dM (a9 true n)) (λb=>aU (if b=true then .inl () else .inr ())) f c:=by grind[N]
        rw[C];cases hm:dM (a9 true n) f c with
        |ok b t b9=>
         rw[aJ hm];cases b with
         |true=>have pT:=tc (mO true n) hm;have oh:=s.length_le;show(if t.length<an.length then _ else _)=(if t.length<f.length then _ else _);grind
         |false=>rfl
        |more op nd ds=>rw[dx hm];rfl
        |bad q=>rw[hS hm];rfl
        |deep q=>rw[km hm];rfl
       have:=(E f c a (by grind) v p A).mono (s.trans s1);unfold gH at g this;grind
      ·rw[i,aS rfl,l.2.2.2.1,l.2.2.2.2.2.2.2];have g:cD (λ_=>N (dM (a9 true n)) λb=>aU (if b=true then .inl () else .inr ())) () an c=(.more [] [] c:dn Unit):=by
        rw[cL];have:dM (a9 true n) an c= .more [] [] c:=by unfold dM;exact dx (by unfold fI;rw[o];rfl)
        rw[dx this];rfl
       rw[g];exact⟨e.tt c,w (e.tt c) (.inr ⟨c,rfl⟩),jh.tt c⟩
     ·have M:=L.z.1;refine⟨d,?_,L.up⟩;grind
     ·refine⟨d,?_,u⟩;rw[u.1];simp only[show¬((2:Int)=0) by decide,bG,aY];have:=w d (.inl (by rw[u.1];decide));have aoq:d=(d.1,d.2.1,d.2.2.1,d.2.2.2.1,2,d.2.2.2.2.2.1,d.2.2.2.2.2.2.1,d.2.2.2.2.2.2.2.1,d.2.2.2.2.2.2.2.2):=by rw[<-u.1]
      grind
 unfold FK a6;have O:=D.eta;rw[O.2.2.2.1,O.2.2.2.2.2.2.2];rcases x8 h D with⟨f,a,o,i,p,v,s,A⟩|⟨o,i⟩
 ·rw[i,aS rfl];have B:a=(a.1,a.2.1,a.2.2.1,F,a.2.2.2.2.1,a.2.2.2.2.2.1,a.2.2.2.2.2.2.1,([]:bs),a.2.2.2.2.2.2.2.2):=by obtain⟨cG,rfl,_⟩:=p;rfl
  rw[<-B];have:=(P bB f F a (wV v) v p A).mono s;have g:gH (a9 true n) r F=gH (a9 true n) f F:=by
   unfold gH;rw[cL,cL];have GD:dM (a9 true n) r F=dM (a9 true n) f F:=by unfold dM;grind[fI,N]
   have C:N (dM (a9 true n)) (λb=>(aU (if b=true then .inl () else .inr ()):ab (Unit⊕Unit))) r F=N (dM (a9 true n)) (λb=>aU (if b=true then .inl () else .inr ())) f F:=by grind[N]
   rw[C];cases hm:dM (a9 true n) f F with
   |ok b t b9=>
    rw[aJ hm];cases b with
    |true=>have pT:=tc (mO true n) hm;have oh:=s.length_le;show(if t.length<r.length then _ else _)=(if t.length<f.length then _ else _);grind
    |false=>rfl
   |more op nd ds=>rw[dx hm];rfl
   |bad q=>rw[hS hm];rfl
   |deep q=>rw[km hm];rfl
  grind
 ·rw[i,aS rfl];have g:gH (a9 true n) r F= .more [] [] F:=by
   unfold gH;rw[cL];have:dM (a9 true n) r F= .more [] [] F:=by unfold dM;exact dx (by unfold fI;rw[o];rfl)
   rw[dx this];rfl
  rw[g];refine⟨e.tt F,?_,jh.tt F⟩
  obtain⟨m,hm⟩:∃m,bB=m+1:=⟨bB-1,by rw[gM]⟩
  dsimp only;rw[hm,fx];unfold Db;dsimp only;rw[show g9 ((e.tt F).1,(e.tt F).2.1,(e.tt F).2.2.1,F,(e.tt F).2.2.2.2.1,(e.tt F).2.2.2.2.2.1,(e.tt F).2.2.2.2.2.2.1,[],(e.tt F).2.2.2.2.2.2.2.2)=some true from pS e F];rfl
end
def tq:ab H:=λr F=> .ok (jG r) (r.drop (jG r).length) F
theorem apd(r:H):jG r<+:r:=by grind[jG]
theorem U0(h:jG r≠[]):r.drop (jG r).length≠[]:=by
 unfold jG at h⊢;split
 ·grind[List.takeWhile_append_dropWhile]
 grind
theorem GF{v:H}{w:H}(Y:bg v=some v)(a:ar v= .word w true):cI w v F= .ok () (v.drop w.length) F:=by unfold cI mL;rw[aJ (bL Y),a];simp[cm,bV]
theorem Oh{β:Type}{kw:H}{K:ab β}(aq:c≠ .text)(g:∀t,dC c t=cm t kw)(d:kw≠[]/\kw.all gW=true)(h:cx r):
  N (((aW true m).ls c no).aG x) (λ_=>N (cI kw) (λ_=>K)) r F=N (N (((aW true m).ls c no).aG x) (λ_=>tq)) (λ_=>K) r F:=by
 rw[lg];cases hm:(((aW true m).ls c no).aG x) r F with
 |ok a an e=>
  rw[aJ hm,aJ hm];have b:=hn.1 hm;have Y:=((rW true m).ls c no).sfx b;obtain⟨cX,eW⟩:=Bt true m;rw[eW] at b;obtain⟨i,j⟩:=x1 aq b;rw[g] at j;have f:ar an= .word kw true:=by grind[cm]
  have ah:=(sD (h.iT Y) d.1 d.2).2 f;rw[aJ (GF i f)];have:tq an e= .ok kw (an.drop kw.length) e:=by grind[tq]
  grind[aJ]
 |more op nd ds=>grind[dx]
 |bad q=>grind[hS]
 |deep q=>grind[km]
theorem U1{kw:H}(aq:c≠ .text)(a:∀t,dC c t=cm t kw)(b:kw≠[]/\kw.all gW=true)(d:cx r):
  N (((aW true m).ls c no).aG x) (λ_=>cI kw) r F=N (N (((aW true m).ls c no).aG x) (λ_=>tq)) (λ_=>aU ()) r F:=by
 have M:(λ_:Nat=>cI kw)=λ_=>N (cI kw) (λ_=>aU ()):=by grind[Ge]
 simp_all[Oh]
section
variable(bm:ph R n)(bj:e.ne=30- (n:Int))
include bm bj
theorem DL(aq:j1 c=[119])(u:c≠ .text)(v:∀t,dC c t=true->∃w,t= .word w true/\w≠[]/\w.all gW=true)(P:x.length<=100){st:aa}(h:cJ e r F)(y:gJ e r F st):
  bR false e r (N (((aW true n).ls c false).aG x) (λ_=>tq) r F) (λb=>b.2) (λa r' b=>b.1=a/\a≠[]/\dC c (.word a true)=true/\r'≠[]) (q2 R st (pR c) x):=by
 unfold q2;obtain⟨⟨z,A⟩,j,d⟩:=bm.im e c false (by cases c<;>first|rfl|grind[j1]) bj r F st h y;dsimp only at d;rw[aq] at j;have B:R.oA st [119] (pR c) true=some (z,A):=j;rw[B,aS rfl];dsimp only;have k:=(tk true n).ls c false r F;have C:=h.nl.iT h.sfx;cases hm:(aW true n).ls c false r F with
 |ok a an g=>
  rw[hm] at d;obtain⟨l,av,a3,_⟩:=d;have f:(((aW true n).ls c false).aG x) r F= .ok a an g:=hn.2 hm;rw[aJ f];obtain⟨cX,eW⟩:=Bt true n;rw[eW] at hm;obtain⟨Q,D⟩:=x1 u hm;obtain⟨w,E,m,G⟩:=v _ D;have ah:=(sD (C.iT l) m G).2 E;have h0:=a3.eta.2.2.2.2.1;rw[h0];simp only[bz,hU,aY];obtain⟨al,I,_⟩:=a3;rw[I,wW av,aS rfl,ah];have J:tq an g= .ok w (an.drop w.length) g:=by grind[tq]
  rw[J];have o:=apd an;rw[ah] at o;have i:=U0 (r:=an) (by grind);rw[ah] at i;obtain⟨q,rfl⟩:=o;rw[pq] at i⊢;have p:q<:+w++q:=gq w q;have K:W (ax e.S (w++q)+(w.length:Int))=ax e.S q:=kY (iV h.b4) av.sfx;refine⟨(w,e.st q g al),?_,p.trans l,av.mono p,⟨al,rfl,λL=>absurd L i⟩,rfl,m,?_,i⟩
  ·show some (w,(e.S,W (ax e.S (w++q)+(w.length:Int)),e.ne,g,(0:Int),(0:Int),([]:H),([]:bs),al))=_;rw[K];rfl
  grind
 |more op nd ds=>
  rw[hm] at d k;simp only[eu] at k;have S:=h.kk;have s:=d.z;have f:(((aW true n).ls c false).aG x) r F= .more op (b8 nd ds x).1 (b8 nd ds x).2:=by grind[ab.aG]
  rw[dx f,s.1];simp only[show¬((1:Int)=0) by decide,bG,fp,aO];obtain⟨T,M,O⟩:=x9 (e:=e) (nm:=[]) (x:=x) (an:=r) (r0:=r) (nd:=nd) (ds:=ds) s gr h.sfx (.inl rfl) (by omega) h.b4 (by omega);rw[M,aS rfl];exact⟨_,rfl,O.s⟩
 |bad q=>
  rw[hm] at d;have f:(((aW true n).ls c false).aG x) r F= .bad q:=by grind[ab.aG]
  rw[hS f,d.1];simp only[show¬((2:Int)=0) by decide,bG,fp,aO];rw[qx (by rw[d.1];decide),aS rfl];exact⟨_,rfl,d⟩
 |deep q=>
  rw[hm] at d;have f:(((aW true n).ls c false).aG x) r F= .deep q:=by grind[ab.aG]
  rw[km f,d.1];simp only[show¬((2:Int)=0) by decide,bG,fp,aO];rw[qx (by rw[d.1];decide),aS rfl];exact⟨_,rfl,d⟩
end
theorem ab1(t:Tok):dC .rT t=cm t hQ:=rfl
theorem ab2(t:Tok):dC .pK t=cm t [125]:=rfl
theorem ab3(t:Tok):dC .ko t=cm t ea:=rfl
theorem ab4(t:Tok):dC .pa t=cm t gd:=rfl
theorem Oi(t:Tok):dC .done t=cm t hc:=rfl
theorem GH{t:Tok}{w:H}(h:cm t w=true):t= .word w true:=by grind[cm]
theorem GI{kw:H}(h:∀t,dC c t=cm t kw)(a:kw≠[]/\kw.all gW=true):∀t,dC c t=true->∃w,t= .word w true/\w≠[]/\w.all gW=true:=by grind[GH]
theorem J4:(b=10/\ar (b::t)= .line)\/(b≠10/\bt (b::t)≠[]/\ar (b::t)= .op (bt (b::t)))\/(b≠10/\bt (b::t)=[]/\ar (b::t)= .word (di (b::t)).1 (di (b::t)).2):=by rw[x_];grind
section
variable(hD:ll R n)(bj:e.ne=30- (n:Int))
include hD bj
theorem ape{st:aa}(h:cJ e r F)(N:gJ e r F st):bR false e r (oL (a9 true n) r F) (λst=>st) (λ_ _ _=>True) (I2 R st):=by
 unfold oL I2 a6;refine bR.rep (en:=λ_ r F x=>gJ e r F x) (λk s r F x y z O az=>?_) bB () r F _ (wV h) h N
 have G:∀x:aa,x.2.2.2.2.1≠0->k x=some x:=by intro x z;obtain⟨k',M⟩:=O x;simp_all[SN]
 have he:=z.eta;unfold SN;dsimp only;rw[he.2.2.2.2.1,he.2.2.2.1,he.2.2.2.2.2.2.2];simp only[bz,aO];have A:(x.1,x.2.1,x.2.2.1,F,(0:Int),x.2.2.2.2.2.1,x.2.2.2.2.2.2.1,([]:bs),x.2.2.2.2.2.2.2.2)=x:=by grind
 rw[A];rcases x8 y z with⟨d,eX,B,C,P,f,l,Q⟩|⟨B,C⟩
 ·rw[C,aS rfl,aJ (bL B)];obtain⟨c,rfl,S⟩:=P;have D:g9 ((e.st d F c).1,(e.st d F c).2.1,(e.st d F c).2.2.1,F,(e.st d F c).2.2.2.2.1,(e.st d F c).2.2.2.2.2.1,(e.st d F c).2.2.2.2.2.2.1,[],(e.st d F c).2.2.2.2.2.2.2.2)=some (decide (d=[])):=rk e d F c;have T:jn ((e.st d F c).1,(e.st d F c).2.1,(e.st d F c).2.2.1,F,(e.st d F c).2.2.2.2.1,(e.st d F c).2.2.2.2.2.1,(e.st d F c).2.2.2.2.2.2.1,[],(e.st d F c).2.2.2.2.2.2.2.2)=some (d.headD 0):=GB f;have U:iz ((e.st d F c).1,(e.st d F c).2.1,(e.st d F c).2.2.1,F,(e.st d F c).2.2.2.2.1,(e.st d F c).2.2.2.2.2.1,(e.st d F c).2.2.2.2.2.2.1,[],(e.st d F c).2.2.2.2.2.2.2.2)=some (bt d):=sF f;rw[D,aS rfl];cases d with
  |nil=>simp only[bz,aO];obtain⟨g,j,m⟩:=vH (al:=c) (x:=[]) f (by simp);have o:h2 ((e.st [] F c).1,(e.st [] F c).2.1,(e.st [] F c).2.2.1,F,(e.st [] F c).2.2.2.2.1,(e.st [] F c).2.2.2.2.2.1,(e.st [] F c).2.2.2.2.2.2.1,[],(e.st [] F c).2.2.2.2.2.2.2.2) []=some g:=j;rw[o,aS rfl];exact⟨g,rfl,(m.mono l).s⟩
  |cons b t=>
   simp only[reduceCtorEq,bG,aY];rw[T,aS rfl,U];simp only[Aa,qu,oV];rcases J4 (b:=b) (t:=t) with⟨p,u⟩|⟨p,u,w⟩|⟨p,u,w⟩
   ·subst p;rw[u];simp only[bz,aO];exact⟨_,rfl,l,f,⟨c,rfl,S⟩,trivial⟩
   ·rw[w];simp only[p,bG,aY];by_cases I:bt (b::t)=[59]
    ·simp only[I,bz,aO,c9];have V:ar (b::t)= .op [59]:=by grind
     obtain⟨q,aH⟩:=(ib V).2.1;have E:b=59/\t=q:=by grind
     obtain⟨rfl,rfl⟩:=E;have J:t<:+59::t:=eL 59 t;have X:W (ax e.S (59::t)+1)=ax e.S t:=iW (iV y.b4) f.sfx;refine⟨e.st t F c,?_,J.trans l,f.mono J,⟨c,rfl,λY=>absurd Y (f.zN (by decide))⟩,trivial⟩;show some (e.S,W (ax e.S (59::t)+1),e.ne,F,(0:Int),(0:Int),([]:H),([]:bs),c)=_;rw[X];rfl
    ·simp only[I,u,bG,fp,aO,aY,cZ];obtain⟨g,j,m⟩:=qz (al:=c) ((e.st (b::t) F c).2.1) f l;have o:ih ((e.st (b::t) F c).1,(e.st (b::t) F c).2.1,(e.st (b::t) F c).2.2.1,F,(e.st (b::t) F c).2.2.2.2.1,(e.st (b::t) F c).2.2.2.2.2.1,(e.st (b::t) F c).2.2.2.2.2.2.1,[],(e.st (b::t) F c).2.2.2.2.2.2.2.2) (e.st (b::t) F c).2.1=some g:=j;rw[o,aS rfl];exact⟨_,rfl,by cases j;exact m⟩
   ·rw[w];simp only[p,u,bG,bz,hU,aY,reduceCtorEq];have Z:=Gz hD bj (tr0:=c) f;have hF:cV (b::t)=false:=(zJ Q w).2;refine bR.je dg.k (Z.mono l) (λa K b9 i bO jf fi zS _=>?_) (λop nd ds i _ v=>?_) (λi v=>?_)
    ·have aw:=wJ (mO true n) (by simp) hF bO;have L:K.length<r.length:=by grind
     exact bR.inl L (az () K b9 i.2.2 jf fi L zS)
    ·exact⟨i.2.2,G i.2.2 (by rw[v.z.1];decide),v⟩
    ·exact⟨i.2.2,G i.2.2 (by rw[v.1];decide),v⟩
 ·rw[C,aS rfl,dx (op:=[]) (nd:=[]) (ds:=F) (by rw[jC B];rfl)];have D:g9 ((e.tt F).1,(e.tt F).2.1,(e.tt F).2.2.1,F,(e.tt F).2.2.2.2.1,(e.tt F).2.2.2.2.2.1,(e.tt F).2.2.2.2.2.2.1,[],(e.tt F).2.2.2.2.2.2.2.2)=some true:=pS e F;rw[D,aS rfl];simp only[aO];obtain⟨g,j,m⟩:=DK (x:=[]) y.Bz (by simp);have o:h2 ((e.tt F).1,(e.tt F).2.1,(e.tt F).2.2.1,F,(e.tt F).2.2.2.2.1,(e.tt F).2.2.2.2.2.1,(e.tt F).2.2.2.2.2.2.1,[],(e.tt F).2.2.2.2.2.2.2.2) []=some g:=j;rw[o,aS rfl];exact⟨g,rfl,(m.mono pt).s⟩
end
theorem J5{β:Type}(a:ab α)(k:α->ab β)(x:H):(N a k).aG x=N (a.aG x) (λv=>(k v).aG x):=by grind[ab.aG,N]
theorem ab5{p:Prop}[Decidable p](a b:ab α)(x:H):(if p then a else b).aG x=if p then a.aG x else b.aG x:=by grind
theorem U2(a:α)(x:H):(aU a).aG x=aU a:=rfl
theorem ab6(k:Nat)(x:H):(bV k).aG x=bV k:=rfl
theorem J6{β:Type}(a:α)(k:α->ab β):N (aU a) k=k a:=rfl
theorem ab7{D:ab Unit}:∀(r w:H)(F:ag),di r=(w,true)->r.drop w.length≠[]->cR D r F= .ok () (r.drop w.length) F
 |[],w,F,h,af=>by simp[di] at h;subst h;exact absurd rfl af
 |b::t,w,F,h,af=>by
  by_cases c:cV (b::t)=true
  ·have:w=[]:=by unfold di at h;rw[ba c] at h;cases h;rfl
   subst this;unfold cR;rw[cL];simp[c,dc]
  ·have d:cV (b::t)=false:=by simpa using c
   have a:¬(b=92\/b=39\/b=34\/b=96\/fD (b::t)=true):=by intro Y;rw[UT d Y] at h;cases h
   have h0:di (b::t)=(match di t with|(w,true)=>(b::w,true)|(_,false)=>([],false)):=by
    rw[di,d,aM (by simp),aM a];cases di t with
    |mk w p=>cases p<;>rfl
   rw[h0] at h;cases ah:di t with
   |mk e p=>
    rw[ah] at h;cases p with
    |false=>cases h
    |true=>
     simp only at h;cases h;simp only[nB,KJ] at af⊢;simp only[B0,Bool.not_eq_true] at a;have f:cC D (some (eP D)) (b::t) F= .ok () t F:=by unfold cC;simp only;rw[aM a.1,aM a.2.2.2.1,a.2.2.2.2,aM (by simp)];simp[a.2.1,a.2.2.1]
     rw[Dt d f (by simp)];exact ab7 t e F ah af
noncomputable def BB(R:bl):aa->Option aa:=λx=>
 (bif(!(decide (x.2.2.2.2.1=0))) then(ay (g_ x ([]) ([10,100,111,32,120,10,100,111,110,101]:H)) λ(a:aa)=>some a) else(ay (q2 R (x.1,(W (x.2.1+2)),x.2.2.1,x.2.2.2.1,x.2.2.2.2.1,x.2.2.2.2.2.1,x.2.2.2.2.2.2.1,x.2.2.2.2.2.2.2.1,x.2.2.2.2.2.2.2.2) ([([100,111,110,101]:H)]:bs) ([10,100,111,110,101]:H)) λ(c,b)=>some b))
noncomputable def BC(R:bl):aa->Option aa:=λa=>
 (c1 ((decide (a.2.2.2.2.1=0))=true) (g9 a) false λ(c:Bool)=>(c1 ((bif(decide (a.2.2.2.2.1=0)) then(!c) else false)=true) (mA a) [] λ(d:H)=>(bif(bif(bif(decide (a.2.2.2.2.1=0)) then(!c) else false) then(!(decide (d=([100,111]:H)))) else false) then(ay (ih a a.2.1) λ(b:aa)=>some (b.1,b.2.1,b.2.2.1,a.2.2.2.1,b.2.2.2.2.1,b.2.2.2.2.2.1,b.2.2.2.2.2.2.1,a.2.2.2.2.2.2.2.1,b.2.2.2.2.2.2.2.2)) else(c1 ((decide (a.2.2.2.2.1=0))=true) (g9 a) false λ(e:Bool)=>(bif(bif(decide (a.2.2.2.2.1=0)) then e else false) then(ay (h2 a ([])) λ(f:aa)=>BB R f) else BB R a)))))
noncomputable def yg(R:bl):aa->Option aa:=λx=>
 (bif(!(decide (x.2.2.2.2.1=0))) then(ay (g_ x ([]) ([10,100,111,32,120,10,100,111,110,101]:H)) λ(a:aa)=>some a) else(ay (pJ x) λ(b:aa)=>BC R b))
theorem Ok:([10,100,111,32,120,10,100,111,110,101]:H)=dY:=rfl
theorem wZ:(gd:H)≠[]/\gd.all gW=true:=by decide
theorem GJ:(hc:H)≠[]/\hc.all gW=true:=by decide
theorem BD:(eb:H)≠[]/\eb.all gW=true:=by decide
section
variable(bm:ph R n)(bj:e.ne=30- (n:Int))
theorem ab8{nd:H}{st:aa}{d:ag}(h0:cJ e r d)(hm:jh true e r nd ds st)(f:nd.length+eA ds<=100*e.S.length+500):∃a,BC R st=some a/\jh false e r (b8 nd ds dY).1 (b8 nd ds dY).2 a:=by
 have j:dY.length=10:=rfl;rcases hm with M|⟨_,rfl,rfl⟩
 ·obtain⟨a,b,c⟩:=x9 (e:=e) (nm:=[]) (x:=dY) (an:=r) (r0:=r) (nd:=nd) (ds:=ds) M gr h0.sfx (.inl rfl) (by omega) h0.b4 (by omega);unfold BC;rw[M.1];simp only[show¬((1:Int)=0) by decide,bG,c1,fR,cZ,aY];unfold BB;rw[M.1];simp only[show¬((1:Int)=0) by decide,bG,fp,aO];rw[Ok,b,aS rfl];exact⟨a,rfl,c.s⟩
 ·simp only[Hl,Nat.zero_add] at f;have g:(e.tt ds).2.2.2.2.1=0:=rfl;unfold BC;rw[g,pS,gI];have k:=uA ds;have h:h2 (e.tt ds) []=some (e.S,(e.S.length:Int),e.ne,ds,1,0,[],[],true):=by unfold h2 a6 cn.tt;simp only[bz,aO];have:=h0.b4;rw[DG _ _ _ _ _ _ _ _ _ _ (by simp) (by grind) (by omega),aS rfl];rfl
  have i:oU e r [] ds (e.S,(e.S.length:Int),e.ne,ds,1,0,[],[],true):=by
   refine⟨rfl,rfl,rfl,⟨rfl,?_,?_,?_,?_⟩,?_⟩
   ·grind[ax]
   ·grind
   ·grind
   ·simp
   simp
  simp only[bz,c9,hU,aO,aY,c1,fR,cZ,oV];rw[h,aS rfl];obtain⟨a,b,c⟩:=x9 (e:=e) (nm:=[]) (x:=dY) (an:=r) (r0:=r) (nd:=[]) (ds:=ds) i gr h0.sfx (.inl rfl) (by grind) h0.b4 (by omega);unfold BB;simp only[show¬((1:Int)=0) by decide,bG,fp,aO];rw[Ok,b,aS rfl];exact⟨a,rfl,c.s⟩
theorem U3{nd:H}{st:aa}{b:ag}(h0:cJ e r b)(hm:jh true e r nd ds st)(c:nd.length+eA ds<=100*e.S.length+500):∃a,yg R st=some a/\jh false e r (b8 nd ds dY).1 (b8 nd ds dY).2 a:=by
 have i:dY.length=10:=rfl;rcases hm with M|⟨d,rfl,rfl⟩
 ·obtain⟨a,f,g⟩:=x9 (e:=e) (nm:=[]) (x:=dY) (an:=r) (r0:=r) (nd:=nd) (ds:=ds) M gr h0.sfx (.inl rfl) (by omega) h0.b4 (by omega);unfold yg;rw[M.1,Ok];simp only[show¬((1:Int)=0) by decide,bG,fp,aO];rw[f,aS rfl];exact⟨a,rfl,g.s⟩
 ·have h:(e.tt ds).2.2.2.2.1=0:=rfl;unfold yg;rw[h];simp only[bz,hU,aY];rw[abZ,aS rfl];exact ab8 h0 (.inr ⟨d,rfl,rfl⟩) c
theorem ab9{st:aa}(hm:js e r st):∃a,BC R st=some a/\js e r a:=by unfold BC;rw[hm.1];simp only[show¬((2:Int)=0) by decide,bG,c1,fR,cZ,aY];unfold BB;rw[hm.1];simp only[show¬((2:Int)=0) by decide,bG,fp,aO];rw[qx (by rw[hm.1];decide),aS rfl];grind
theorem U4{st:aa}(hm:js e r st):∃a,yg R st=some a/\js e r a:=by unfold yg;rw[hm.1];simp only[show¬((2:Int)=0) by decide,bG,fp,aO];rw[qx (by rw[hm.1];decide),aS rfl];grind
include bm bj
theorem apg(h:cJ e r F)(h0:r<:+r0)(Y:bg r=some r)(d:ar r= .word gd true):bR false e r0 (h3 (aW true n) dY r F) (λst=>st) (λ_ _ _=>True) (BB R (e.st r F al)):=by
 unfold h3 BB;have i:(e.st r F al).2.2.2.2.1=0:=rfl;rw[i];simp only[bz,hU,aY];rw[aJ (hn.2 (GF Y d))];obtain⟨q,rfl⟩:=(q8 d).1;rw[pq];have f:q<:+gd++q:=gq gd q;have j:W (ax e.S (gd++q)+2)=ax e.S q:=kY (w:=gd) (iV h.b4) h.sfx;have k:q≠[]:=by have:=U0 (r:=gd++q);rw[(sD (h.nl.iT h.sfx) wZ.1 wZ.2).2 d] at this;grind[wZ]
 have g:=h.mono f;have l:((e.st (gd++q) F al).1,W ((e.st (gd++q) F al).2.1+2),(e.st (gd++q) F al).2.2.1,(e.st (gd++q) F al).2.2.2.1,(0:Int),(e.st (gd++q) F al).2.2.2.2.2.1,(e.st (gd++q) F al).2.2.2.2.2.2.1,(e.st (gd++q) F al).2.2.2.2.2.2.2.1,(e.st (gd++q) F al).2.2.2.2.2.2.2.2)=e.st q F al:=by show(e.S,W (ax e.S (gd++q)+2),e.ne,F,(0:Int),(0:Int),([]:H),([]:bs),al)=_;rw[j];rfl
 rw[l,U1 (by simp) Oi GJ (h.nl.iT g.sfx)];refine bR.je (C:=λx=>x) dg.id ((DL bm bj (c:= .done) rfl (by simp) (GI Oi GJ) (by decide) g ⟨al,rfl,λm=>absurd m k⟩).mono (f.trans h0)) (λa an s b t s1 o p _=>?_) (λop nd ds b _ u=>?_) (λb v=>?_)
 ·exact⟨b.2,rfl,s1,o,p,trivial⟩
 ·grind
 grind
theorem aph{st:aa}(h:cJ e r F)(g:gJ e r F st)(h0:r<:+r0)(i:r0<:+e.S)(Y:bg r=some r):bR false e r0 (h3 (aW true n) dY r F) (λst=>st) (λ_ _ _=>True) (BC R st):=by
 obtain⟨al,rfl,q⟩:=g;unfold BC;have j:(e.st r F al).2.2.2.2.1=0:=rfl;rw[j,rk,gI,wW h,gI];by_cases Z:r=[]
 ·subst Z;simp only[bz,c9,hU,aO,aY,c1,fR,cZ,oV];obtain⟨k,a,b⟩:=vH (al:=al) (x:=[]) h (by simp);rw[a,aS rfl];have c:h3 (aW true n) dY [] F= .more [] (b8 [] F dY).1 (b8 [] F dY).2:=by unfold h3;refine dx ?_;unfold ab.aG cI mL;rw[aJ (bL mj)];rfl
  rw[c];have s:=uA F;have ah:=h.kk;simp only[Hl] at ah;obtain⟨l,m,o⟩:=x9 (e:=e) (nm:=[]) (x:=dY) (an:=[]) (r0:=r0) (nd:=[]) (ds:=F) b h0 i (.inl rfl) (by simp only[Hl];have:dY.length=10:=rfl;omega) h.b4 (by decide);unfold BB;rw[b.1];simp only[show¬((1:Int)=0) by decide,bG,fp,aO];rw[Ok,m,aS rfl];exact⟨l,rfl,o.s⟩
 ·simp only[Z,bG,bz,fp,aO,c9];have f:=h.nl.iT h.sfx;by_cases aB:jG r=[100,111]
  ·have p:=(sD f wZ.1 wZ.2).1 aB;simp only[aB,bz,hU,aY];simp_all[gI,apg]
  ·simp only[aB,bG,fp,aO];have p:ar r≠ .word gd true:=λd=>aB ((sD f wZ.1 wZ.2).2 d);have c:h3 (aW true n) dY r F= .bad r:=by unfold h3;refine hS ?_;unfold ab.aG cI mL;rw[aJ (bL Y)];have M:ar r≠ .eof:=λd=>Z (jd.1 d);rw[aM M,aM (by grind[GH])];rfl
   rw[c];obtain⟨k,a,b⟩:=qz (al:=al) ((e.st r F al).2.1) h h0;rw[a,aS rfl];exact⟨_,rfl,by cases a;exact b⟩
theorem U5{st:aa}(h:cJ e r F)(j:gJ e r F st)(h0:r<:+r0)(o:r0<:+e.S):bR false e r0 (N (cQ.aG dY) (λ_=>h3 (aW true n) dY) r F) (λst=>st) (λ_ _ _=>True) (yg R st):=by
 unfold yg;rw[j.eta.2.2.2.2.1];simp only[bz,hU,aY];have l:=Gu h j;obtain⟨p,m,b⟩:=l;rw[m,aS rfl];have k:=aK.lines (c:=0) r F;have ah:=h.kk;cases hm:cQ r F with
 |ok a an s=>grind[aJ,hn,aph]
 |more op nd ds=>
  rw[hm] at b k;simp only[eu] at k;have d:(cQ.aG dY) r F= .more op (b8 nd ds dY).1 (b8 nd ds dY).2:=by grind[ab.aG]
  rw[dx d];obtain⟨f,g,i⟩:=ab8 (R:=R) h b (by omega);exact⟨f,g,jh.mono i h0⟩
 |bad q=>
  rw[hm] at b;have d:(cQ.aG dY) r F= .bad q:=by grind[ab.aG]
  rw[hS d];obtain⟨f,g,i⟩:=ab9 (R:=R) b;exact⟨f,g,i.mono h0⟩
 |deep q=>
  rw[hm] at b;have d:(cQ.aG dY) r F= .deep q:=by grind[ab.aG]
  rw[km d];obtain⟨f,g,i⟩:=ab9 (R:=R) b;exact⟨f,g,i.mono h0⟩
end
theorem api(l:dD)(D:ab Unit):pM l D=N (bN tb) (λt=>match t with
  | .eof=>b5 tb
  | .word w true=>if l3 w then N (bV w.length) λ_=>N ((bN []).aG dY) λt=>if t= .op [59] then N (bV 1) λ_=>N (cQ.aG dY) λ_=>h3 l dY else
    N (cQ.aG dY) λ_=>N ((bN []).aG dY) λt=>if cm t eb then N (bV 2) λ_=>N ((oL D).aG dY) λ_=>N (cQ.aG dY) λ_=>h3 l dY else h3 l dY
   else b6
  |_=>b6):=by
 unfold pM;congr 1
 funext t
 cases t with
 |word w p=>
  cases p with
  |true=>
   simp only[J5,lg];congr 1;congr 1
   funext _
   congr 1
   funext t
   rw[ab5,zB];congr 1
   ·simp[J5,lg,ab6,U2,J6]
   ·simp only[J5,lg,U2];congr 1
    funext _
    congr 1
    funext t
    rw[ab5,zB];simp[J5,lg,ab6,U2,J6]
  |false=>rfl
 |_=>rfl
theorem ab_:∀(r w:H),cx r->r≠[]->di r=(w,true)->r.drop w.length≠[]
 |[],w,_,Z,_=>absurd rfl Z
 |b::t,w,a,_,h=>by
  by_cases g:cV (b::t)=true
  ·simp_all[di]
  ·have c:cV (b::t)=false:=by grind
   have d:¬(b=92\/b=39\/b=34\/b=96\/fD (b::t)=true):=by grind[UT]
   have h0:di (b::t)=(match di t with|(w,true)=>(b::w,true)|(_,false)=>([],false)):=by rw[di,c,aM (by simp),aM d];grind
   rw[h0] at h;have i:b≠10:=by simp_all[cV]
   have e:t≠[]:=by
    rintro rfl;rcases a with M|⟨x,M⟩
    ·cases M
    ·cases x with
     |nil=>grind
     |cons y ys=>simp_all
   cases ah:di t with
   |mk f p=>
    rw[ah] at h;cases p with
    |false=>cases h
    |true=>simp only at h;cases h;simp only[nB,KJ];exact ab_ t f (a.iT (eL b t)) e ah
noncomputable def BE(R:bl):aa->Option aa:=λa=>
 (c1 ((decide (a.2.2.2.2.1=0))=true) (mA a) [] λ(b:H)=>(bif(bif(decide (a.2.2.2.2.1=0)) then(decide (b=([105,110]:H))) else false) then(ay (I2 R (a.1,(W (a.2.1+2)),a.2.2.1,a.2.2.2.1,a.2.2.2.2.1,a.2.2.2.2.2.1,a.2.2.2.2.2.2.1,a.2.2.2.2.2.2.2.1,a.2.2.2.2.2.2.2.2)) λ(c:aa)=>yg R c) else yg R a))
noncomputable def J7(R:bl):aa->Option aa:=λx=>
 (ay (iz x) λ(a:H)=>(bif(decide (a=([59]:H))) then yg R (x.1,(W (x.2.1+1)),x.2.2.1,x.2.2.2.1,x.2.2.2.2.1,x.2.2.2.2.2.1,x.2.2.2.2.2.2.1,x.2.2.2.2.2.2.2.1,x.2.2.2.2.2.2.2.2) else(ay (pJ x) λ(b:aa)=>BE R b)))
noncomputable def Ol(R:bl)(p:Int):(H×Bool×aa)->Option aa:=λ(e,d,a)=>
 (c1 ((bif(!(decide (a.2.2.2.2.1=0))) then true else(!d))=false) (C3 e) false λ(f:Bool)=>(bif(bif(bif(!(decide (a.2.2.2.2.1=0))) then true else(!d)) then true else(!f)) then(ay (ih a p) λ(b:aa)=>some (b.1,b.2.1,b.2.2.1,a.2.2.2.1,b.2.2.2.2.1,b.2.2.2.2.2.1,b.2.2.2.2.2.2.1,a.2.2.2.2.2.2.2.1,b.2.2.2.2.2.2.2.2)) else(ay (h1 a) λ(c:aa)=>J7 R (c.1,c.2.1,c.2.2.1,a.2.2.2.1,c.2.2.2.2.1,c.2.2.2.2.2.1,c.2.2.2.2.2.2.1,a.2.2.2.2.2.2.2.1,c.2.2.2.2.2.2.2.2))))
noncomputable def U6(R:bl):aa->Option aa:=λx=>
 (ay (g9 x) λ(b:Bool)=>(bif b then(ay (h2 x ([120,10,100,111,32,120,10,100,111,110,101]:H)) λ(c:aa)=>some c) else(ay (xJ x) λ(d:Bool)=>(bif d then(ay (ih x x.2.1) λ(a:aa)=>some (a.1,a.2.1,a.2.2.1,x.2.2.2.1,a.2.2.2.2.1,a.2.2.2.2.2.1,a.2.2.2.2.2.2.1,x.2.2.2.2.2.2.2.1,a.2.2.2.2.2.2.2.2)) else(ay (rM R x) λy=>Ol R x.2.1 y)))))
theorem apj(R:bl)(I:aa):I3 R I=ay (h1 I) λa=>U6 R (a.1,a.2.1,a.2.2.1,I.2.2.2.1,a.2.2.2.2.1,a.2.2.2.2.2.1,a.2.2.2.2.2.2.1,I.2.2.2.2.2.2.2.1,a.2.2.2.2.2.2.2.2):=rfl
theorem apk(fr:Bool)(n:Nat):(aW fr n).dl=a9 fr n:=by cases n<;>rfl
def U7(l:dD)(D:ab Unit):ab Unit:=N ((bN []).aG dY) λt=>if cm t eb then N (bV 2) λ_=>N ((oL D).aG dY) λ_=>N (cQ.aG dY) λ_=>h3 l dY else h3 l dY
def zT(l:dD)(D:ab Unit):ab Unit:=N ((bN []).aG dY) λt=>if t= .op [59] then N (bV 1) λ_=>N (cQ.aG dY) λ_=>h3 l dY else N (cQ.aG dY) λ_=>U7 l D
theorem apl(l:dD)(D:ab Unit):pM l D=N (bN tb) (λt=>match t with
 | .eof=>b5 tb
 | .word w true=>if l3 w then N (bV w.length) λ_=>zT l D else b6
 |_=>b6):=api l D
theorem qA{m:ab α}{a:α}{b:ag}(h:m r F= .ok a an b):(m.aG x) r F= .ok a an b:=hn.2 h
theorem tr{m:ab α}{op:bs}{nd:H}(h:m r F= .more op nd ds):(m.aG x) r F= .more op (b8 nd ds x).1 (b8 nd ds x).2:=by grind[ab.aG]
theorem vI{m:ab α}{q:H}(h:m r F= .bad q):(m.aG x) r F= .bad q:=by grind[ab.aG]
theorem vJ{m:ab α}{q:H}(h:m r F= .deep q):(m.aG x) r F= .deep q:=by grind[ab.aG]
theorem aK.low{c:Nat}{f:ab α}(ah:aK c f)(h:cJ e r F):∀(op:bs)(nd:H)(ds:ag)(hm:f r F= .more op nd ds),nd.length+eA ds<=100*e.S.length+c:=by intro op nd ds hm;have:=ah r F;rw[hm] at this;simp only[eu] at this;have:=h.kk;omega
theorem U8{a:ag}(h:cJ e r a):mA (e.tt ds)=some []:=by
 have M:mA (e.tt ds)=mA (e.tt a):=by rfl
 rw[M];exact apb h.Bz
theorem U9{w:H}{p:Bool}(h:ar r= .word w p):di r=(w,p):=by
 cases r with
 |nil=>grind[jd]
 |cons b t=>grind[J4]
theorem Om{q:Bool}{st:aa}{cv:α->H->aa->Prop}(p:Int)(h:oT e r0 st):bR q e r0 (.bad an:dn α) (λst=>st) cv (ih st p):=⟨_,rfl,rfl,h.s,h.lo,h.bh,h.nd,h.op⟩
theorem U_{p:Int}{b:H}{c:Bool}{a:aa}(h:a.2.2.2.2.1≠0):Ol R p (b,c,a)=ih a p:=by unfold Ol;simp only[h,bG,fp,aO,c1,uR,cZ];rfl
section
variable(bm:ph R n)(hD:ll R n)(bj:e.ne=30- (n:Int))
theorem aca{nd:H}{st:aa}{c:ag}(h0:cJ e r c)(hm:jh true e r nd ds st)(a:nd.length+eA ds<=100*e.S.length+500):∃b,BE R st=some b/\jh false e r (b8 nd ds dY).1 (b8 nd ds dY).2 b:=by
 rcases hm with M|⟨_,rfl,rfl⟩
 ·unfold BE;rw[M.1];simp only[show¬((1:Int)=0) by decide,bG,c1,fR,cZ,aY];exact U3 h0 (.inl M) a
 ·unfold BE;have d:(e.tt ds).2.2.2.2.1=0:=rfl;rw[d,U8 h0,gI];simp only[bz,c9,reduceCtorEq,bG,aO,aY];exact U3 h0 (.inr ⟨rfl,rfl,rfl⟩) a
theorem acb{st:aa}(hm:js e r st):∃a,BE R st=some a/\js e r a:=by unfold BE;rw[hm.1];simp only[show¬((2:Int)=0) by decide,bG,c1,fR,cZ,aY];exact U4 hm
include bm hD bj
theorem apm{st:aa}(h:cJ e r F)(k:gJ e r F st)(h0:r<:+r0)(m:r0<:+e.S)(Y:bg r=some r)(aw:ar r≠ .line):bR false e r0 (U7 (aW true n) (a9 true n) r F) (λst=>st) (λ_ _ _=>True) (BE R st):=by
 have l:=h.nl.iT h.sfx;unfold U7 BE;rw[aJ (qA (bL Y)),k.eta.2.2.2.2.1];obtain⟨al,rfl,o⟩:=k;rw[wW h,gI];simp only[bz,c9,aO];by_cases aB:jG r=[105,110]
 ·have p:=(sD l BD.1 BD.2).1 aB;have bh:cm (ar r) eb=true:=by grind[cm]
  simp only[aB,bz,aO];rw[ba bh];obtain⟨q,rfl⟩:=(q8 p).1;have s:bV 2 (eb++q) F= .ok () q F:=rfl;rw[aJ s];have i:q<:+eb++q:=gq eb q;have t:W (ax e.S (eb++q)+2)=ax e.S q:=kY (w:=eb) (iV h.b4) h.sfx;have u:q≠[]:=by grind[U0,eb]
  have j:=h.mono i;have v:((e.st (eb++q) F al).1,W ((e.st (eb++q) F al).2.1+2),(e.st (eb++q) F al).2.2.1,(e.st (eb++q) F al).2.2.2.1,(0:Int),(e.st (eb++q) F al).2.2.2.2.2.1,(e.st (eb++q) F al).2.2.2.2.2.2.1,(e.st (eb++q) F al).2.2.2.2.2.2.2.1,(e.st (eb++q) F al).2.2.2.2.2.2.2.2)=e.st q F al:=by show(e.S,W (ax e.S (eb++q)+2),e.ne,F,(0:Int),(0:Int),([]:H),([]:bs),al)=_;rw[t];rfl
  rw[v];have c:=ape hD bj j ⟨al,rfl,λx=>absurd x u⟩;obtain⟨b,y,c⟩:=c;rw[y,aS rfl];have z:=aK.low (aK.words (tk true n)) j;rw[apk] at z;cases hm:oL (a9 true n) q F with
  |ok a an C=>grind[aJ,qA,U5]
  |more op nd ds=>rw[hm] at c;rw[dx (tr hm)];obtain⟨d,f,g⟩:=U3 (R:=R) j (jh.up c) (by grind);exact⟨d,f,g.mono (i.trans h0)⟩
  |bad A=>rw[hm] at c;rw[hS (vI hm)];obtain⟨d,f,g⟩:=U4 (R:=R) c;exact⟨d,f,g.mono (i.trans h0)⟩
  |deep A=>rw[hm] at c;rw[km (vJ hm)];obtain⟨d,f,g⟩:=U4 (R:=R) c;exact⟨d,f,g.mono (i.trans h0)⟩
 ·have bh:cm (ar r) eb=false:=by rw[<-JY l BD.1 BD.2];exact e3 aB
  simp only[aB,bG,aY];rw[aM (by grind)];have B:N (cQ.aG dY) (λ_=>h3 (aW true n) dY) r F=h3 (aW true n) dY r F:=aJ (qA (NX Y aw));rw[<-B];exact U5 bm bj h ⟨al,rfl,o⟩ h0 m
theorem apn{st:aa}(h:cJ e r F)(j:gJ e r F st)(h0:r<:+r0)(p:r0<:+e.S)(Y:bg r=some r):bR false e r0 (zT (aW true n) (a9 true n) r F) (λst=>st) (λ_ _ _=>True) (J7 R st):=by
 unfold zT J7;rw[aJ (qA (bL Y))];have he:=j.eta;have s:iz st=some (bt r):=by obtain⟨al,rfl,u⟩:=j;exact sF h
 rw[s,aS rfl];by_cases k:bt r=[59]
 ·have l:ar r= .op [59]:=(mQ (by simp)).2 k;simp only[k,decide_true,cond_true];rw[if_pos l];obtain⟨q,rfl⟩:=(ib l).2.1;have v:bV 1 ([59]++q) F= .ok () q F:=rfl;rw[aJ v];have o:q<:+[59]++q:=List.suffix_append _ q;have x:=h.mono o;have y:q≠[]:=cJ.zN (b:=59) (t:=q) h (by decide);obtain⟨al,rfl,u⟩:=j;have z:W (ax e.S ([59]++q)+1)=ax e.S q:=kY (w:=[59]) (iV h.b4) h.sfx;have A:((e.st ([59]++q) F al).1,W ((e.st ([59]++q) F al).2.1+1),(e.st ([59]++q) F al).2.2.1,(e.st ([59]++q) F al).2.2.2.1,(e.st ([59]++q) F al).2.2.2.2.1,(e.st ([59]++q) F al).2.2.2.2.2.1,(e.st ([59]++q) F al).2.2.2.2.2.2.1,(e.st ([59]++q) F al).2.2.2.2.2.2.2.1,(e.st ([59]++q) F al).2.2.2.2.2.2.2.2)=e.st q F al:=by show(e.S,W (ax e.S ([59]++q)+1),e.ne,F,(0:Int),(0:Int),([]:H),([]:bs),al)=_;rw[z];rfl
  rw[A];exact U5 bm bj x ⟨al,rfl,λm=>absurd m y⟩ (o.trans h0) p
 ·have l:ar r≠ .op [59]:=λm=>k ((mQ (by simp)).1 m);simp only[k,decide_false,cond_false];rw[if_neg l];obtain⟨C,B,d⟩:=Gu h j;rw[B,aS rfl];have D:=aK.low (aK.lines (c:=0)) h;cases hm:cQ r F with
  |ok a an E=>grind[aJ,qA,apm]
  |more op nd ds=>rw[hm] at d;rw[dx (tr hm)];obtain⟨f,g,i⟩:=aca (R:=R) h d (by grind);exact⟨f,g,i.mono h0⟩
  |bad q=>rw[hm] at d;rw[hS (vI hm)];obtain⟨f,g,i⟩:=acb (R:=R) d;exact⟨f,g,i.mono h0⟩
  |deep q=>rw[hm] at d;rw[km (vJ hm)];obtain⟨f,g,i⟩:=acb (R:=R) d;exact⟨f,g,i.mono h0⟩
omit bm hD bj in
theorem apo{b:ag}(h:cJ e r b)(h0:r<:+r0)(f:eA F<=100*e.S.length+400):∃a,J7 R (e.tt F)=some a/\jh false e r0 (b8 [] F dY).1 (b8 [] F dY).2 a:=by unfold J7;rw[GC F h.b4,aS rfl];simp only[reduceCtorEq,bG,aY];rw[abZ,aS rfl];obtain⟨a,c,d⟩:=aca (R:=R) h (jh.tt (e:=e) (r:=r) F) (by grind);exact⟨a,c,d.mono h0⟩
theorem apq{st:aa}(h:cJ e r F)(U:gJ e r F st)(V:r<:+e.S):bR false e r (pM (aW true n) (a9 true n) r F) (λst=>st) (λ_ _ _=>True) (I3 R st):=by
 rw[apl,apj];obtain⟨al,rfl,W⟩:=U;rcases x8 h ⟨al,rfl,W⟩ with⟨b,eX,v,z,X,m,s,iM⟩|⟨v,z⟩
 ·rw[z,aS rfl,aJ (bL v)];obtain⟨d,rfl,Oj⟩:=X;have A:((e.st b F d).1,(e.st b F d).2.1,(e.st b F d).2.2.1,(e.st r F al).2.2.2.1,(e.st b F d).2.2.2.2.1,(e.st b F d).2.2.2.2.2.1,(e.st b F d).2.2.2.2.2.2.1,(e.st r F al).2.2.2.2.2.2.2.1,(e.st b F d).2.2.2.2.2.2.2.2)=e.st b F d:=rfl;rw[A];unfold U6;rw[rk,aS rfl];by_cases Z:b=[]
  ·subst Z;simp only[bz,aO];obtain⟨g,f,k⟩:=vH (al:=d) (x:=tb) m (by decide);rw[show([120,10,100,111,32,120,10,100,111,110,101]:H)=tb from rfl,f,aS rfl];exact⟨g,rfl,(k.mono s).s⟩
  ·simp only[Z,bG,aY];rw[Oe m Z,aS rfl];have K:∃g,ih (e.st b F d) (e.st b F d).2.1=some g/\js e r g:=qz _ m s
   have qw:ar b≠ .eof:=λB=>Z (jd.1 B);cases ao:ar b with
   |eof=>grind
   |line=>simp only[aO];obtain⟨g,f,k⟩:=K;rw[f,aS rfl];exact⟨_,rfl,by cases f;exact k⟩
   |op o=>simp only[aO];obtain⟨g,f,k⟩:=K;rw[f,aS rfl];exact⟨_,rfl,by cases f;exact k⟩
   |word w p=>
    simp only[aY];have u:=U9 ao;have dN:=h.nl.iT m.sfx;obtain⟨⟨i,fS,L⟩,M,c⟩:=Gz hD bj (tr0:=d) m;rw[M,aS rfl];have O:L.1=e.S->i.length<=1000000:=λY=>k1 (UU m Y M).1 h.b4;unfold Ol;dsimp only at c⊢;by_cases P:p=true/\l3 w=true
    ·obtain⟨rfl,rh⟩:=P;dsimp only;have BA:=ab_ b w dN Z u;have yd:=ab7 (D:=a9 true n) b w F u BA;rw[yd] at c;obtain⟨C,av,a3, -,j,l⟩:=c;rw[u] at j l;dsimp only at j l;have E:=l j;subst E j;have G:=(zI i (iV (O a3.eta.1))).2;rw[G,a3.eta.2.2.2.2.1,rh];simp only[bz,hU,aY,c9];rw[gI];simp only[c9,hU,aY];rw[aJ (show bV i.length b F= .ok () (b.drop i.length) F from rfl)];obtain⟨Q,rfl,S⟩:=a3;rcases x8 av ⟨Q,rfl,S⟩ with⟨cb,apr,I,J,sz,lA,vG,T⟩|⟨I,J⟩
     ·rw[J,aS rfl];obtain⟨il,rfl,Oo⟩:=sz;have t:zT (aW true n) (a9 true n) (b.drop i.length) F=zT (aW true n) (a9 true n) cb F:=by unfold zT;rw[aJ (qA (bL I)),aJ (qA (bL T))]
      rw[t];exact apn bm hD bj lA ⟨il,rfl,Oo⟩ (vG.trans (C.trans s)) V T
     ·rw[J,aS rfl];have t:zT (aW true n) (a9 true n) (b.drop i.length) F= .more [] (b8 [] F dY).1 (b8 [] F dY).2:=by unfold zT;exact dx (tr (by rw[jC I];rfl))
      rw[t];have sC:=h.kk;exact apo (R:=R) h gr (by show eA F<=_;omega)
    ·have t:(match Tok.word w p with| .eof=>b5 tb| .word w true=>if l3 w then N (bV w.length) λ_=>zT (aW true n) (a9 true n) else b6|_=>b6:ab Unit) b F= .bad b:=by
      cases p with
      |false=>rfl
      |true=>dsimp only;rw[if_neg (λB=>P ⟨rfl,B⟩)];rfl
     refine bR.et (y:=ih L (e.st b F d).2.1) ?_ ?_
     ·rw[t];cases hm:cR (a9 true n) b F with
      |ok a cK b9=>rw[hm] at c;obtain⟨C,av,⟨Q,rfl,S⟩,_⟩:=c;grind[Om,abV]
      |more op nd ds=>rw[hm] at c;exact Om _ (c.z.2.2.2.1.mono s)
      |bad q=>rw[hm] at c;exact Om _ (c.2.mono s)
      |deep q=>rw[hm] at c;exact Om _ (c.2.mono s)
     ·cases hm:cR (a9 true n) b F with
      |ok a cK b9=>
       rw[hm] at c;obtain⟨C,av,a3, -,j,l⟩:=c;rw[u] at j l;dsimp only at j l;subst j;have G:=(zI i (iV (O a3.eta.1))).2;rw[G,a3.eta.2.2.2.2.1];cases fS with
       |false=>rfl
       |true=>
        have E:=l rfl;subst E;have af:l3 i=false:=by grind
        rw[af];rfl
      |more op nd ds=>rw[hm] at c;exact U_ (by rw[c.z.1];decide)
      |bad q=>rw[hm] at c;exact U_ (by rw[c.1];decide)
      |deep q=>rw[hm] at c;exact U_ (by rw[c.1];decide)
 ·rw[z,aS rfl,dx (op:=[]) (nd:=(b8 [] F tb).1) (ds:=(b8 [] F tb).2) (by rw[jC v];rfl)];have A:((e.tt F).1,(e.tt F).2.1,(e.tt F).2.2.1,(e.st r F al).2.2.2.1,(e.tt F).2.2.2.2.1,(e.tt F).2.2.2.2.2.1,(e.tt F).2.2.2.2.2.2.1,(e.st r F al).2.2.2.2.2.2.2.1,(e.tt F).2.2.2.2.2.2.2.2)=e.tt F:=rfl;rw[A];unfold U6;rw[pS,aS rfl];simp only[aO];obtain⟨g,f,k⟩:=DK (x:=tb) h.Bz (by decide);rw[show([120,10,100,111,32,120,10,100,111,110,101]:H)=tb from rfl,f,aS rfl];exact⟨g,rfl,(k.mono pt).s⟩
end
theorem aps{β:Type}(f:σ->ab (σ⊕α))(K:α->ab β):∀(bF:Nat)(s:σ)(r:H)(F:ag),r.length<=bF->N (cD f s) K r F=cD (λs=>N (f s) λx=>match x with| .inl s'=>aU (.inl s')| .inr a=>N (K a) λb=>aU (.inr b)) s r F:=by
 intro bF;induction bF with
 |zero=>
  intro s r F h;have Z:r.length=0:=by omega
  rw[cL];unfold N;rw[cL];cases M:f s r F with
  |ok x an c=>
   cases x with
   |inl s'=>grind[dc,aU]
   |inr a=>grind[dc,aU]
  |more op nd ds=>rfl
  |bad q=>rfl
  |deep q=>rfl
 |succ bF d=>
  intro s r F h;rw[cL];unfold N;rw[cL];cases M:f s r F with
  |ok x an c=>
   cases x with
   |inl s'=>
    simp only[dc,aU];by_cases aw:an.length<r.length
    ·rw[ba aw,ba aw];exact d s' an c (by omega)
    grind
   |inr a=>grind[dc,aU]
  |more op nd ds=>rfl
  |bad q=>rfl
  |deep q=>rfl
theorem apt{β:Type}(f:σ->ab (σ⊕α))(K:α->ab β)(s:σ):N (cD f s) K=cD (λs=>N (f s) λx=>match x with| .inl s'=>aU (.inl s')| .inr a=>N (K a) λb=>aU (.inr b)) s:=by
 funext r F;exact aps f K r.length s r F (cS _)
def DN(e:cn)(r:H)(F:ag)(x:aa):Prop:=(∃r' al,bg r=some r'/\x=e.st r' F al/\(r'=[]->al=false)/\cJ e r' F/\r'<:+r/\bg r'=some r')\/(bg r=none/\x=e.tt F)
theorem yh{st:aa}(h:cJ e r F)(d:gJ e r F st):∃x,h1 st=some x/\DN e r F x:=by
 rcases x8 h d with⟨f,g,a,b,⟨al,i,c⟩,j,k,l⟩|⟨a,b⟩
 ·exact⟨g,b,.inl ⟨f,al,a,i,c,j,k,l⟩⟩
 ·exact⟨_,b,.inr ⟨a,rfl⟩⟩
theorem GK{q:Bool}{nd:H}{st:aa}{b:ag}(h0:cJ e r b)(hm:jh false e r nd ds st)(h:r<:+r0)(f:nd.length+eA ds<=100*e.S.length+500)(g:x.length<=100):∃a,g_ st [] x=some a/\jh q e r0 (b8 nd ds x).1 (b8 nd ds x).2 a:=by obtain⟨a,c,d⟩:=x9 (e:=e) (nm:=[]) (x:=x) (an:=r) (r0:=r) (nd:=nd) (ds:=ds) hm.z gr h0.sfx (.inl rfl) (by omega) h0.b4 (by omega);exact⟨a,c,(oU.mono d h).s⟩
theorem sG{st:aa}{nm:H}(hm:js e r st):g_ st nm x=some st:=qx (by rw[hm.1];decide)
theorem ts{w q:H}(h:cJ e (w++q) F)(k:Nat)(az:w.length=k):(e.S,W (ax e.S (w++q)+(k:Int)),e.ne,F,(0:Int),(0:Int),([]:H),([]:bs),al)=e.st q F al:=by subst az;have a:W (ax e.S (w++q)+(w.length:Int))=ax e.S q:=kY (w:=w) (iV h.b4) h.sfx;rw[a];rfl
theorem cJ.uD{w q:H}(h:cJ e (w++q) F)(a:w≠[])(b:(10:UInt8)∉w):q≠[]:=by
 rintro rfl;rw[pZ] at h;rcases h.nl.iT h.sfx with M|⟨t,M⟩
 ·grind
 grind
def GL(l:dD):ab Unit:=N (l.ls .item true) λ_=>N (bN []) λt=>if t= .op [59,59] then bV 2 else aU ()
def BG(l:dD)(D:ab Unit)(t:Tok):ab Unit:=N ((if t= .op [40] then bV 1 else aU ())) λ_=>N (lb D) λ_=>GL l
def pU(l:dD)(D:ab Unit):Unit->ab (Unit⊕Unit):=λ_=>N cQ λ_=>N (bN []) λt=>if t= .eof then b5 [] else if cm t dt then N (bV 4) λ_=>aU (.inr ()) else N (BG l D t) λ_=>aU (.inl ())
theorem acd(l:dD)(D:ab Unit):(λ(_:Unit)=>N cQ λ_=>N (bN []) λt=>if t= .eof then b5 [] else if cm t dt then N (bV 4) λ_=>aU (.inr ()) else
 N ((if t= .op [40] then bV 1 else aU ())) λ_=>N (lb D) λ_=>N (l.ls .item true) λ_=>N (bN []) λt=>if t= .op [59,59] then N (bV 2) λ_=>aU (.inl ()) else aU (.inl ()))=pU l D:=by
 unfold pU
 funext _
 congr 1
 funext _
 congr 1
 funext t
 congr 1;congr 1;unfold BG GL;simp only[lg];congr 1
 funext _
 congr 1
 funext _
 congr 1
 funext _
 congr 1
 funext t
 rw[zB];congr 1
theorem apv(l:dD)(D:ab Unit):nn l D=cD (pU l D) ():=by simp[nn,acd]
theorem apw{s':Unit}{a:ag}(h:pU (aW true n) (a9 true n) () r F= .ok (.inl s') r' a):r'.length<r.length:=by rw[<-acd] at h;exact(Tw (rW true n) (mO true n)).lt (s:=()) h
noncomputable def zV(R:bl):aa->Option aa:=λx=>
 (ay (R.oA x ([59,59]:H) ([]:bs) false) λ(c,a)=>(c1 ((decide (a.2.2.2.2.1=0))=true) (iz a) [] λ(b:H)=>(bif(bif(decide (a.2.2.2.2.1=0)) then(decide (b=([59,59]:H))) else false) then some (a.1,(W (a.2.1+2)),a.2.2.1,a.2.2.2.1,a.2.2.2.2.1,a.2.2.2.2.2.1,a.2.2.2.2.2.2.1,a.2.2.2.2.2.2.2.1,a.2.2.2.2.2.2.2.2) else some a)))
noncomputable def J8(R:bl)(I x:aa):Option aa:=fixF (A4 R (zV R)) bB (x.1,x.2.1,x.2.2.1,I.2.2.2.1,x.2.2.2.2.1,x.2.2.2.2.2.1,x.2.2.2.2.2.2.1,I.2.2.2.2.2.2.2.1,x.2.2.2.2.2.2.2.2)
theorem apx(R:bl)(I:aa):IU R I=(ay (iz I) λ(a:H)=>
 (bif(decide (a=([40]:H))) then
 (ay (h1 (I.1,(W (I.2.1+1)),I.2.2.1,I.2.2.2.1,I.2.2.2.2.1,I.2.2.2.2.2.1,I.2.2.2.2.2.2.1,I.2.2.2.2.2.2.2.1,I.2.2.2.2.2.2.2.2)) λ(b:aa)=>J8 R I b)
 else J8 R I I)):=rfl
section
variable(bm:ph R n)(hD:ll R n)(bj:e.ne=30- (n:Int))
include bm bj
theorem apy{st:aa}(h:cJ e r F)(p:gJ e r F st):bR false e r (GL (aW true n) r F) (λst=>st) (λ_ _ _=>True) (zV R st):=by
 unfold GL zV;refine bR.je (C:=λx=>x) dg.id (bm.im e .item true rfl bj r F st h p) (λa an u b k s1 c i _=>?_) (λop nd ds b _ l=>?_) (λb d=>?_)
 ·obtain⟨d,m⟩:=b;dsimp only at i⊢;obtain⟨cX,eW⟩:=Bt true n;rw[eW] at k;obtain⟨s,v⟩:=x1 (by simp) k;rw[aJ (bL s),i.eta.2.2.2.2.1];obtain⟨al,rfl,t⟩:=i;rw[sF c,gI];simp only[bz,c9,aO];by_cases f:bt an=[59,59]
  ·have g:ar an= .op [59,59]:=(mQ (by simp)).2 f;simp only[f,bz,aO];rw[ba g];obtain⟨q,rfl⟩:=(ib g).2.1;have o:q<:+[59,59]++q:=gq _ q;exact⟨_,k2 some (ts c 2 rfl),o.trans s1,c.mono o,⟨al,rfl,λj=>absurd j (c.uD (by simp) (by decide))⟩,trivial⟩
  ·have g:ar an≠ .op [59,59]:=λj=>f ((mQ (by simp)).1 j);simp only[f,bG,aY];rw[aM g];exact⟨_,rfl,s1,c,⟨al,rfl,t⟩,trivial⟩
 ·obtain⟨d,m⟩:=b;dsimp only at l⊢;rw[l.z.1];simp only[show¬((1:Int)=0) by decide,bG,c1,fR,cZ,aY];grind
 ·obtain⟨e_,m⟩:=b;dsimp only at d⊢;rw[d.1];simp only[show¬((2:Int)=0) by decide,bG,c1,fR,cZ,aY];grind
include hD
theorem ace{r0:H}{x:aa}(h:cJ e r F)(M:DN e r F x):bR false e r (N (lb (a9 true n)) (λ_=>GL (aW true n)) r F) (λst=>st) (λ_ _ _=>True) (fixF (A4 R (zV R)) bB x):=by
 unfold lb;rw[apt];refine bR.rep (en:=λ_ r F x=>DN e r F x) (λk s r F x aC M nw az=>?_) bB () r F _ (wV h) h M;simp only[lg] at az⊢;rcases M with⟨i,m,O,rfl,Oj,E,G,iM⟩|⟨O,rfl⟩
 ·rw[aJ (bL O)];unfold A4;have P:((e.st i F m).1,(e.st i F m).2.1,(e.st i F m).2.2.1,(e.st i F m).2.2.2.1,(e.st i F m).2.2.2.2.1,(e.st i F m).2.2.2.2.2.1,(e.st i F m).2.2.2.2.2.2.1,(e.st i F m).2.2.2.2.2.2.2.1,(e.st i F m).2.2.2.2.2.2.2.2)=e.st i F m:=rfl;dsimp only;rw[P,rk,aS rfl];by_cases Z:i=[]
  ·subst Z;simp only[bz,aO];obtain⟨f,j,t⟩:=vH (al:=m) (x:=[120,41]) E (by decide);rw[j,aS rfl];exact⟨f,rfl,(t.mono G).s⟩
  ·simp only[Z,bG,aY];rw[Oe E Z,aS rfl];have r6:∃f,ih (e.st i F m) (e.st i F m).2.1=some f/\js e r f:=qz _ E G
   have qw:ar i≠ .eof:=λC=>Z (jd.1 C);cases ao:ar i with
   |eof=>grind
   |line=>simp only[aO];obtain⟨f,j,t⟩:=r6;rw[j,aS rfl];exact⟨_,rfl,by cases j;exact t⟩
   |op o=>simp only[aO];obtain⟨f,j,t⟩:=r6;rw[j,aS rfl];exact⟨_,rfl,by cases j;exact t⟩
   |word w p=>
    simp only[aY,lg];have hF:cV i=false:=(zJ iM ao).2;have l:=Gz hD bj (tr0:=m) E;have hC:=aK.low (aK.cR (xZ true n▸(tk true n).dl)) E;obtain⟨⟨dX,fS,jg⟩,hb,l⟩:=l;rw[hb,aS rfl];dsimp only at l⊢;cases hm:cR (a9 true n) i F with
    |ok a v c=>
     rw[hm] at l;obtain⟨cH,av,a3, -, -, -⟩:=l;rw[aJ (qA hm),a3.eta.2.2.2.2.1];simp only[bz,hU,aY];have aw:=wJ (mO true n) Z hF hm;obtain⟨u,rfl,On⟩:=a3;obtain⟨lk,Q,qy⟩:=yh av ⟨u,rfl,On⟩;rw[Q,aS rfl];rcases qy with⟨g,d,S,rfl,Oo,y,vG,zU⟩|⟨S,rfl⟩
     ·rw[aJ (bL S)];have T:((e.st g c d).1,(e.st g c d).2.1,(e.st g c d).2.2.1,(e.st v c u).2.2.2.1,(e.st g c d).2.2.2.2.1,(e.st g c d).2.2.2.2.2.1,(e.st g c d).2.2.2.2.2.2.1,(e.st v c u).2.2.2.2.2.2.2.1,(e.st g c d).2.2.2.2.2.2.2.2)=e.st g c d:=rfl;rw[T,rk,aS rfl];have J:g<:+r:=vG.trans (cH.trans G);by_cases U:g=[]
      ·subst U;simp only[bz,aO];obtain⟨f,j,t⟩:=vH (al:=d) (x:=[41]) y (by decide);rw[j,aS rfl];exact⟨f,rfl,(t.mono J).s⟩
      ·simp only[U,bG,aY];rw[sF y,aS rfl];have avr:ar g≠ .eof:=λC=>U (jd.1 C);have V:∃f,ih (e.st g c d) (e.st g c d).2.1=some f/\js e r f:=qz _ y J
       by_cases K:bt g=[124]
       ·have D:ar g= .op [124]:=(mQ (by simp)).2 K;obtain⟨q,rfl⟩:=(ib D).2.1;rw[D,K];simp only[bz,hU,aY,c9,lg,Eg,and_true,show¬((124:UInt8)=41) by decide,bG,fp];have I:q<:+[124]++q:=gq _ q;have X:=y.uD (by simp) (by decide);rw[aJ (show bV 1 ([124]++q) c= .ok () q c from rfl)];obtain⟨z,J9,BH⟩:=yh (y.mono I) ⟨d,rfl,λC=>absurd C X⟩;have Y:h1 ((e.st ([124]++q) c d).1,W ((e.st ([124]++q) c d).2.1+1),(e.st ([124]++q) c d).2.2.1,(e.st v c u).2.2.2.1,(e.st ([124]++q) c d).2.2.2.2.1,(e.st ([124]++q) c d).2.2.2.2.2.1,(e.st ([124]++q) c d).2.2.2.2.2.2.1,(e.st v c u).2.2.2.2.2.2.2.1,(e.st ([124]++q) c d).2.2.2.2.2.2.2.2)=some z:=by rw[<-J9];exact k2 h1 (ts y 1 rfl)
        rw[Y,aS rfl];have ic:q.length<r.length:=by grind
        have DP:(z.1,z.2.1,z.2.2.1,(e.st v c u).2.2.2.1,z.2.2.2.2.1,z.2.2.2.2.2.1,z.2.2.2.2.2.2.1,(e.st v c u).2.2.2.2.2.2.2.1,z.2.2.2.2.2.2.2.2)=z:=by rcases BH with⟨ou,Vc, -,rfl, -⟩|⟨-,rfl⟩<;>rfl
        rw[DP];exact bR.inl ic (az () q c z (I.trans J) (y.mono I) ic BH)
       ·by_cases L:bt g=[41]
        ·have D:ar g= .op [41]:=(mQ (by simp)).2 L;obtain⟨q,rfl⟩:=(ib D).2.1;rw[D,L];simp only[bz,hU,aY,c9,lg,Eg,and_true,show¬((41:UInt8)=124) by decide,bG,fp,aO,cZ];have I:q<:+[41]++q:=gq _ q;have X:=y.uD (by simp) (by decide);rw[aJ (show bV 1 ([41]++q) c= .ok () q c from rfl)];have cy:=apy bm bj (y.mono I) (st:=e.st q c d) ⟨d,rfl,λC=>absurd C X⟩;have Y:zV R ((e.st ([41]++q) c d).1,W ((e.st ([41]++q) c d).2.1+1),(e.st ([41]++q) c d).2.2.1,(e.st v c u).2.2.2.1,(e.st ([41]++q) c d).2.2.2.2.1,(e.st ([41]++q) c d).2.2.2.2.2.1,(e.st ([41]++q) c d).2.2.2.2.2.2.1,(e.st v c u).2.2.2.2.2.2.2.1,(e.st ([41]++q) c d).2.2.2.2.2.2.2.2)=zV R (e.st q c d):=k2 (zV R) (ts y 1 rfl);rw[Y];obtain⟨b,p8,A⟩:=cy.mono (I.trans J);rw[p8,J6];dsimp only;cases B:GL (aW true n) q c with
         |ok a fj mD=>rw[B] at A;rw[aJ B];exact⟨b,rfl,A⟩
         |more op nd ds=>rw[B] at A;rw[dx B];exact⟨b,rfl,A⟩
         |bad q=>rw[B] at A;rw[hS B];exact⟨b,rfl,A⟩
         |deep q=>rw[B] at A;rw[km B];exact⟨b,rfl,A⟩
        ·simp only[K,L,bG,fp,aO];obtain⟨f,j,t⟩:=V;rw[j,aS rfl]
         have fin:∃b:aa,some (f.1,f.2.1,f.2.2.1,(e.st v c u).2.2.2.1,f.2.2.2.2.1,f.2.2.2.2.2.1,f.2.2.2.2.2.2.1,(e.st v c u).2.2.2.2.2.2.2.1,f.2.2.2.2.2.2.2.2)=some b/\js e r b:=⟨_,rfl,by cases j;exact t⟩
         cases D:ar g with
         |eof=>grind
         |line=>exact fin
         |word _ _=>exact fin
         |op o=>have aP:=(ib D).1;subst aP;simp only[K,L,cZ];exact fin
     ·rw[dx (op:=[]) (by rw[jC S];rfl)];have T:((e.tt c).1,(e.tt c).2.1,(e.tt c).2.2.1,(e.st v c u).2.2.2.1,(e.tt c).2.2.2.2.1,(e.tt c).2.2.2.2.2.1,(e.tt c).2.2.2.2.2.2.1,(e.st v c u).2.2.2.2.2.2.2.1,(e.tt c).2.2.2.2.2.2.2.2)=e.tt c:=rfl;rw[T,pS,aS rfl];simp only[aO];obtain⟨f,j,t⟩:=DK (x:=[41]) av.Bz (by decide);rw[j,aS rfl];exact⟨f,rfl,(t.mono pt).s⟩
    |more op nd ds=>rw[hm] at l;rw[dx (tr hm),l.z.1];simp only[show¬((1:Int)=0) by decide,bG,fp,aO];obtain⟨f,ai,bf⟩:=GK (q:=false) (x:=[41]) E l G (by grind) (by decide);rw[ai,aS rfl];exact⟨f,rfl,bf⟩
    |bad q=>rw[hm] at l;rw[hS (vI hm),l.1];simp only[show¬((2:Int)=0) by decide,bG,fp,aO];rw[sG l,aS rfl];exact⟨_,rfl,l.mono G⟩
    |deep q=>rw[hm] at l;rw[km (vJ hm),l.1];simp only[show¬((2:Int)=0) by decide,bG,fp,aO];rw[sG l,aS rfl];exact⟨_,rfl,l.mono G⟩
 ·rw[dx (op:=[]) (by rw[jC O];rfl)];unfold A4;have P:((e.tt F).1,(e.tt F).2.1,(e.tt F).2.2.1,(e.tt F).2.2.2.1,(e.tt F).2.2.2.2.1,(e.tt F).2.2.2.2.2.1,(e.tt F).2.2.2.2.2.2.1,(e.tt F).2.2.2.2.2.2.2.1,(e.tt F).2.2.2.2.2.2.2.2)=e.tt F:=rfl;dsimp only;rw[P,pS,aS rfl];simp only[aO];obtain⟨f,j,t⟩:=DK (x:=[120,41]) aC.Bz (by decide);rw[j,aS rfl];exact⟨f,rfl,(t.mono pt).s⟩
end
theorem J_:(dt:H)≠[]/\dt.all gW=true:=by decide
def zW:H:=10::dt
def GM:H:=[32]++eb++[10]++dt
def BI:H:=[120,32]++eb++[10]++dt
theorem apB(f:σ->ab (σ⊕α))(x:H):∀(bF:Nat)(s:σ)(r:H)(F:ag),r.length<=bF->(cD f s).aG x r F=cD (λs=>(f s).aG x) s r F:=by
 intro bF;induction bF with
 |zero=>
  intro s r F h;have Z:r.length=0:=by omega
  rw[cL];unfold ab.aG;rw[cL];cases M:f s r F with
  |ok y an b=>grind[dc]
  |more op nd ds=>rfl
  |bad q=>rfl
  |deep q=>rfl
 |succ bF c=>
  intro s r F h;rw[cL];unfold ab.aG;rw[cL];cases M:f s r F with
  |ok y an b=>
   cases y with
   |inl s'=>
    simp only[dc];by_cases aw:an.length<r.length
    ·rw[ba aw,ba aw];exact c s' an b (by omega)
    grind
   |inr a=>rfl
  |more op nd ds=>rfl
  |bad q=>rfl
  |deep q=>rfl
noncomputable def zX:aa->Option aa:=λx=>(ay (g_ x ([]) ([10,101,115,97,99]:H)) λ(a:aa)=>some a)
noncomputable def Ka(R:bl)(a:aa->Option aa):aa->Option aa:=λx=>
 (c1 ((decide (x.2.2.2.2.1=0))=true) (mA x) [] λ(b:H)=>(bif(bif(decide (x.2.2.2.2.1=0)) then(decide (b=([101,115,97,99]:H))) else false) then some (x.1,(W (x.2.1+4)),x.2.2.1,x.2.2.2.1,x.2.2.2.2.1,x.2.2.2.2.2.1,x.2.2.2.2.2.2.1,x.2.2.2.2.2.2.2.1,x.2.2.2.2.2.2.2.2) else(bif(decide (x.2.2.2.2.1=0)) then(ay (IU R x) λ(c:aa)=>a c) else a x)))
noncomputable def Kb(R:bl)(b:aa->Option aa):aa->Option aa:=λa=>
 (c1 ((decide (a.2.2.2.2.1=0))=true) (g9 a) false λ(c:Bool)=>(bif(bif(decide (a.2.2.2.2.1=0)) then c else false) then(ay (h2 a ([])) λ(d:aa)=>Ka R b d) else Ka R b a))
theorem acf(R:bl)(j k:aa->Option aa)(x:aa):IV R j k x=(bif(decide (x.2.2.2.2.1=0)) then(ay (pJ x) λ(a:aa)=>Kb R k a) else j x):=rfl
noncomputable def yi(R:bl):aa->Option aa:=λx=>
 (bif(!(decide (x.2.2.2.2.1=0))) then(ay (g_ x ([]) ([32,105,110,10,101,115,97,99]:H)) λ(b:aa)=>some b) else(ay (mA x) λ(c:H)=>(bif(!(decide (c=([105,110]:H)))) then(ay (ih x x.2.1) λ(a:aa)=>some (a.1,a.2.1,a.2.2.1,x.2.2.2.1,a.2.2.2.2.1,a.2.2.2.2.2.1,a.2.2.2.2.2.2.1,x.2.2.2.2.2.2.2.1,a.2.2.2.2.2.2.2.2)) else(fixF (IV R zX) bB (x.1,(W (x.2.1+2)),x.2.2.1,x.2.2.2.1,x.2.2.2.2.1,x.2.2.2.2.2.1,x.2.2.2.2.2.2.1,x.2.2.2.2.2.2.2.1,x.2.2.2.2.2.2.2.2)))))
noncomputable def Kc(R:bl):aa->Option aa:=λb=>
 (bif(decide (b.2.2.2.2.1=0)) then(ay (pJ b) λ(a:aa)=>(c1 ((decide (a.2.2.2.2.1=0))=true) (g9 a) false λ(c:Bool)=>(bif(bif(decide (a.2.2.2.2.1=0)) then c else false) then(ay (h2 a ([])) λ(d:aa)=>yi R d) else yi R a))) else yi R b)
noncomputable def Vd(R:bl):aa->Option aa:=λx=>
 (ay (g9 x) λ(b:Bool)=>(bif b then(ay (h2 x ([120,32,105,110,10,101,115,97,99]:H)) λ(c:aa)=>some c) else(ay (xJ x) λ(d:Bool)=>(bif d then(ay (ih x x.2.1) λ(a:aa)=>some (a.1,a.2.1,a.2.2.1,x.2.2.2.1,a.2.2.2.2.1,a.2.2.2.2.2.1,a.2.2.2.2.2.2.1,x.2.2.2.2.2.2.2.1,a.2.2.2.2.2.2.2.2)) else(ay (rM R x) λy=>Kc R y.2.2)))))
theorem apC(R:bl)(I:aa):IY R I=ay (h1 I) λa=>Vd R (a.1,a.2.1,a.2.2.1,I.2.2.2.1,a.2.2.2.2.1,a.2.2.2.2.2.1,a.2.2.2.2.2.2.1,I.2.2.2.2.2.2.2.1,a.2.2.2.2.2.2.2.2):=rfl
theorem GN{b:ag}(h:cJ e r b)(c:eA F<=100*e.S.length+800)(d:x.length<=100):∃a,h2 (e.tt F) x=some a/\oU e r (b8 [] F x).1 (b8 [] F x).2 a:=by
 have h0:=h.b4;have f:=uA F;have g:=zL x [] F;refine⟨(e.S,(e.S.length:Int),e.ne,(b8 [] F x).2,1,0,(b8 [] F x).1,[],true),?_,rfl,rfl,rfl,⟨rfl,?_,?_,?_,?_⟩,?_⟩
 ·unfold h2 a6 cn.tt;simp only[bz,aO];rw[DG _ _ _ _ _ _ _ _ _ _ (by omega) (by grind) (by omega),aS rfl]
 ·grind[ax]
 ·grind
 ·grind
 ·simp
 simp
theorem apD{l:dD}(aB:l.dl=D)(aw:zM l)(t:Tok):aK 50 (BG l D t):=by subst aB;exact(aK.ite (aK.cM _) (aK.ret _)).N λ_=>((aK.uk aw).mono (by decide)).N λ_=>(aw.ls _ _).N λ_=>(aK.c4 (by simp)).N λt=>aK.ite (aK.cM _) (aK.ret _)
section
variable(bm:ph R n)(hD:ll R n)(bj:e.ne=30- (n:Int))
include bm hD bj
theorem apE{st:aa}(h:cJ e r F)(j:gJ e r F st)(Y:bg r=some r):bR false e r (BG (aW true n) (a9 true n) (ar r) r F) (λst=>st) (λ_ _ _=>True) (IU R st):=by
 unfold BG;rw[apx];obtain⟨al,rfl,k⟩:=j;rw[sF h,aS rfl];by_cases a:bt r=[40]
 ·have b:ar r= .op [40]:=(mQ (by simp)).2 a;simp only[a,b,bz,aO,c9];obtain⟨q,rfl⟩:=(ib b).2.1;rw[aJ (show bV 1 ([40]++q) F= .ok () q F from rfl)];have c:q<:+[40]++q:=gq _ q;have l:=h.uD (by simp) (by decide);obtain⟨d,m,i⟩:=yh (h.mono c) (st:=e.st q F al) ⟨al,rfl,λf=>absurd f l⟩;have o:h1 ((e.st ([40]++q) F al).1,W ((e.st ([40]++q) F al).2.1+1),(e.st ([40]++q) F al).2.2.1,(e.st ([40]++q) F al).2.2.2.1,(e.st ([40]++q) F al).2.2.2.2.1,(e.st ([40]++q) F al).2.2.2.2.2.1,(e.st ([40]++q) F al).2.2.2.2.2.2.1,(e.st ([40]++q) F al).2.2.2.2.2.2.2.1,(e.st ([40]++q) F al).2.2.2.2.2.2.2.2)=some d:=by rw[<-m];exact k2 h1 (ts h 1 rfl)
  rw[o,aS rfl];have g:J8 R (e.st ([40]++q) F al) d=fixF (A4 R (zV R)) bB d:=by unfold J8;rcases i with⟨p,s, -,rfl, -⟩|⟨-,rfl⟩<;>rfl
  rw[g];exact(ace (r0:=[40]++q) bm hD bj (h.mono c) i).mono c
 ·have b:ar r≠ .op [40]:=λf=>a ((mQ (by simp)).1 f);simp only[a,b,bG,aY,cZ];rw[J6];have g:J8 R (e.st r F al) (e.st r F al)=fixF (A4 R (zV R)) bB (e.st r F al):=rfl;rw[g];exact ace (r0:=r) bm hD bj h (.inl ⟨r,al,Y,rfl,k,h,gr,Y⟩)
omit bm hD bj in
theorem Ve{k:aa->Option aa}{x:aa}(h:x.2.2.2.2.1≠0):Ka R k x=k x:=by unfold Ka;simp_all[c1]
omit bm hD bj in
theorem Vf{k:aa->Option aa}{x:aa}(h:x.2.2.2.2.1≠0):Kb R k x=k x:=by unfold Kb;simp only[h,bG,c1,fR,cZ,aY];exact Ve h
theorem apF{st:aa}(h:cJ e r F)(J:gJ e r F st):bR false e r ((nn (aW true n) (a9 true n)).aG zW r F) (λst=>st) (λ_ _ _=>True) (fixF (IV R zX) bB st):=by
 rw[apv,apB _ _ _ _ _ _ (cS _)];refine bR.rep (en:=λ_ r F x=>gJ e r F x) (λk s r F x p w K az=>?_) bB () r F _ (wV h) h J
 have m:∀x:aa,x.2.2.2.2.1≠0->k x=zX x:=by intro x w;obtain⟨k',M⟩:=K x;simp_all[acf]
 have L:zW.length<=100:=by decide
 have y:∀{an:H}{nd:H}{ds:ag}{st:aa}{op:bs},an<:+r->jh false e an nd ds st->nd.length+eA ds<=100*e.S.length+500->pU (aW true n) (a9 true n) s r F= .more op nd ds->bR false e r (dc (λs=>(pU (aW true n) (a9 true n) s).aG zW) r ((pU (aW true n) (a9 true n) s).aG zW r F)) (λst=>st) (λ_ _ _=>True) (k st):=by intro an nd ds st op M U O P;rw[tr P,m st (by rw[U.z.1];decide)];obtain⟨z,Q,S⟩:=GK (q:=false) (x:=zW) (p.mono M) U M O L;unfold zX;rw[show([10,101,115,97,99]:H)=zW from rfl,Q];exact⟨z,rfl,S⟩
 rw[acf,w.eta.2.2.2.2.1];simp only[bz,aO];obtain⟨Z,T,f⟩:=Gu p w;rw[T,aS rfl];have V:=aK.low (aK.lines (c:=0)) p;cases hm:cQ r F with
 |ok a an i=>
  rw[hm] at f;obtain⟨t,av,a3,u,fh⟩:=f;obtain⟨al,rfl,W⟩:=a3;unfold Kb;have v:(e.st an i al).2.2.2.2.1=0:=rfl;rw[v,rk,gI];simp only[bz,c9,aO];by_cases A:an=[]
  ·subst A;simp only[bz,aO];obtain⟨z,B,o⟩:=vH (al:=al) (x:=[]) av (by decide);rw[B,aS rfl,Ve (by rw[o.1];decide)];have g:pU (aW true n) (a9 true n) s r F= .more [] [] i:=by unfold pU;rw[aJ hm,aJ (bL u)];rfl
   exact y t o.s (by have:=av.kk;show([]:H).length+eA i<=_;omega) g
  ·simp only[A,bG,aY];unfold Ka;rw[v,wW av,gI];simp only[bz,c9,aO];have D:=h.nl.iT av.sfx;have X:ar an≠ .eof:=λC=>A (jd.1 C);by_cases aB:jG an=[101,115,97,99]
   ·have E:=(sD D J_.1 J_.2).1 aB;simp only[aB,bz,aO];obtain⟨q,rfl⟩:=(q8 E).1;have G:q<:+dt++q:=gq _ q;have g:pU (aW true n) (a9 true n) s r F= .ok (.inr ()) q i:=by unfold pU;rw[aJ hm,aJ (bL u),E];rfl
    rw[qA g];exact⟨_,k2 some (ts av 4 rfl),G.trans t,av.mono G,⟨al,rfl,λC=>absurd C (av.uD (by decide) (by decide))⟩,trivial⟩
   ·have bh:cm (ar an) dt=false:=by rw[<-JY D J_.1 J_.2];exact e3 aB
    simp only[aB,bG,aY];have j:pU (aW true n) (a9 true n) s r F=N (BG (aW true n) (a9 true n) (ar an)) (λ_=>aU (.inl ())) an i:=by unfold pU;rw[aJ hm,aJ (bL u),aM X,aM (by grind)]
    have d:=apE bm hD bj av ⟨al,rfl,W⟩ u;obtain⟨b,I,d⟩:=d;rw[I,aS rfl];have Y:∀op nd ds,BG (aW true n) (a9 true n) (ar an) an i= .more op nd ds->nd.length+eA ds<=100*e.S.length+50:=aK.low (apD (xZ true n) (tk true n) _) av
    cases l:BG (aW true n) (a9 true n) (ar an) an i with
    |ok av aF ey=>rw[l] at d;obtain⟨dX,fS,jg,_⟩:=d;rw[aJ l] at j;have aw:=apw (s':=()) j;rw[qA j];grind[bR.inl]
    |more op nd ds=>grind[dx]
    |bad q=>rw[l] at d;rw[hS l] at j;rw[vI j];rw[m b (by rw[d.1];decide)];unfold zX;rw[sG d];exact⟨_,rfl,d.mono t⟩
    |deep q=>rw[l] at d;rw[km l] at j;rw[vJ j];rw[m b (by rw[d.1];decide)];unfold zX;rw[sG d];exact⟨_,rfl,d.mono t⟩
 |more op nd ds=>
  rw[hm] at f;have g:pU (aW true n) (a9 true n) s r F= .more op nd ds:=by unfold pU;grind[dx]
  have I:=V _ _ _ hm;rcases f with f|⟨_,rfl,rfl⟩
  ·rw[Vf (by grind)];exact y List.suffix_rfl (.inl f) (by omega) g
  ·unfold Kb;have v:(e.tt ds).2.2.2.2.1=0:=rfl;rw[v,pS,gI];simp only[decide_true,if_true,cond_true];obtain⟨z,B,o⟩:=GN (F:=ds) (x:=[]) p (by omega) (by simp);rw[B,aS rfl,Ve (by rw[o.1];decide)];exact y gr o.s (by show([]:H).length+eA ds<=_;omega) g
 |bad q=>
  rw[hm] at f;have g:pU (aW true n) (a9 true n) s r F= .bad q:=by simp_all[pU,hS]
  rw[vI g,Vf (by rw[f.1];decide),m _ (by rw[f.1];decide)];unfold zX;rw[sG f];exact⟨_,rfl,f⟩
 |deep q=>
  rw[hm] at f;have g:pU (aW true n) (a9 true n) s r F= .deep q:=by simp_all[pU,km]
  rw[vJ g,Vf (by rw[f.1];decide),m _ (by rw[f.1];decide)];unfold zX;rw[sG f];exact⟨_,rfl,f⟩
end
def qB(D:ab Unit):ab Tok:=N (cR D) λ_=>N cQ λ_=>N (bN []) λt=>if t= .eof then b5 [] else aU t
theorem apG(l:dD)(D:ab Unit):q5 l D=N (bN BI) λt=>match t with
 | .eof=>b5 BI
 | .word _ _=>N ((qB D).aG GM) λt=>if cm t eb then N (bV 2) λ_=>(nn l D).aG zW else b6
 |_=>b6:=rfl
section
variable(bm:ph R n)(hD:ll R n)(bj:e.ne=30- (n:Int))
theorem Ou{nd:H}{st:aa}{b:ag}(h0:cJ e r b)(hm:jh false e r nd ds st)(Z:r<:+r0)(c:nd.length+eA ds<=100*e.S.length+500):∃a,yi R st=some a/\jh false e r0 (b8 nd ds GM).1 (b8 nd ds GM).2 a:=by obtain⟨a,d,f⟩:=GK (q:=false) (x:=GM) h0 hm Z c (by decide);unfold yi;rw[hm.z.1];simp only[show¬((1:Int)=0) by decide,bG,fp,aO];rw[show([32,105,110,10,101,115,97,99]:H)=GM from rfl,d];exact⟨a,rfl,f⟩
theorem Ov{st:aa}(hm:js e r st):yi R st=some st:=by unfold yi;rw[hm.1];simp only[show¬((2:Int)=0) by decide,bG,fp,aO];rw[sG hm];rfl
theorem Vg{st:aa}(hm:st.2.2.2.2.1≠0):Kc R st=yi R st:=by simp_all[Kc]
include bm hD bj
theorem apH{st:aa}(h:cJ e r F)(d:gJ e r F st)(h0:r<:+r0)(Y:bg r=some r)(Z:r≠[]):bR false e r0 ((if cm (ar r) eb then N (bV 2) λ_=>(nn (aW true n) (a9 true n)).aG zW else b6:ab Unit) r F) (λst=>st) (λ_ _ _=>True) (yi R st):=by
 obtain⟨al,rfl,k⟩:=d;have f:(e.st r F al).2.2.2.2.1=0:=rfl;unfold yi;rw[f,wW h,aS rfl];simp only[bz,hU,aY];have a:=h.nl.iT h.sfx;by_cases aB:jG r=[105,110]
 ·have g:=(sD a BD.1 BD.2).1 aB;simp only[aB,bz,hU,aY];have bh:cm (ar r) eb=true:=by grind[cm]
  rw[ba bh];obtain⟨q,rfl⟩:=(q8 g).1;rw[aJ (show bV 2 (eb++q) F= .ok () q F from rfl)];have b:q<:+eb++q:=gq _ q;have aq:=apF bm hD bj (h.mono b) (st:=e.st q F al) ⟨al,rfl,λi=>absurd i (h.uD (by decide) (by decide))⟩;refine bR.et (aq.mono (b.trans h0)) ?_;exact k2 (fixF (IV R zX) bB) (ts h 2 rfl)
 ·have bh:cm (ar r) eb=false:=by rw[<-JY a BD.1 BD.2];exact e3 aB
  simp only[aB,bG,fp,aO];rw[aM (by grind)];obtain⟨l,c,j⟩:=qz (al:=al) (e.st r F al).2.1 h h0;rw[c,aS rfl];exact⟨_,rfl,by cases c;exact j⟩
theorem apI{tr0:Bool}(h:cJ e r F)(Z:r<:+r0){w:H}{p:Bool}(P:ar r= .word w p):bR false e r0 (N ((qB (a9 true n)).aG GM) (λt=>if cm t eb then N (bV 2) λ_=>(nn (aW true n) (a9 true n)).aG zW else b6) r F) (λst=>st) (λ_ _ _=>True) (ay (rM R (e.st r F tr0)) λy=>Kc R y.2.2):=by
 have b:=Gz hD bj (tr0:=tr0) h;have Q:=aK.low (aK.cR (xZ true n▸(tk true n).dl)) h;obtain⟨⟨S,T,U⟩,D,b⟩:=b;rw[D,aS rfl];dsimp only at b⊢;cases hm:cR (a9 true n) r F with
 |ok a E G=>
  rw[hm] at b;obtain⟨l,av,a3, -, -, -⟩:=b;unfold Kc;rw[a3.eta.2.2.2.2.1];simp only[bz,aO];obtain⟨V,I,d⟩:=Gu av a3;rw[I,aS rfl];have v:=aK.low (aK.lines (c:=0)) av;cases g:cQ E G with
  |ok W m o=>
   rw[g] at d;obtain⟨e_,s,J,z,X⟩:=d;obtain⟨al,rfl,K⟩:=J;have A:(e.st m o al).2.2.2.2.1=0:=rfl;rw[A,rk,gI];simp only[bz,c9,aO];by_cases u:m=[]
   ·subst u;simp only[bz,aO];obtain⟨L,B,C⟩:=vH (al:=al) (x:=[]) s (by decide);rw[B,aS rfl];have f:qB (a9 true n) r F= .more [] [] o:=by unfold qB;rw[aJ hm,aJ g,aJ (bL z)];rfl
    rw[dx (tr f)];have:=s.kk;obtain⟨i,j,k⟩:=Ou (R:=R) s C.s (e_.trans (l.trans Z)) (by show([]:H).length+eA o<=_;omega);exact⟨i,j,k⟩
   ·simp only[u,bG,aY];have M:ar m≠ .eof:=λO=>u (jd.1 O);have f:qB (a9 true n) r F= .ok (ar m) m o:=by unfold qB;rw[aJ hm,aJ g,aJ (bL z),aM M];rfl
    rw[aJ (qA f)];exact apH bm hD bj s ⟨al,rfl,K⟩ (e_.trans (l.trans Z)) z u
  |more op nd ds=>
   rw[g] at d;have f:qB (a9 true n) r F= .more op nd ds:=by unfold qB;grind[aJ,dx]
   rw[dx (tr f)];have Y:=v _ _ _ g;rcases d with d|⟨_,rfl,rfl⟩
   ·rw[d.1];simp only[show¬((1:Int)=0) by decide,bG,c1,fR,cZ,aY];obtain⟨i,j,k⟩:=Ou (R:=R) av (.inl d) (l.trans Z) (by omega);exact⟨i,j,k⟩
   ·have A:(e.tt ds).2.2.2.2.1=0:=rfl;rw[A,pS,gI];simp only[bz,c9,aO];obtain⟨L,B,C⟩:=GN (F:=ds) (x:=[]) av (by omega) (by simp);rw[B,aS rfl];obtain⟨i,j,k⟩:=Ou (R:=R) av C.s (l.trans Z) (by show([]:H).length+eA ds<=_;omega);exact⟨i,j,k⟩
  |bad q=>
   rw[g] at d;have f:qB (a9 true n) r F= .bad q:=by unfold qB;grind[aJ,hS]
   rw[hS (vI f),d.1];simp only[show¬((2:Int)=0) by decide,bG,c1,fR,cZ,aY];rw[Ov d];exact⟨_,rfl,d.mono (l.trans Z)⟩
  |deep q=>
   rw[g] at d;have f:qB (a9 true n) r F= .deep q:=by unfold qB;grind[aJ,km]
   rw[km (vJ f),d.1];simp only[show¬((2:Int)=0) by decide,bG,c1,fR,cZ,aY];rw[Ov d];exact⟨_,rfl,d.mono (l.trans Z)⟩
 |more op nd ds=>
  rw[hm] at b;have f:qB (a9 true n) r F= .more op nd ds:=by unfold qB;rw[dx hm]
  rw[dx (tr f),Vg (by rw[b.z.1];decide)];obtain⟨i,j,k⟩:=Ou (R:=R) h b Z (by grind);exact⟨i,j,k⟩
 |bad q=>
  rw[hm] at b;have f:qB (a9 true n) r F= .bad q:=by simp_all[qB,hS]
  rw[hS (vI f),Vg (by rw[b.1];decide),Ov b];exact⟨_,rfl,b.mono Z⟩
 |deep q=>
  rw[hm] at b;have f:qB (a9 true n) r F= .deep q:=by simp_all[qB,km]
  rw[km (vJ f),Vg (by rw[b.1];decide),Ov b];exact⟨_,rfl,b.mono Z⟩
theorem apJ{st:aa}(h:cJ e r F)(q:gJ e r F st):bR false e r (q5 (aW true n) (a9 true n) r F) (λst=>st) (λ_ _ _=>True) (IY R st):=by
 rw[apG,apC];obtain⟨al,rfl,s⟩:=q;rcases x8 h ⟨al,rfl,s⟩ with⟨a,v,g,i,t,j,l,y⟩|⟨g,i⟩
 ·rw[i,aS rfl,aJ (bL g)];obtain⟨b,rfl,z⟩:=t;have k:((e.st a F b).1,(e.st a F b).2.1,(e.st a F b).2.2.1,(e.st r F al).2.2.2.1,(e.st a F b).2.2.2.2.1,(e.st a F b).2.2.2.2.2.1,(e.st a F b).2.2.2.2.2.2.1,(e.st r F al).2.2.2.2.2.2.2.1,(e.st a F b).2.2.2.2.2.2.2.2)=e.st a F b:=rfl;rw[k];unfold Vd;rw[rk,aS rfl];by_cases Z:a=[]
  ·subst Z;simp only[bz,aO];obtain⟨d,c,f⟩:=vH (al:=b) (x:=BI) j (by decide);rw[show([120,32,105,110,10,101,115,97,99]:H)=BI from rfl,c,aS rfl];exact⟨d,rfl,(f.mono l).s⟩
  ·simp only[Z,bG,aY];rw[Oe j Z,aS rfl];have m:∃d,ih (e.st a F b) (e.st a F b).2.1=some d/\js e r d:=qz _ j l
   have A:ar a≠ .eof:=λu=>Z (jd.1 u);cases B:ar a with
   |eof=>grind
   |line=>simp only[aO];obtain⟨d,c,f⟩:=m;rw[c,aS rfl];exact⟨_,rfl,by cases c;exact f⟩
   |op o=>simp only[aO];obtain⟨d,c,f⟩:=m;rw[c,aS rfl];exact⟨_,rfl,by cases c;exact f⟩
   |word w p=>simp only[aY];grind[apI]
 ·rw[i,aS rfl,dx (op:=[]) (nd:=(b8 [] F BI).1) (ds:=(b8 [] F BI).2) (by rw[jC g];rfl)];have k:((e.tt F).1,(e.tt F).2.1,(e.tt F).2.2.1,(e.st r F al).2.2.2.1,(e.tt F).2.2.2.2.1,(e.tt F).2.2.2.2.2.1,(e.tt F).2.2.2.2.2.2.1,(e.st r F al).2.2.2.2.2.2.2.1,(e.tt F).2.2.2.2.2.2.2.2)=e.tt F:=rfl;rw[k];unfold Vd;rw[pS,aS rfl];simp only[aO];obtain⟨d,c,f⟩:=DK (x:=BI) h.Bz (by decide);rw[show([120,32,105,110,10,101,115,97,99]:H)=BI from rfl,c,aS rfl];exact⟨d,rfl,(f.mono pt).s⟩
end
theorem Ow:(hQ:H)≠[]/\hQ.all gW=true:=by decide
theorem DR:(ea:H)≠[]/\ea.all gW=true:=by decide
theorem Vh:(gy:H)≠[]/\gy.all gW=true:=by decide
theorem Vi:(h_:H)≠[]/\h_.all gW=true:=by decide
theorem Ox:([125]:H)≠[]/\([125]:H).all gW=true:=by decide
theorem Vj(t:Tok)(h:dC .pL t=true):∃w,t= .word w true/\w≠[]/\w.all gW=true/\(w=h_\/w=gy\/w=ea):=by
 simp only[dC,yx] at h;rcases h with(h|h)|h
 ·exact⟨h_,GH h,Vi.1,Vi.2,.inl rfl⟩
 ·exact⟨gy,GH h,Vh.1,Vh.2,.inr (.inl rfl)⟩
 ·exact⟨ea,GH h,DR.1,DR.2,.inr (.inr rfl)⟩
theorem apK{β:Type}{kw y:H}{K:ab β}(aq:c≠ .text)(b:∀t,dC c t=cm t kw)(e:kw≠[]/\kw.all gW=true)(f:cx r):
  N (((aW true m).ls c no).aG x) (λ_=>N ((cI kw).aG y) (λ_=>K)) r F=N (N (((aW true m).ls c no).aG x) (λ_=>tq)) (λ_=>K) r F:=by
 rw[<-Oh aq b e f];cases hm:(((aW true m).ls c no).aG x) r F with
 |ok a an g=>
  rw[aJ hm,aJ hm];have d:=hn.1 hm;obtain⟨cX,eW⟩:=Bt true m;rw[eW] at d;obtain⟨h,i⟩:=x1 aq d;rw[b] at i;have j:ar an= .word kw true:=by grind[cm]
  have:=GF (F:=g) h j;grind[aJ,qA]
 |more op nd ds=>grind[dx]
 |bad q=>grind[hS]
 |deep q=>grind[km]
def Vk:H:=[10]++hQ++[32,120,10]++ea
def yj:H:=10::ea
def Oy(l:dD):Unit->ab (Unit⊕Unit):=λ_=>N ((l.ls .rT false).aG Vk) λ_=>N (cI hQ) λ_=>N ((l.ls .pL false).aG yj) λ_=>
    N (bN []) λt=>if cm t h_ then N (cI h_) λ_=>aU (.inl ()) else
     if cm t gy then N (cI gy) λ_=>N ((l.ls .ko false).aG yj) λ_=>N (cI ea) λ_=>aU (.inr ()) else N (cI ea) λ_=>aU (.inr ())
theorem apL(l:dD):q4 l=cD (Oy l) ():=rfl
theorem apM{s':Unit}{a:ag}(h:Oy (aW true n) () r F= .ok (.inl s') r' a):r'.length<r.length:=(Tv (rW true n)).lt (s:=()) h
def Oz(l:dD):ab (Unit⊕Unit):=N ((l.ls .pL false).aG yj) λ_=>
    N (bN []) λt=>if cm t h_ then N (cI h_) λ_=>aU (.inl ()) else
     if cm t gy then N (cI gy) λ_=>N ((l.ls .ko false).aG yj) λ_=>N (cI ea) λ_=>aU (.inr ()) else N (cI ea) λ_=>aU (.inr ())
def Vl(l:dD):ab (Unit⊕Unit):=N (N ((l.ls .pL false).aG yj) λ_=>tq) λa=>if a=h_ then aU (.inl ()) else if a=gy then N (N ((l.ls .ko false).aG yj) λ_=>tq) λ_=>aU (.inr ()) else aU (.inr ())
theorem apN{s:Unit}(a:cx r):Oy (aW true n) s r F=N (N (((aW true n).ls .rT false).aG Vk) λ_=>tq) (λ_=>Oz (aW true n)) r F:=by show N (((aW true n).ls .rT false).aG Vk) (λ_=>N (cI hQ) λ_=>Oz (aW true n)) r F=_;exact Oh (by simp) ab1 Ow a
theorem apO{w:H}(a:cx r)(b:w≠[]/\w.all gW=true)(c:ar r= .word w true):tq r F= .ok w (r.drop w.length) F:=by grind[sD,tq]
theorem apP(g:cx r):Oz (aW true n) r F=Vl (aW true n) r F:=by
 unfold Oz Vl;rw[lg];cases hm:(((aW true n).ls .pL false).aG yj) r F with
 |ok a an h=>
  rw[aJ hm,aJ hm];have f:=hn.1 hm;have Y:=((rW true n).ls .pL false).sfx f;have b:=g.iT Y;obtain⟨cX,eW⟩:=Bt true n;rw[eW] at f;obtain⟨e,i⟩:=x1 (by simp) f;obtain⟨w,d,j,k,l⟩:=Vj _ i;rw[aJ (bL e),aJ (apO b ⟨j,k⟩ d),d];rcases l with rfl|rfl|rfl
  ·rw[ba (by decide),ba rfl,aJ (GF e d)]
  ·rw[aM (by decide),ba (by decide),aM (by decide),ba rfl,aJ (GF e d)];have aB:cx (an.drop gy.length):=b.iT (iI _ _);have:=Oh (β:=Unit⊕Unit) (m:=n) (no:=false) (x:=yj) (K:=aU (.inr ())) (c:= .ko) (by simp) ab3 DR aB (F:=h);omega
  ·rw[aM (by decide),aM (by decide),aM (by decide),aM (by decide),aJ (GF e d)]
 |more op nd ds=>grind[dx]
 |bad q=>grind[hS]
 |deep q=>grind[km]
noncomputable def DS(R:bl):H×aa->Option aa:=λy=>
 (bif(bif(decide (y.2.2.2.2.2.1=0)) then(decide (y.1=([101,108,115,101]:H))) else false) then(ay (q2 R y.2 ([([102,105]:H)]:bs) ([10,102,105]:H)) λ(b,a)=>some a) else some y.2)
theorem aci(R:bl)(j:H×aa->Option aa)(k:H×aa->Option aa)(y:H×aa):I4 R j k y=(bif(bif(decide (y.2.2.2.2.2.1=0)) then(decide (y.1=([101,108,105,102]:H))) else false) then
 (ay (q2 R y.2 ([([116,104,101,110]:H)]:bs) ([10,116,104,101,110,32,120,10,102,105]:H)) λz=>
 (bif(decide (z.2.2.2.2.2.1=0)) then
 (ay (q2 R z.2 ([([101,108,105,102]:H),([101,108,115,101]:H),([102,105]:H)]:bs) ([10,102,105]:H)) λv=>k v)
 else k (y.1,z.2)))
 else j y):=rfl
section
variable(bm:ph R n)(hD:ll R n)(bj:e.ne=30- (n:Int))
theorem OA{y:H×aa}(h:y.2.2.2.2.2.1≠0):DS R y=some y.2:=by simp_all[DS]
include bm bj
theorem apQ{st:aa}(h:cJ e r F)(E:gJ e r F st):bR false e r (q4 (aW true n) r F) (λst=>st) (λ_ _ _=>True) (fixF (I4 R (DS R)) bB (h_,st)):=by
 rw[apL];refine bR.rep (en:=λ_ r F (x:H×aa)=>x.1=h_/\gJ e r F x.2) (λk s r F x l i G az=>?_) bB () r F _ (wV h) h ⟨rfl,E⟩;obtain⟨Z,x⟩:=x;obtain⟨rfl,i⟩:=i;dsimp only at i
 have g:∀y:H×aa,(y.2.2.2.2.2.1≠0\/y.1≠h_)->k y=DS R y:=by
  intro y bw;obtain⟨k',M⟩:=G y;rw[M,aci];rcases bw with bw|bw
  ·grind
  ·have:decide (y.1=([101,108,105,102]:H))=false:=e3 bw;grind
 rw[aci];dsimp only;rw[i.eta.2.2.2.2.1,decide_eq_true (show(h_:H)=[101,108,105,102] from rfl)];simp only[bz,aO];have d:∀{u:H}{m:ag},Oy (aW true n) s r F= .ok (.inl ()) u m->u.length<r.length:=λI=>apM (s':=()) I
 rw[apN (l.nl.iT l.sfx)] at d⊢;refine bR.je (C:=dc _ r) dg.k (DL bm bj (c:= .rT) rfl (by simp) (GI ab1 Ow) (by decide) l i) (λa an aD b J s1 o z hb=>?_) (λop nd ds b _ p=>?_) (λb q=>?_)
 ·rw[aJ J] at d;rw[z.eta.2.2.2.2.1];simp only[bz,aO];rw[apP (o.nl.iT o.sfx)] at d⊢;unfold Vl at d⊢;have U:=(DL bm bj (c:= .pL) (x:=yj) rfl (by simp) (λt ao=>by grind[Vj]) (by decide) o z).mono s1;refine bR.je (C:=dc _ r) dg.k U (λav K L f N s2 v j O=>?_) (λop nd ds f _ A=>?_) (λf B=>?_)
  ·rw[aJ N] at d;obtain⟨rfl, -,P, -⟩:=O;obtain⟨w,Q,fC,iU,S⟩:=Vj _ P;cases Q;rcases S with tp|tp|tp
   ·rw[tp] at d⊢;rw[ba rfl] at d⊢;have aw:=d rfl;exact bR.inl aw (az () K L f s2 v aw ⟨tp,j⟩)
   ·rw[tp,aM (by decide),ba rfl,g f (.inr (by rw[tp];decide))];unfold DS;rw[j.eta.2.2.2.2.1,tp,decide_eq_true (show(gy:H)=[101,108,115,101] from rfl)];simp only[bz,aO];have T:=(DL bm bj (c:= .ko) (x:=yj) rfl (by simp) (GI ab3 DR) (by decide) v j).mono s2;refine bR.je (C:=dc _ r) dg.k T (λa3 cK b9 D NY V W X Y=>?_) (λop nd ds D _ n9=>?_) (λD kp=>?_)
    ·exact⟨_,rfl,V,W,X,trivial⟩
    ·grind
    grind
   ·rw[tp,aM (by decide),aM (by decide),g f (.inr (by rw[tp];decide))];unfold DS;rw[tp,e3 (show¬(ea:H)=[101,108,115,101] by decide)]
    have:∀b:Bool,(bif b then false else false)=false:=by decide
    rw[this];exact⟨_,rfl,s2,v,j,trivial⟩
  ·rw[g f (.inl (by rw[A.z.1];decide)),OA (by rw[A.z.1];decide)];grind
  ·rw[g f (.inl (by rw[B.1];decide)),OA (by rw[B.1];decide)];grind
 ·rw[p.z.1];simp only[show¬((1:Int)=0) by decide,bG,aY];rw[g _ (.inl (by show b.2.2.2.2.2.1≠0;rw[p.z.1];decide)),OA (by show b.2.2.2.2.2.1≠0;rw[p.z.1];decide)];grind
 ·rw[q.1];simp only[show¬((2:Int)=0) by decide,bG,aY];rw[g _ (.inl (by show b.2.2.2.2.2.1≠0;rw[q.1];decide)),OA (by show b.2.2.2.2.2.1≠0;rw[q.1];decide)];grind
end
theorem DT(m:Option α):ay m (λy=>some y)=m:=by cases m<;>rfl
def zY(l:dD)(w:H):ab Unit:=if w=[123] then N ((l.ls .pK false).aG [10,125]) λ_=>cI [125]
 else if w=j7 then q4 l
 else if w=mB then pM l l.dl
 else if w=oI then q5 l l.dl
 else N ((l.ls .pa false).aG dY) λ_=>h3 l dY
section
variable(bm:ph R n)(hD:ll R n)(bj:e.ne=30- (n:Int))
noncomputable def Vn(R:bl)(I:aa):Option aa:=
 (ay (q2 R I ([([100,111]:H)]:bs) ([10,100,111,32,120,10,100,111,110,101]:H)) λz=>(bif(decide (z.2.2.2.2.2.1=0)) then(ay (q2 R z.2 ([([100,111,110,101]:H)]:bs) ([10,100,111,110,101]:H)) λv=>some v.2) else some z.2))
theorem apS(R:bl)(I:aa)(w:H):C_ R I w=(bif(decide (w=([123]:H))) then(ay (q2 R I ([([125]:H)]:bs) ([10,125]:H)) λz=>some z.2) else
 (bif(bif(decide (w=([119,104,105,108,101]:H))) then(decide (w=([119,104,105,108,101]:H))) else(decide (w=([117,110,116,105,108]:H)))) then Vn R I else
 (bif(decide (w=([105,102]:H))) then fixF (I4 R (DS R)) bB (h_,I) else
 (bif(decide (w=([102,111,114]:H))) then(ay (I3 R I) λy=>some y) else
 (bif(decide (w=([99,97,115,101]:H))) then(ay (IY R I) λy=>some y) else some I))))):=by
 unfold C_ a6;cases decide (w=([123]:H)) with
 |true=>rfl
 |false=>cases decide (w=([119,104,105,108,101]:H))<;>rfl
include bm bj
theorem acj{st:aa}(h:cJ e r F)(i:gJ e r F st):bR false e r (N (((aW true n).ls .pa false).aG dY) (λ_=>h3 (aW true n) dY) r F) (λst=>st) (λ_ _ _=>True) (Vn R st):=by
 have j:N (((aW true n).ls .pa false).aG dY) (λ_=>h3 (aW true n) dY) r F=N (N (((aW true n).ls .pa false).aG dY) (λ_=>tq)) (λ_=>N (((aW true n).ls .done false).aG (10::hc)) λ_=>cI hc) r F:=by unfold h3;exact apK (by simp) ab4 wZ (h.nl.iT h.sfx)
 rw[j];unfold Vn;refine bR.je (C:=λx=>x) dg.id (DL bm bj (c:= .pa) rfl (by simp) (GI ab4 wZ) (by decide) h i) (λa an p b q s1 d f s=>?_) (λop nd ds b _ k=>?_) (λb l=>?_)
 ·rw[f.eta.2.2.2.2.1];simp only[bz,aO];rw[U1 (by simp) Oi GJ (d.nl.iT d.sfx)];refine bR.je (C:=λx=>x) dg.id ((DL bm bj (c:= .done) rfl (by simp) (GI Oi GJ) (by decide) d f).mono s1) (λa t u g v s2 m o w=>?_) (λop nd ds g _ y=>?_) (λg z=>?_)
  ·exact⟨_,rfl,s2,m,o,trivial⟩
  ·grind
  grind
 ·rw[k.z.1];grind
 ·rw[l.1];grind
include hD
theorem apT{st:aa}(h:cJ e r F)(b:gJ e r F st){w:H}(j:oJ w=true):bR false e r (zY (aW true n) w r F) (λst=>st) (λ_ _ _=>True) (C_ R st w):=by
 rw[apS];unfold zY;have f:w=j7\/w=ug\/w=FT\/w=mB\/w=oI\/w=[123]:=by grind[oJ]
 rcases f with rfl|rfl|rfl|rfl|rfl|rfl
 ·rw[aM (by decide),ba rfl];exact apQ bm bj h b
 ·rw[aM (by decide),aM (by decide),aM (by decide),aM (by decide)];exact acj bm bj h b
 ·rw[aM (by decide),aM (by decide),aM (by decide),aM (by decide)];exact acj bm bj h b
 ·rw[aM (by decide),aM (by decide),ba rfl,xZ];refine bR.et (apq bm hD bj h b h.sfx) ?_;exact DT _
 ·rw[aM (by decide),aM (by decide),aM (by decide),ba rfl,xZ];refine bR.et (apJ bm hD bj h b) ?_;exact DT _
 ·rw[ba rfl,U1 (by simp) ab2 Ox (h.nl.iT h.sfx)];refine bR.je (C:=λx=>x) dg.id (DL bm bj (c:= .pK) rfl (by simp) (GI ab2 Ox) (by decide) h b) (λa k l d m s2 g i o=>?_) (λop nd ds d _ p=>?_) (λd q=>?_)
  ·exact⟨_,rfl,s2,g,i,trivial⟩
  ·grind
  grind
end
def setAt(y:aa)(a:Int):aa:=(y.1,a,y.2.2.1,y.2.2.2.1,y.2.2.2.2.1,y.2.2.2.2.2.1,y.2.2.2.2.2.2.1,y.2.2.2.2.2.2.2.1,y.2.2.2.2.2.2.2.2)
noncomputable def BJ(R:bl)(nm:H):aa->Option aa:=λx=>
 (ay (g_ x nm ([])) λ(a:aa)=>(bif(decide (a.2.2.2.2.1=0)) then(ay (FK R (tn a)) λ(b:aa)=>some b) else some (tn a)))
noncomputable def ack(R:bl):aa->Option aa:=λx=>
 (ay (iz x) λ(c:H)=>(bif(decide (c=([40]:H))) then(ay (R.oA (setAt x (W (x.2.1+1))) ([41]:H) ([]:bs) true) λz=>(ay (g_ z.2 ([]) ([41]:H)) λ(b:aa)=>BJ R [40] (setAt b (W (b.2.1+1))))) else(ay (mA x) λ(a:H)=>(ay (C_ R (setAt x (W (x.2.1+(a.length:Int)))) a) λ(d:aa)=>BJ R a d))))
theorem apU(R:bl)(I:aa):A6 R I=(ay (A3 I I.2.1) λz=>
 (bif(!z.1) then
 some (z.2.1,z.2.2.1,z.2.2.2.1,I.2.2.2.1,z.2.2.2.2.2.1,z.2.2.2.2.2.2.1,z.2.2.2.2.2.2.2.1,I.2.2.2.2.2.2.2.1,z.2.2.2.2.2.2.2.2.2)
 else ack R (z.2.1,z.2.2.1,z.2.2.2.1,I.2.2.2.1,z.2.2.2.2.2.1,z.2.2.2.2.2.2.1,z.2.2.2.2.2.2.2.1,I.2.2.2.2.2.2.2.1,z.2.2.2.2.2.2.2.2.2))):=rfl
theorem acm{st:aa}{nm:H}(h:st.2.2.2.2.1=1)(af:nm≠[])(i:st.2.2.2.2.2.2.2.1.length<=2000000)(j:st.2.2.2.2.2.2.1.length+eA st.2.2.2.1<=1000000000):g_ st nm []=some (st.1,st.2.1,st.2.2.1,st.2.2.2.1,st.2.2.2.2.1,st.2.2.2.2.2.1,st.2.2.2.2.2.2.1,[nm]++st.2.2.2.2.2.2.2.1,st.2.2.2.2.2.2.2.2):=by
 obtain⟨a,b,c,d,vE,f,g,op,al⟩:=st;simp only at h i j⊢;subst h;have l:=uA d
 have k:∀e,xF (a,b,c,d,1,f,g,e,al) []=some (a,b,c,(b8 g d []).2,1,f,(b8 g d []).1,e,al):=λe=>DG _ _ _ _ _ _ _ _ _ _ (by simp) (by omega) (by omega)
 unfold g_ a6;simp only[bz,aO];simp only[af,bG,fp,aO];rw[b2 (by grind),k,aS rfl];rfl
theorem acn{q:H}{nd:H}{y:aa}{nm:H}(hm:oU e.up q nd ds y)(g:q<:+r)(aw:q.length<r.length)(Z:r<:+e.S)(h:e.S.length<=1000000)(i:nd.length+eA ds<=100*e.S.length+1000)(af:nm≠[])(a:Int)(j:y.2.1<=a/\a<=y.2.1+1):∃c,BJ R nm (setAt y a)=some c/\jh true e r nd ds c:=by
 obtain⟨M,U,f,b,k⟩:=hm;have d:=Z.length_le;have l:=b.op;unfold BJ;rw[acm (st:=setAt y a) M af (by show y.2.2.2.2.2.2.2.1.length<=_;omega) (by show y.2.2.2.2.2.2.1.length+eA y.2.2.2.1<=_;grind),aS rfl];show∃c,(bif decide (y.2.2.2.2.1=0) then _ else _)=some c/\_
 rw[M];simp only[show¬((1:Int)=0) by decide,decide_false,cond_false];refine⟨_,rfl,.inl ⟨M,U,f,⟨b.s,?_,?_,b.nd,?_⟩,?_⟩⟩
 ·show ax e.S r<=a;have:ax e.S r<=ax e.S q:=by grind[ax]
  have:=b.lo;have hu:ax e.up.S q=ax e.S q:=rfl;omega
 ·show a<=_;have:=b.bh;have hu:e.up.S=e.S:=rfl;grind
 ·show([nm]++y.2.2.2.2.2.2.2.1).length<=_;grind
 ·show _<=a;have hu:e.up.S=e.S:=rfl;grind
theorem OB{q:H}{y:aa}{nm:H}(hm:js e.up q y)(d:q<:+r)(aw:q.length<r.length)(a:Int)(f:y.2.1<=a/\a<=y.2.1+1):∃c,BJ R nm (setAt y a)=some c/\js e r c:=by
 obtain⟨M,b⟩:=hm;have g:=b.op;unfold BJ;rw[qx (st:=setAt y a) (by show y.2.2.2.2.1≠1;omega),aS rfl];show∃c,(bif decide (y.2.2.2.2.1=0) then _ else _)=some c/\_
 rw[M];simp only[show¬((2:Int)=0) by decide,bG,aY];refine⟨_,rfl,M,⟨b.s,?_,?_,b.nd,?_⟩⟩
 ·show ax e.S r<=a;have:ax e.S r<=ax e.S q:=by grind[ax]
  have:=b.lo;have hu:ax e.up.S q=ax e.S q:=rfl;omega
 ·show a<=_;have:=b.bh;have hu:e.up.S=e.S:=rfl;grind
 ·show y.2.2.2.2.2.2.2.1.length<=_;omega
theorem aco{q:H}{nm:H}(bj:e.ne=30- (n:Int))(af:n<=30):BJ R nm (e.up.st q F al)=FK R (e.st q F al):=by
 unfold BJ;rw[qx (by show(0:Int)≠1;decide),aS rfl];have h0:(e.up.st q F al).2.2.2.2.1=0:=rfl;rw[h0];simp only[bz,aO];have:tn (e.up.st q F al)=e.st q F al:=by
  show(e.S,ax e.S q,W (e.ne+1-1),F,(0:Int),(0:Int),([]:H),([]:bs),al)=_;have M:e.ne+1-1=e.ne:=by omega
  rw[M,dO (by omega) (by omega)];rfl
 grind[DT]
section
variable{R:bl}{n:Nat}(hp:∀m,n=m+1->ll R m/\ph R m)(hD:ll R n)(af:n<=30){e:cn}(bj:e.ne=30- (n:Int))
include hp hD af bj
theorem acp{r:H}{F:ag}{st:aa}(h:cJ e r F)(aP:gJ e r F st)(Y:bg r=some r)(aq:fJ (ar r)=true):bR true e r (N ((aW true n).cp (ar r)) (λ_=>gH (a9 true n)) r F) (λst=>st) (λ_ _ _=>True) (A6 R st):=by
 obtain⟨al,rfl,hL⟩:=aP;rw[apU];unfold A3;have dN:=h.nl.iT h.sfx;cases n with
 |zero=>
  have D:decide (30<=(e.st r F al).2.2.1)=true:=by show decide (30<=e.ne)=true;grind
  rw[D];have ah:(aW true 0).cp (ar r) r F= .deep r:=rfl;rw[km ah];obtain⟨st,j,c⟩:=qz (al:=al) ((e.st r F al).2.1) h gr;simp only[aO,tm];rw[j,aS rfl,aS rfl];exact⟨_,rfl,by cases j;exact c⟩
 |succ m=>
  obtain⟨N_,S⟩:=hp m rfl;have D:decide (30<=(e.st r F al).2.2.1)=false:=by show decide (30<=e.ne)=false;grind
  rw[D];simp only[aY,oV,hU];have vF:W ((e.st r F al).2.2.1+1)=e.ne+1:=dO (by show-_<=e.ne+1;omega) (by grind);rw[vF];have J0:((e.st r F al).1,(e.st r F al).2.1,e.ne+1,(e.st r F al).2.2.2.1,(e.st r F al).2.2.2.2.1,(e.st r F al).2.2.2.2.2.1,(e.st r F al).2.2.2.2.2.2.1,(e.st r F al).2.2.2.2.2.2.2.1,(e.st r F al).2.2.2.2.2.2.2.2)=e.up.st r F al:=rfl;rw[J0];unfold ack;rw[sF h.yb,aS rfl];have T:e.up.ne=30- (m:Int):=by show e.ne+1=_;omega
  have Gp:(aW true (m+1)).cp (ar r)=(hd (aW true m) (ar r)).named (mM (ar r)):=rfl;rw[Gp];by_cases B:bt r=[40]
  ·have U:ar r= .op [40]:=(mQ (by simp)).2 B;simp only[B,bz,aO];rw[U];obtain⟨q,rfl⟩:=(ib U).2.1;have f:q<:+[40]++q:=gq _ q;have aw:q.length<([40]++q).length:=by simp
   have E:=h.uD (by simp) (by decide);have k:=(h.mono f).yb;have G:setAt (e.up.st ([40]++q) F al) (W ((e.up.st ([40]++q) F al).2.1+1))=e.up.st q F al:=ts h.yb 1 rfl;rw[G];obtain⟨b,j,c⟩:=S.im e.up .paren false rfl T q F (e.up.st q F al) k ⟨al,rfl,λi=>absurd i E⟩;have wY:R.oA (e.up.st q F al) [41] [] true=some b:=j;rw[wY,aS rfl];have p:=aK.low ((tk true m).ls .paren false) k;have I:∀x,((hd (aW true m) (.op [40])).named x) ([40]++q) F=((N (((aW true m).ls .paren false).aG [41]) (λ_=>jr [41])).named x) q F:=λx=>rfl
   have J:∀(x:H),(N ((hd (aW true m) (.op [40])).named x) (λ_=>gH (a9 true (m+1)))) ([40]++q) F=N ((N (((aW true m).ls .paren false).aG [41]) (λ_=>jr [41])).named x) (λ_=>gH (a9 true (m+1))) q F:=λx=>rfl
   rw[J];have s:e.up.S=e.S:=rfl;cases az:(aW true m).ls .paren false q F with
   |ok a an l=>
    rw[az] at c;obtain⟨K,av,⟨o,a3,V⟩,fh⟩:=c;dsimp only at a3;have nw:=az;obtain⟨cX,eW⟩:=Bt true m;rw[eW] at az;obtain⟨hP,j3⟩:=x1 (by simp) az;have L:ar an= .op [41]:=by grind[dC]
    obtain⟨v,rfl⟩:=(ib L).2.1;have d:(N (((aW true m).ls .paren false).aG [41]) (λ_=>jr [41])).named (mM (.op [40])) q F= .ok () v l:=by grind[ab.named,aJ,qA,Bm]
    rw[aJ d];have oa:g_ b.2 [] [41]=some b.2:=qx (by rw[a3];show(0:Int)≠1;decide);rw[oa,aS rfl,a3];have X:v<:+[41]++v:=gq [41] v;have M:setAt (e.up.st ([41]++v) l o) (W ((e.up.st ([41]++v) l o).2.1+1))=e.up.st v l o:=ts av 1 rfl;rw[M,aco bj af];have tl:=av.uD (by simp) (by decide);exact(ab0 hD bj (av.uB.mono X) ⟨o,rfl,λi=>absurd i tl⟩).mono (X.trans (K.trans f))
   |more op nd ds=>
    rw[az] at c;have hb:=p _ _ _ az;rw[s] at hb;have d:(N (((aW true m).ls .paren false).aG [41]) (λ_=>jr [41])).named (mM (.op [40])) q F= .more ([40]::op) (b8 nd ds [41]).1 (b8 nd ds [41]).2:=by unfold ab.named;rw[dx (tr az)];rfl
    rw[dx d];obtain⟨Z,ai,O⟩:=x9 (e:=e.up) (nm:=[]) (x:=[41]) (an:=q) (r0:=q) c.z gr k.sfx (.inl rfl) (by grind) k.b4 (by simp);rw[ai,aS rfl];have Ot:=zL [41] nd ds;have t:=O.2.2.2.1.bh;have kB:=O.2.2.2.1.lo;have y:=f.length_le;have hle:=h.sfx.length_le;have lE:0<=ax e.up.S q:=by grind[ax]
    have nY:=h.b4;rw[s] at t;have z:W (Z.2.1+1)=Z.2.1+1:=dO (by omega) (by omega);rw[z];exact acn O f aw h.sfx h.b4 (by grind) (by simp) _ ⟨by omega,by omega⟩
   |bad u=>
    rw[az] at c;have d:(N (((aW true m).ls .paren false).aG [41]) (λ_=>jr [41])).named (mM (.op [40])) q F= .bad u:=by grind[ab.named,hS,vI]
    rw[hS d,sG c,aS rfl];have g:js e.up q b.2:=c;have t:=g.2.bh;have kB:=g.2.lo;have hle:=h.sfx.length_le;have y:=f.length_le;have lE:0<=ax e.up.S q:=by grind[ax]
    have nY:=h.b4;rw[s] at t;have z:W (b.2.2.1+1)=b.2.2.1+1:=dO (by omega) (by omega);rw[z];exact OB g f aw _ ⟨by omega,by omega⟩
   |deep u=>
    rw[az] at c;have d:(N (((aW true m).ls .paren false).aG [41]) (λ_=>jr [41])).named (mM (.op [40])) q F= .deep u:=by grind[ab.named,km,vJ]
    rw[km d,sG c,aS rfl];have g:js e.up q b.2:=c;have t:=g.2.bh;have kB:=g.2.lo;have hle:=h.sfx.length_le;have y:=f.length_le;have lE:0<=ax e.up.S q:=by grind[ax]
    have nY:=h.b4;rw[s] at t;have z:W (b.2.2.1+1)=b.2.2.1+1:=dO (by omega) (by omega);rw[z];exact OB g f aw _ ⟨by omega,by omega⟩
  ·have avt:ar r≠ .op [40]:=λi=>B ((mQ (by simp)).1 i);simp only[B,bG,aY];rw[wW h.yb,aS rfl]
   obtain⟨w,A,P⟩:∃w,ar r= .word w true/\oJ w=true:=by unfold fJ at aq;grind
   have C:w≠[]/\w.all gW=true:=by
    have hF:w=j7\/w=ug\/w=FT\/w=mB\/w=oI\/w=[123]:=by grind[oJ]
    rcases hF with rfl|rfl|rfl|rfl|rfl|rfl<;>decide
   have ah:=(sD dN C.1 C.2).2 A;rw[ah,A];have jj:=(q8 A).1;have lQ:=(q8 A).2;obtain⟨q,rfl⟩:=jj;have f:q<:+w++q:=gq _ q;have aw:q.length<(w++q).length:=by grind[List.length_pos_iff]
   have E:=h.uD C.1 lQ;have k:=(h.mono f).yb;have G:setAt (e.up.st (w++q) F al) (W ((e.up.st (w++q) F al).2.1+(w.length:Int)))=e.up.st q F al:=ts h.yb w.length rfl;rw[G];obtain⟨b,j,c⟩:=apT S N_ T k (st:=e.up.st q F al) ⟨al,rfl,λi=>absurd i E⟩ P;rw[j,aS rfl];have I:(hd (aW true m) (.word w true)) (w++q) F=zY (aW true m) w q F:=by show N (bV w.length) (λ_=>zY (aW true m) w) (w++q) F=_;rw[aJ (show bV w.length (w++q) F= .ok () q F from by simp[bV])]
   have p:=eu.kind (tk true m) (r:=w++q) (F:=F) (by omega);rw[A,I] at p;have s:e.up.S=e.S:=rfl;have sC:=h.kk;have Q:setAt b b.2.1=b:=rfl;cases az:zY (aW true m) w q F with
   |ok a an l=>
    rw[az] at c;obtain⟨K,av,⟨o,a3,V⟩,fh⟩:=c;have d:((hd (aW true m) (.word w true)).named (mM (.word w true))) (w++q) F= .ok () an l:=by grind[ab.named]
    rw[aJ d];dsimp only at a3;rw[a3,aco bj af];exact(ab0 hD bj av.uB ⟨o,rfl,V⟩).mono (K.trans f)
   |more op nd ds=>
    rw[az] at c p;simp only[eu] at p;have d:((hd (aW true m) (.word w true)).named (mM (.word w true))) (w++q) F= .more (w::op) nd ds:=by unfold ab.named;rw[I,az];rfl
    rw[dx d];have g:jh false e.up q nd ds b:=c;have:=acn (R:=R) (nm:=w) g.z f aw h.sfx h.b4 (by omega) C.1 b.2.1 ⟨by omega,by omega⟩;rw[Q] at this;exact this
   |bad u=>
    rw[az] at c;have d:((hd (aW true m) (.word w true)).named (mM (.word w true))) (w++q) F= .bad u:=by grind[ab.named]
    rw[hS d];have g:js e.up q b:=c;have:=OB (R:=R) (nm:=w) g f aw b.2.1 ⟨by omega,by omega⟩;rw[Q] at this;exact this
   |deep u=>
    rw[az] at c;have d:((hd (aW true m) (.word w true)).named (mM (.word w true))) (w++q) F= .deep u:=by grind[ab.named]
    rw[km d];have g:js e.up q b:=c;have:=OB (R:=R) (nm:=w) g f aw b.2.1 ⟨by omega,by omega⟩;rw[Q] at this;exact this
end
end Go.Eng
