/- Part 6 of what FnPrefix needs. No condition. -/
import Derived.Test.YthnjiffnjaaejaaGreatDoorFnPrefixE
set_option linter.all false
namespace Go.Eng
theorem apA{t:aa}(a:ih 3 t){n:Nat}(ax:8<=n):∀q,hO true n (rC++t++mh)≠ .deep q:=by
 obtain⟨m,rfl⟩:∃m,n=m+1:=⟨n-1,by omega⟩
 have b:=(TG 3).2 t a;have i:=Ni (X:=sD) (Nat.le_refl _) 3 (by decide) (m+1) (by show 1+6<=m+1;omega);have j:dx sD pN (t++mh):=apu b.1;have u:=i.rd (v:=mh) (ctx:= .text) (no:=true) (pd:=pN) 1 a.cc (iV.text apv) j;obtain⟨c,l,ad,x,y⟩:=a.cc;obtain⟨⟨k,g,o,A,B⟩,C⟩:=ad.aH.facts (cW l++mh);have d:t++mh=c++(cW l++mh):=by grind
 rw[<-d] at k g o;have h:(t++mh).length<([99,97,116]++([32,60,60,69]++(59::32::(t++mh)))).length:=by grind
 have he:rC++t++mh=[99,97,116]++([32,60,60,69]++(59::32::(t++mh))):=by rfl
 generalize t++mh=z at*;have e:au (59::32::z)= .op [59]:=Ng (by decide);have p:=hC.op (xt (32::z)) e (by decide) (by decide);obtain⟨D,f⟩:=nP (w:=[99,97,116]) (r:=[32,60,60,69]++(59::32::z)) (by decide) (by decide) (by decide) rfl;have e2:jf true (m+1) ([99,97,116]++([32,60,60,69]++(59::32::z))) []= .ok () (59::32::z) pN:=
  (aji f (by rfl) (apw p.pM (by simp) (xt _) e (by decide) (by decide)) (xt _) (by grind) (by grind) (by grind)).2
 have s:hO true (m+1) ([99,97,116]++([32,60,60,69]++(59::32::z)))=ca (ed (jf true (m+1)) .text true) 1 z pN:=by
  unfold hO;rw[EN,uw,aY (jv.2 (sk f (by grind))),cF,LI f (by grind) (by rfl),aY e2,aY (cA (xt _)),e];have:hQ .text 0 (.op [59]) (59::32::z) pN= .ok (.inl 1) z pN:=by unfold hQ;simp only;rw[if_pos (by simp),aY (show bZ 1 (59::32::z) pN= .ok () (32::z) pN from rfl),aY (sk (by grind[kP]) g)];rfl
  rw[this];show(if _ then ca (ed (jf true (m+1)) .text true) 1 z pN else .bad _)=_;grind
 grind[abo]
end Go.Eng
namespace Go.Eng
open Go Go.Proofs
theorem apD{s:aa}(b:(dv s).length<=1000000)(aH:∀q,hO false 30 (dv s)≠ .deep q):EB s=some (match hO false 30 (dv s) with| .ok a _ _=>(a:Int)|_=> -1):=by
 have h:=YY s b;unfold EB;cases aC:hO false 30 (dv s) with
 |ok a r pd=>simp_all[aO]
 |more op nd ds=>simp_all[aO]
 |bad r=>rw[aC] at h;obtain⟨_,op,h⟩:=h;simp_all[aO]
 |deep q=>grind
theorem abq{r:aa}{n:Nat}(ax:n<=30)(h:∀q,hO true n r≠ .deep q){fr:Bool}{m:Nat}(hm:n<=m):Af (hO true n r) (hO fr m r)/\∀q,hO fr m r≠ .deep q:=by grind[Af,aja]
def nZ(x:dt Nat):Int:=match x with| .ok a _ _=>(a:Int)|_=> -1
theorem Nj(t:aa):dv (t++[10])=t++[10]:=bm (by simp)
theorem apE(s:aa):(dv s).length<=s.length+1:=by grind[dv]
theorem apF(x0:aa)(b:x0.length<=1048576):∃T,EA x0=some T/\T.length<=470000/\(∀n,8<=n->∀q,hO true n (dv T)≠ .deep q)/\∃c z,dv T=c++z/\y4 c:=by
 obtain⟨t,T,ad,a,f,d⟩:=aov x0 b;refine⟨T,ad,?_⟩;have bq:=(TG 3).2 t a;rcases d with rfl|rfl
 ·have he:dv T=T++[10]:=aW bq.2.2;refine⟨by omega,λn ax=>?_,?_⟩
  ·grind[aps]
  ·obtain⟨c,l,e,g,h⟩:=a.cc;exact⟨c,cW l++[10],by grind,e.aH⟩
 ·have he:dv (rC++t++mh)=rC++t++mh:=by have:=Nj (rC++t++[10,98,111,100,121,10,69]);simp_all[mh]
  refine⟨by grind[rC,mh,List.length_cons],λn ax=>?_,?_⟩
  ·grind[apA]
  ·exact⟨[99],[97,116,32,60,60,69,59,32]++t++mh,by grind[rC],⟨_,_,rfl,by decide,by decide,by decide,by decide,by decide,.inr ⟨by decide,.inl (by decide)⟩⟩⟩
def uE(x:dt Nat):Int:=match x with| .ok _ _ _=>0| .more _ _ _=>1|_=>2
theorem Af.uE{x y:dt Nat}(h:Af x y)(a:∀q,x≠ .deep q):uE y=uE x:=by
 rcases h with⟨q,h⟩|rfl|⟨_,_,_,_,rfl,rfl⟩
 ·grind
 ·rfl
 ·rfl
theorem abr{s:aa}(b:(dv s).length<=1000000)(aH:∀q,hO false 30 (dv s)≠ .deep q):∃a:Int,Aa s=some (uE (hO false 30 (dv s)),a)/\(uE (hO false 30 (dv s))≠2->a=((dv s).length:Int)):=by
 have h:=YY s b;unfold Aa;cases aC:hO false 30 (dv s) with
 |ok a r pd=>rw[aC] at h;dsimp only at h;exact⟨_,by rw[h,aO rfl];rfl,λ_=>rfl⟩
 |more op nd ds=>rw[aC] at h;dsimp only at h;exact⟨_,by rw[h,aO rfl];rfl,λ_=>rfl⟩
 |bad r=>rw[aC] at h;obtain⟨_,op,h⟩:=h;exact⟨_,by rw[h,aO rfl];rfl,λc=>absurd rfl c⟩
 |deep q=>grind
theorem apG{s:aa}(d:(dv s).length<=1000000):∃a:Int,H4 s=some (uE (hO true 30 (dv s)),a):=by
 have h:=anS d;unfold H4;cases aC:hO true 30 (dv s) with
 |ok a r pd=>rw[aC] at h;obtain⟨st,ad,b,_⟩:=h;exact⟨st.2.2.2.2.2.1,by rw[ad,aO rfl];dsimp only;rw[b];rfl⟩
 |more op nd ds=>rw[aC] at h;obtain⟨st,c,ad,b,_⟩:=h;exact⟨st.2.2.2.2.2.1,by rw[ad,aO rfl];dsimp only;rw[b];rfl⟩
 |bad r=>rw[aC] at h;obtain⟨st,c,ad,b⟩:=h;exact⟨st.2.2.2.2.2.1,by rw[ad,aO rfl];dsimp only;rw[b];rfl⟩
 |deep q=>rw[aC] at h;obtain⟨st,c,ad,b⟩:=h;exact⟨st.2.2.2.2.2.1,by rw[ad,aO rfl];dsimp only;rw[b];rfl⟩
theorem apH{fr:Bool}{n:Nat}{c z:aa}(aG:y4 c){k:Nat}{r:aa}{pd:aq}(h:hO fr n (c++z)= .ok k r pd):k≠0:=by
 obtain⟨⟨ad,f,g,m,p⟩,i⟩:=aG.facts z;unfold hO at h;rw[EN,uw,aY (jv.2 (sk ad f)),cF,LI ad g (i .text)] at h
 have j:∀{q:aa}{e:aq}{x:Nat⊕Nat}{b:aa}{d:aq},ae (jf fr n) (λ_=>ae (bP []) (hQ .text 0)) q e= .ok x b d->x= .inl 1\/x= .inr 1:=by
  intro q e x b d a;obtain⟨_,r1,s,_,a⟩:=b0 a;obtain⟨t,u,d,_,a⟩:=b0 a;unfold hQ at a;cases t with
  |eof=>cases a;simp
  |line=>obtain⟨_,_,_,_,a⟩:=b0 a;cases a;simp
  |word _ _=>cases a
  |op o=>
   simp only at a;split at a
   ·obtain⟨_,_,_,_,a⟩:=b0 a;obtain⟨_,_,_,_,a⟩:=b0 a;cases a;simp
   ·split at a
    ·cases a;simp
    ·cases a
 cases hm:ae (jf fr n) (λ_=>ae (bP []) (hQ .text 0)) (c++z) [] with
 |ok x b d=>
  rw[hm] at h;rcases j hm with rfl|rfl
  ·unfold cN at h;simp only at h;split at h
   ·have:=aje (ao:=jf fr n) 1 b.length 0 b d (cX _);rw[this] at h;cases l:ca (ed (jf fr n) .text true) 0 b d<;>rw[l] at h<;>cases h;omega
   grind
  ·cases h;decide
 |more _ _ _=>rw[hm] at h;cases h
 |bad _=>rw[hm] at h;cases h
 |deep _=>rw[hm] at h;cases h
theorem apI(u:aa)(j:Unit->Option Bool)(k:Int->Option Bool)(x:Int):Lw u j k x=(bif(decide (x<(u.length:Int))) then
 (a8 (0<=x/\x<(u.length:Int))<|(bif(decide (((at' u x).toNat:Int)=(10:Int))) then
 (a8 (0<=(0:Int)/\(0:Int)<=(W (x+1))/\(W (x+1))<=(u.length:Int))<|
 (av (Aa (b9 u 0 (W (x+1)))) λy=>(bif(decide (y.1=2)) then some false else k (W (x+1))))) else k (W (x+1)))) else j ()):=rfl
theorem apJ{u:aa}(hu:u.length<=900000){j:Unit->Option Bool}(aC:∀p:aa,p++[10]<+:u->∃s a,Aa (p++[10])=some (s,a)/\s≠2):∀(n i:Nat),u.length-i<n->i<=u.length->fixF (Lw u j) n (i:Int)=j ():=by
 intro n;induction n with
 |zero=>omega
 |succ n b=>
  intro i h bg;rw[eZ,apI];by_cases f:i<u.length
  ·have c:W ((i:Int)+1)=((i+1:Nat):Int):=by grind[dU]
   rw[decide_eq_true (by omega:(i:Int)<(u.length:Int)),aK];rw[b8 (show(0:Int)<=(i:Int)/\(i:Int)<(u.length:Int) from⟨by omega,by omega⟩)];simp only[c];have d:=b (i+1) (by omega) (by omega);by_cases e:((at' u (i:Int)).toNat:Int)=10
   ·rw[decide_eq_true e,aK,b8 ⟨by omega,by omega,by omega⟩];have g:at' u (i:Int)=10:=by
     have:(at' u (i:Int)).toNat=10:=by omega
     exact UInt8.toNat_inj.1 this
    have k:b9 u 0 ((i+1:Nat):Int)=u.take i++[10]:=by unfold b9;simp only[F4,v3,Nat.sub_zero,F3];rw[List.take_add_one];grind[at',Int.toNat_natCast]
    obtain⟨s,a,ad,l⟩:=aC (u.take i) (by grind[b9]);simp_all[aO]
   grind
  grind
theorem law_FnPrefix(x0:aa):M_l_FnPrefix x0=some true:=by
 unfold M_l_FnPrefix;by_cases i:(1048576:Int)<(x0.length:Int)
 ·grind
 rw[e4 i,aS];obtain⟨T,ad,A,d,c,z,B,C⟩:=apF x0 (by omega);have D:=apE T;have bd:dv T≠[]:=I6 T;obtain⟨s1,s2⟩:=abq (n:=28) (fr:=false) (m:=30) (by decide) (d 28 (by decide)) (by decide);obtain⟨l,E⟩:=abq (n:=28) (fr:=true) (m:=30) (by decide) (d 28 (by decide)) (by decide);obtain⟨F,e5,_⟩:=abr (s:=T) (by omega) s2;obtain⟨a2,o⟩:=apG (s:=T) (by omega);have g:=s1.uE (d 28 (by decide));have t:=l.uE (d 28 (by decide));rw[ad,aO rfl,e5,aO rfl];dsimp only;rw[o,aO rfl];dsimp only;rw[g,t,decide_eq_true rfl,YX T (by omega)];rw[ajm (show(!true)=false from rfl),e4 bd];simp only[gP,aS];by_cases hk:uE (hO true 28 (dv T))=0
 ·rw[decide_eq_true hk,gP,aS,aO rfl];unfold a9;have aG:=apD (s:=T) (by omega) s2
  have f:∃k r pd,hO false 30 (dv T)= .ok k r pd:=by
   rw[<-g] at hk;cases aC:hO false 30 (dv T) with
   |ok k r pd=>simp
   |more _ _ _=>rw[aC] at hk;cases hk
   |bad _=>rw[aC] at hk;cases hk
   |deep _=>grind
  obtain⟨k,r,pd,f⟩:=f;have:=apJ (u:=dv T) (j:=λ_=>av (EB T) λw=>some (decide (0<w))) (by omega) (λp aC=>?_) bC 0 (lk (by omega)) (by omega)
  ·refine this.trans ?_;rw[aG,aO rfl,f];have G:k≠0:=by grind[apH]
   simp only;rw[decide_eq_true (by omega)]
  ·obtain⟨v,H⟩:=aC;have x:(p++[10]).length<=(dv T).length:=by grind
   have h:du (p++[10]):= .inr ⟨p,rfl⟩
   have b:∀q,hO false 30 (dv (p++[10]))≠ .deep q:=by intro q e;rw[Nj] at e;have:=(aiO (v:=v) h e).2;grind
   obtain⟨a,y,_⟩:=abr (s:=p++[10]) (by grind[Nj]) b;refine⟨_,a,y,?_⟩;rw[Nj] at b⊢;cases e:hO false 30 (p++[10]) with
   |ok _ _ _=>show(0:Int)≠2;decide
   |more _ _ _=>show(1:Int)≠2;decide
   |bad q=>have:=(aiN (v:=v) h e).2;grind
   |deep q=>grind
 grind
end Go.Eng
