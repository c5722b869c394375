/- Part 6 of what FnPrefix needs. No condition. -/
import Derived.Test.YthnjiffnjaaejaaGreatDoorFnPrefixE
set_option linter.all false
namespace Go.Eng
theorem Uo:∀d,(∀w,hZ d w->gq w)/\∀t,iv d t->gq t
 |0=>by
  have hk:∀w∈o_,gq w:=by unfold gq;decide
  exact⟨hk,λt f=>gq.list (λc aF=>gq.simple hk hk aF) f⟩
 |d+1=>by
  obtain⟨g,a⟩:=Uo d
  have hk:∀w∈o_,gq w:=by unfold gq;decide
  have i:∀w,hZ (d+1) w->gq w:=by
   intro w h;rcases h with h|⟨t,ad,h|h⟩|⟨v,ad,h⟩
   ·grind
   ·subst h;exact gq.k (gq.app (by decide) (a t ad)) ⟨by decide,by decide,by decide⟩
   ·subst h;exact gq.k (gq.app (by decide) (a t ad)) ⟨by decide,by decide,by decide⟩
   ·subst h;exact gq.k (gq.app (by decide) (g v ad)) ⟨by decide,by decide,by decide⟩
  refine⟨i,λt f=>gq.list (λc aF=>?_) f⟩;rcases aF with aF|aF
  ·exact gq.simple i hk aF
  ·have k:∀{t:aa}{b:UInt8},iv d t->b≠69->(69:UInt8)∉t++[b]:=λf j=>by simp[(a _ f).1,s3 j]
   rcases aF with⟨t,ad,rfl⟩|⟨t,ad,rfl⟩|⟨t,u,ad,e,rfl⟩|⟨t,u,ad,e,rfl⟩|⟨t,u,ad,e,rfl⟩|⟨w,u,ad,e,rfl⟩|rfl|⟨w,u,ad,e,rfl⟩|⟨t,ad,rfl⟩
   ·exact gq.k (gq.app (by decide) (a t ad)) ⟨by decide,by decide,by decide⟩
   ·exact gq.app (by simp[(a t ad).1]) ⟨by decide,by decide,by decide⟩
   ·exact gq.app (by simp[(a t ad).1,(a u e).1]) ⟨by decide,by decide,by decide⟩
   ·exact gq.app (by simp[(a t ad).1,(a u e).1]) ⟨by decide,by decide,by decide⟩
   ·exact gq.app (by simp[(a t ad).1,(a u e).1]) ⟨by decide,by decide,by decide⟩
   ·exact gq.app (by simp[(g w ad).1,(a u e).1]) ⟨by decide,by decide,by decide⟩
   ·exact⟨by decide,by decide,by decide⟩
   ·exact gq.app (by simp[(g w ad).1,(a u e).1]) ⟨by decide,by decide,by decide⟩
   ·exact gq.app (by simp[(a t ad).1]) ⟨by decide,by decide,by decide⟩
def sX:fw where
 E:={T:=[],N:=λ_=>0,c:=1,Q:=λ_ _=>True}
 ok:=by
  have aF:∀{b:UInt8}{u:aa},¬(b::u<:+[]):=λh=>by grind
  refine⟨cX _,λ_ _ _ _=>cX _,λ_ _ _ _ _ _=>trivial,λ_ _=>trivial,λ_ _ _ _ _ _ _ _ _ _ _=>trivial,λu h=>absurd h aF,λu h=>absurd h aF,λr h ad a=>?_,λu h=>absurd h aF⟩;grind[av,hG]
 c0:=1
theorem sX.nil{pd:aq}:sX.E.H sX.c0 [] pd:=⟨fQ,cX _,trivial⟩
theorem bX.nil{P:aa->Prop}{pd b:aq}{α:Type}{a:α}:bX sX P pd (.ok a [] b):= .inr sX.nil
theorem apR{ao:ak Unit}{no:Bool}{k:Nat}{pd:aq}:cb (eh ao .text no) k [] pd= .ok k [] pd:=by rw[cH,R1,bo rfl];rfl
theorem jb.text{ao:ak Unit}{no:Bool}{x:aa}{pd a:aq}(b:cU (10::x) pd= .ok true [] a):jb sX ao .text no (10::x) (10::x) [] pd:=by refine⟨hK.nl x,rfl,rfl,λk r0 hl=>?_⟩;show bX sX _ pd (cO _ r0 (ae cU (λ_=>aW (.inl (k+1))) (10::x) pd));rw[aZ b];show bX sX _ pd (if _ then cb (eh ao .text no) (k+1) [] a else .bad _);rw[bo (by grind),apR];exact bX.nil
theorem ab1{P:aa->Prop}{pd:aq}{α:Type}{x:dw α}(h:bX sX P pd x):∀q,x≠ .deep q:=by rintro q rfl;exact h
theorem apS{t:aa}(a:iv 3 t){n:Nat}(ax:7<=n):∀q,hT true n (t++[10])≠ .deep q:=by have hk:=NX (X:=sX) (Nat.le_refl _) 3 (by decide) n (by show 1+6<=n;omega);have:=hk.ls (pre:=[]) (t:=t) (v:=[10]) (ctx:= .text) (no:=true) (pd:=[]) (.inl rfl) a.cc (jb.text (ajH rfl)) dD.nil;exact ab1 this
theorem ab2:∀(r:aa),r=(iN r).1/\(iN r).2=[]\/r=(iN r).1++10::(iN r).2
 |[]=> .inl ⟨rfl,rfl⟩
 |b::t=>by
  unfold iN;by_cases h:b=10
  ·grind
  simp_all[ab2]
theorem apT:∀(n:Nat)(r q:aa),r.length<=n->nx [69] false r=some q->∃p s,r=p++69::s/\(s=[]/\q=[]\/s=10::q):=by
 intro n;induction n with
 |zero=>simp_all[nx]
 |succ n e=>
  intro r q ax h;cases r with
  |nil=>grind
  |cons b t=>
   rw[CP] at h;simp only[ew,cl] at h;have c:=ab2 (b::t);have a:=Mc (b::t) (by simp);by_cases hl:(iN (b::t)).1=[69]
   ·rw[bo hl] at h;cases h;rcases c with⟨ad,d⟩|ad
    ·exact⟨[],[],by grind,.inl ⟨rfl,d⟩⟩
    ·exact⟨[],10::(iN (b::t)).2,by grind,.inr rfl⟩
   grind
theorem apU{t:aa}(i:(69:UInt8)∉t):dD sX [([69],false)] (t++mz):=by
 intro z r' d j;right;have k:r'=[]:=by
  have ad:nx [69] false z=some r':=by grind[mc]
  obtain⟨p,s,e,l⟩:=apT z.length z r' (cX _) ad;obtain⟨y,f⟩:=d;rw[e] at f;have g:(y++10::p)++69::s=(t++[10,98,111,100,121,10])++69::[10]:=by grind[mz]
  have m:s=[10]:=by
   rcases List.append_eq_append_iff.1 g with⟨a,h,b⟩|⟨a,h,b⟩
   ·cases a with
    |nil=>grind
    |cons c a=>
     simp only[gX,Dz] at b;have:(69:UInt8)∈t++[10,98,111,100,121,10]:=by grind
     grind
   ·cases a with
    |nil=>grind
    |cons c a=>
     simp only[gX,Dz] at b;obtain⟨rfl,b⟩:=b;have:(69:UInt8)∈[(10:UInt8)]:=by grind
     grind
  grind
 grind[sX.nil]
abbrev p2:aq:=[([69],false)]
theorem apV:cU mz p2= .ok true [] []:=by
 have a:mc p2 [98,111,100,121,10,69,10]= .inl []:=by
  unfold mc;have:nx [69] false [98,111,100,121,10,69,10]=some []:=by rw[CP];simp only[ew,cl];rw[aS (by decide)];show nx [69] false [69,10]=_;rw[CP];decide
  simp only[this];rfl
 rw[show mz=10::[98,111,100,121,10,69,10] from rfl,sE,cH,uP (hK.nl _).rY];have:ae jj (λ_=>aW (.inl true)) (10::[98,111,100,121,10,69,10]) p2=(.ok (.inl true) [] []:dw (Bool⊕Bool)):=by unfold ae;rw[tu,a];rfl
 rw[this];show(if([]:aa).length<(10::[98,111,100,121,10,69,10]:aa).length then cb h9 true [] [] else .bad [])=_;rw[bo (by decide),cH,rM mg (by decide)];rfl
theorem ar_{b:UInt8}{t:aa}(h:o2 b=false)(a:b≠45):bs (60::60::b::t)=[60,60]:=by simp only[o2,GF,J4,ne_eq] at h;simp_all[bs,lq,s3]
theorem apW{lo:Option dU}{D:ak Unit}{z:aa}(a:c3 z=true)(c:z≠[])(g:bx z=some z){o:aa}(h:av z= .op o)(ad:e2 o=false)(i:o≠[40]):gm true lo D ([99,97,116]++([32,60,60,69]++z)) []= .ok () z p2:=by
 have j:hK z z:=⟨c,a,g,.inr ⟨o,h,ad,i⟩⟩;obtain⟨k,f⟩:=n0 (w:=[99,97,116]) (r:=[32,60,60,69]++z) (by decide) (by decide) (by decide) rfl;have s1:bx ([32,60,60,69]++z)=some (60::60::69::z):=by show bx (32::60::60::69::z)=_;rw[k1];exact kO (by decide) (by decide) (by decide)
 have v:dF D ([32,60,60,69]++z) []= .ok true z p2:=by
  have l:fJ ([32,60,60,69]++z) []= .ok (some [60,60]) (69::z) []:=by unfold fJ;rw[s1];rfl
  unfold dF;rw[aZ l];simp only;rw[bo trivial];have m:hr false (69::z) []= .ok () z p2:=by
   obtain⟨n,p⟩:=n0 (w:=[69]) (r:=z) (by decide) (by decide) (by decide) a;have d:bx (69::z)=some (69::z):=p;have e:av (69::z)= .word [69] true:=n;unfold hr;rw[d];simp only[e];have aE:dt (69::z)=some ([69],z,[]):=by
    have q:c3 (69::z)=false:=R8 (by decide);rw[Fj,aS (by grind),if_neg (by decide),if_neg (by decide),if_neg (by decide),if_neg (by decide)];have:dt z=some ([],z,[]):=by
     cases z with
     |nil=>grind
     |cons b t=>rw[Fj,bo a]
    grind
   grind
  rw[aZ m];rfl
 unfold gm;rw[aZ (cB f),k,aS (by simp),aS (by decide)];simp only;rw[aS (by decide),aZ (show dF D ([99,97,116]++([32,60,60,69]++z)) []= .ok false ([99,97,116]++([32,60,60,69]++z)) [] from Yg f (by decide) (by decide)),aS (by simp),aZ (Gz (by decide) rfl (by simp)),bo (by decide),aZ (cB s1)];have s:av (60::60::69::z)= .op [60,60]:=by rfl
 rw[s,aS (by decide)];have u:dF D (60::60::69::z) []= .ok true z p2:=by
  have:dF D (60::60::69::z) []=dF D ([32,60,60,69]++z) []:=by have s2:=lO _ _ _ (cX _) s1;simp_all[dF,ae,fJ]
  grind
 unfold hH;rw[cH,aZ u,bo rfl];show(if _ then hH true D z p2 else .bad _)=_;rw[bo (by grind)];exact j.simple D p2
theorem ap0{t:aa}(a:iv 3 t){n:Nat}(ax:8<=n):∀q,hT true n (rX++t++mz)≠ .deep q:=by
 obtain⟨m,rfl⟩:∃m,n=m+1:=⟨n-1,by omega⟩
 have h:=(Uo 3).2 t a;have i:=NX (X:=sX) (Nat.le_refl _) 3 (by decide) (m+1) (by show 1+6<=m+1;omega);have j:dD sX p2 (t++mz):=apU h.1;have u:=i.rd (v:=mz) (ctx:= .text) (no:=true) (pd:=p2) 1 a.cc (jb.text apV) j;obtain⟨c,l,ad,x,y⟩:=a.cc;obtain⟨⟨k,f,o,A,B⟩,C⟩:=ad.aE.facts (cZ l++mz);have b:t++mz=c++(cZ l++mz):=by grind
 rw[<-b] at k f o;have g:(t++mz).length<([99,97,116]++([32,60,60,69]++(59::32::(t++mz)))).length:=by grind
 have he:rX++t++mz=[99,97,116]++([32,60,60,69]++(59::32::(t++mz))):=by rfl
 generalize t++mz=z at*;have d:av (59::32::z)= .op [59]:=NV (by decide);have p:=hK.op (xP (32::z)) d (by decide) (by decide);obtain⟨D,e⟩:=n0 (w:=[99,97,116]) (r:=[32,60,60,69]++(59::32::z)) (by decide) (by decide) (by decide) rfl;have e7:jn true (m+1) ([99,97,116]++([32,60,60,69]++(59::32::z))) []= .ok () (59::32::z) p2:=
  (ajI e (by rfl) (apW p.p1 (by simp) (xP _) d (by decide) (by decide)) (xP _) (by grind) (by grind) (by grind)).2
 have s:hT true (m+1) ([99,97,116]++([32,60,60,69]++(59::32::z)))=cb (eh (jn true (m+1)) .text true) 1 z p2:=by
  unfold hT;rw[Fq,uO,aZ (jC.2 (sG e (by grind))),cH,Mm e (by grind) (by rfl),aZ e7,aZ (cB (xP _)),d];have:hX .text 0 (.op [59]) (59::32::z) p2= .ok (.inl 1) z p2:=by unfold hX;simp only;rw[if_pos (by simp),aZ (show b2 1 (59::32::z) p2= .ok () (32::z) p2 from rfl),aZ (sG (by grind[k1]) f)];rfl
  rw[this];show(if _ then cb (eh (jn true (m+1)) .text true) 1 z p2 else .bad _)=_;grind
 grind[ab1]
end Go.Eng
namespace Go.Eng
open Go Go.Proofs
theorem ap2{s:aa}(b:(dz s).length<=1000000)(aE:∀q,hT false 30 (dz s)≠ .deep q):Fc s=some (match hT false 30 (dz s) with| .ok a _ _=>(a:Int)|_=> -1):=by
 have h:=Zz s b;unfold Fc;cases aB:hT false 30 (dz s) with
 |ok a r pd=>simp_all[aP]
 |more op nd ds=>simp_all[aP]
 |bad r=>rw[aB] at h;obtain⟨_,op,h⟩:=h;simp_all[aP]
 |deep q=>grind
theorem ab3{r:aa}{n:Nat}(ax:n<=30)(h:∀q,hT true n r≠ .deep q){fr:Bool}{m:Nat}(hm:n<=m):AQ (hT true n r) (hT fr m r)/\∀q,hT fr m r≠ .deep q:=by grind[AQ,ajA]
def n_(x:dw Nat):Int:=match x with| .ok a _ _=>(a:Int)|_=> -1
theorem NY(t:aa):dz (t++[10])=t++[10]:=bo (by simp)
theorem ap3(s:aa):(dz s).length<=s.length+1:=by grind[dz]
theorem ap4(x0:aa)(b:x0.length<=1048576):∃T,Fb x0=some T/\T.length<=470000/\(∀n,8<=n->∀q,hT true n (dz T)≠ .deep q)/\∃c z,dz T=c++z/\zw c:=by
 obtain⟨t,T,ad,a,f,d⟩:=aoV x0 b;refine⟨T,ad,?_⟩;have bf:=(Uo 3).2 t a;rcases d with rfl|rfl
 ·have he:dz T=T++[10]:=aS bf.2.2;refine⟨by omega,λn ax=>?_,?_⟩
  ·grind[apS]
  ·obtain⟨c,l,e,g,h⟩:=a.cc;exact⟨c,cZ l++[10],by grind,e.aE⟩
 ·have he:dz (rX++t++mz)=rX++t++mz:=by have:=NY (rX++t++[10,98,111,100,121,10,69]);simp_all[mz]
  refine⟨by grind[rX,mz,List.length_cons],λn ax=>?_,?_⟩
  ·grind[ap0]
  ·exact⟨[99],[97,116,32,60,60,69,59,32]++t++mz,by grind[rX],⟨_,_,rfl,by decide,by decide,by decide,by decide,by decide,.inr ⟨by decide,.inl (by decide)⟩⟩⟩
def uW(x:dw Nat):Int:=match x with| .ok _ _ _=>0| .more _ _ _=>1|_=>2
theorem AQ.uW{x y:dw Nat}(h:AQ x y)(a:∀q,x≠ .deep q):uW y=uW x:=by
 rcases h with⟨q,h⟩|rfl|⟨_,_,_,_,rfl,rfl⟩
 ·grind
 ·rfl
 ·rfl
theorem ab4{s:aa}(b:(dz s).length<=1000000)(aE:∀q,hT false 30 (dz s)≠ .deep q):∃a:Int,AL s=some (uW (hT false 30 (dz s)),a)/\(uW (hT false 30 (dz s))≠2->a=((dz s).length:Int)):=by
 have h:=Zz s b;unfold AL;cases aB:hT false 30 (dz s) with
 |ok a r pd=>rw[aB] at h;dsimp only at h;exact⟨_,by rw[h,aP rfl];rfl,λ_=>rfl⟩
 |more op nd ds=>rw[aB] at h;dsimp only at h;exact⟨_,by rw[h,aP rfl];rfl,λ_=>rfl⟩
 |bad r=>rw[aB] at h;obtain⟨_,op,h⟩:=h;exact⟨_,by rw[h,aP rfl];rfl,λc=>absurd rfl c⟩
 |deep q=>grind
theorem ap5{s:aa}(d:(dz s).length<=1000000):∃a:Int,IM s=some (uW (hT true 30 (dz s)),a):=by
 have h:=aoh d;unfold IM;cases aB:hT true 30 (dz s) with
 |ok a r pd=>rw[aB] at h;obtain⟨st,ad,b,_⟩:=h;exact⟨st.2.2.2.2.2.1,by rw[ad,aP rfl];dsimp only;rw[b];rfl⟩
 |more op nd ds=>rw[aB] at h;obtain⟨st,c,ad,b,_⟩:=h;exact⟨st.2.2.2.2.2.1,by rw[ad,aP rfl];dsimp only;rw[b];rfl⟩
 |bad r=>rw[aB] at h;obtain⟨st,c,ad,b⟩:=h;exact⟨st.2.2.2.2.2.1,by rw[ad,aP rfl];dsimp only;rw[b];rfl⟩
 |deep q=>rw[aB] at h;obtain⟨st,c,ad,b⟩:=h;exact⟨st.2.2.2.2.2.1,by rw[ad,aP rfl];dsimp only;rw[b];rfl⟩
theorem ap6{fr:Bool}{n:Nat}{c z:aa}(aF:zw c){k:Nat}{r:aa}{pd:aq}(h:hT fr n (c++z)= .ok k r pd):k≠0:=by
 obtain⟨⟨ad,f,g,m,p⟩,i⟩:=aF.facts z;unfold hT at h;rw[Fq,uO,aZ (jC.2 (sG ad f)),cH,Mm ad g (i .text)] at h
 have j:∀{q:aa}{e:aq}{x:Nat⊕Nat}{b:aa}{d:aq},ae (jn fr n) (λ_=>ae (bQ []) (hX .text 0)) q e= .ok x b d->x= .inl 1\/x= .inr 1:=by
  intro q e x b d a;obtain⟨_,r1,s,_,a⟩:=b3 a;obtain⟨t,u,d,_,a⟩:=b3 a;unfold hX at a;cases t with
  |eof=>cases a;simp
  |line=>obtain⟨_,_,_,_,a⟩:=b3 a;cases a;simp
  |word _ _=>cases a
  |op o=>
   simp only at a;split at a
   ·obtain⟨_,_,_,_,a⟩:=b3 a;obtain⟨_,_,_,_,a⟩:=b3 a;cases a;simp
   ·split at a
    ·cases a;simp
    ·cases a
 cases hm:ae (jn fr n) (λ_=>ae (bQ []) (hX .text 0)) (c++z) [] with
 |ok x b d=>
  rw[hm] at h;rcases j hm with rfl|rfl
  ·unfold cO at h;simp only at h;split at h
   ·have:=ajE (ao:=jn fr n) 1 b.length 0 b d (cX _);rw[this] at h;cases l:cb (eh (jn fr n) .text true) 0 b d<;>rw[l] at h<;>cases h;omega
   grind
  ·cases h;decide
 |more _ _ _=>rw[hm] at h;cases h
 |bad _=>rw[hm] at h;cases h
 |deep _=>rw[hm] at h;cases h
theorem ap7(u:aa)(j:Unit->Option Bool)(k:Int->Option Bool)(x:Int):Mb u j k x=(bif(decide (x<(u.length:Int))) then
 (a9 (0<=x/\x<(u.length:Int))<|(bif(decide (((at' u x).toNat:Int)=(10:Int))) then
 (a9 (0<=(0:Int)/\(0:Int)<=(W (x+1))/\(W (x+1))<=(u.length:Int))<|
 (aw (AL (b_ u 0 (W (x+1)))) λy=>(bif(decide (y.1=2)) then some false else k (W (x+1))))) else k (W (x+1)))) else j ()):=rfl
theorem ap8{u:aa}(hu:u.length<=900000){j:Unit->Option Bool}(aB:∀p:aa,p++[10]<+:u->∃s a,AL (p++[10])=some (s,a)/\s≠2):∀(n i:Nat),u.length-i<n->i<=u.length->fixF (Mb u j) n (i:Int)=j ():=by
 intro n;induction n with
 |zero=>omega
 |succ n b=>
  intro i h a8;rw[e5,ap7];by_cases f:i<u.length
  ·have c:W ((i:Int)+1)=((i+1:Nat):Int):=by grind[dW]
   rw[decide_eq_true (by omega:(i:Int)<(u.length:Int)),aK];rw[b9 (show(0:Int)<=(i:Int)/\(i:Int)<(u.length:Int) from⟨by omega,by omega⟩)];simp only[c];have d:=b (i+1) (by omega) (by omega);by_cases e:((at' u (i:Int)).toNat:Int)=10
   ·rw[decide_eq_true e,aK,b9 ⟨by omega,by omega,by omega⟩];have g:at' u (i:Int)=10:=by
     have:(at' u (i:Int)).toNat=10:=by omega
     exact UInt8.toNat_inj.1 this
    have k:b_ u 0 ((i+1:Nat):Int)=u.take i++[10]:=by unfold b_;simp only[GH,tW,Nat.sub_zero,GG];rw[List.take_add_one];grind[at',Int.toNat_natCast]
    obtain⟨s,a,ad,l⟩:=aB (u.take i) (by grind[b_]);simp_all[aP]
   grind
  grind
theorem law_FnPrefix(x0:aa):M_l_FnPrefix x0=some true:=by
 unfold M_l_FnPrefix;by_cases i:(1048576:Int)<(x0.length:Int)
 ·grind
 rw[e9 i,aR];obtain⟨T,ad,A,d,c,z,B,C⟩:=ap4 x0 (by omega);have D:=ap3 T;have bc:dz T≠[]:=JL T;obtain⟨s1,s2⟩:=ab3 (n:=28) (fr:=false) (m:=30) (by decide) (d 28 (by decide)) (by decide);obtain⟨l,E⟩:=ab3 (n:=28) (fr:=true) (m:=30) (by decide) (d 28 (by decide)) (by decide);obtain⟨F,e_,_⟩:=ab4 (s:=T) (by omega) s2;obtain⟨a2,o⟩:=ap5 (s:=T) (by omega);have g:=s1.uW (d 28 (by decide));have t:=l.uW (d 28 (by decide));rw[ad,aP rfl,e_,aP rfl];dsimp only;rw[o,aP rfl];dsimp only;rw[g,t,decide_eq_true rfl,Zy T (by omega)];rw[ajM (show(!true)=false from rfl),e9 bc];simp only[gW,aR];by_cases hk:uW (hT true 28 (dz T))=0
 ·rw[decide_eq_true hk,gW,aR,aP rfl];unfold a_;have aF:=ap2 (s:=T) (by omega) s2
  have f:∃k r pd,hT false 30 (dz T)= .ok k r pd:=by
   rw[<-g] at hk;cases aB:hT false 30 (dz T) with
   |ok k r pd=>simp
   |more _ _ _=>rw[aB] at hk;cases hk
   |bad _=>rw[aB] at hk;cases hk
   |deep _=>grind
  obtain⟨k,r,pd,f⟩:=f;have:=ap8 (u:=dz T) (j:=λ_=>aw (Fc T) λw=>some (decide (0<w))) (by omega) (λp aB=>?_) bC 0 (lz (by omega)) (by omega)
  ·refine this.trans ?_;rw[aF,aP rfl,f];have G:k≠0:=by grind[ap6]
   simp only;rw[decide_eq_true (by omega)]
  ·obtain⟨v,H⟩:=aB;have x:(p++[10]).length<=(dz T).length:=by grind
   have h:dx (p++[10]):= .inr ⟨p,rfl⟩
   have b:∀q,hT false 30 (dz (p++[10]))≠ .deep q:=by intro q e;rw[NY] at e;have:=(ajd (v:=v) h e).2;grind
   obtain⟨a,y,_⟩:=ab4 (s:=p++[10]) (by grind[NY]) b;refine⟨_,a,y,?_⟩;rw[NY] at b⊢;cases e:hT false 30 (p++[10]) with
   |ok _ _ _=>show(0:Int)≠2;decide
   |more _ _ _=>show(1:Int)≠2;decide
   |bad q=>have:=(ajc (v:=v) h e).2;grind
   |deep q=>grind
 grind
end Go.Eng
